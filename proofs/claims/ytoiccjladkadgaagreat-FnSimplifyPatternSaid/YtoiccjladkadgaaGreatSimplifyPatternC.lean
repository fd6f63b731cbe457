/- A part of the proof. -/
import Derived.Test.YtoiccjladkadgaaGreatProg
import Derived.Test.YtoiccjladkadgaaGreatSimplifyPatternF
import Derived.Test.YtoiccjladkadgaaGreatSimplifyPatternC2
import Derived.Test.YtoiccjladkadgaaGreatVlSort
import Derived.Test.YtoiccjladkadgaaGreatShelf
namespace Go.Proofs.YtoiccjladkadgaaGreat
open Go Go.Proofs Go.Vl
open abr renaming sp->aS,ns->aN
open Leave renaming go->lG
open Again renaming go->aG
open ALoopU renaming know->kN,enter->eN
open Gh renaming to3->gT,refl->gR
open PureCall renaming enterLe->pE
open Go.IntKind (i64)
set_option linter.all false
set_option maxRecDepth 100000
set_option maxHeartbeats 4000000
set_option synthInstance.maxSize 100000
set_option synthInstance.maxHeartbeats 4000000
attribute [local irreducible] ECallA ZF1 aL aLg AMake MLoop AgainM LeaveM ZBK ZA6 MutCall BCall chk abr ACall ALoop ALoopU ADraw Again Leave ZDs PCall ZAV awp ZG1 PureCall hold
variable (B : Nat) (hB1 : 67108864 <= B) (hB2 : B <= 9223372036854775807)
include hB1 hB2
theorem CC.f190 (v12:List Vl.Value):(∀(i:Nat) (out:List Vl.Value) (o:List Vl.Value),F.f190 v12 i out=some o->∀(c:Code),Zf [1,1,1,0,1,0,0] (ZL Tryz.f13)=some c->∀(Q:Exit->ASt->Prop),(Q (.exit 0) ⟨[(8,.own 1 (List.length (α:=Vl.Value) o))],[.dead,.elems 3 (List.map Vl.Value.c o)]⟩)->ALoopU Tryz.prog B 0 43 (hold c .mk) ⟨[(8,.own 1 (List.length (α:=Vl.Value) out)),(30,am Vl.Value.c v12),(31,li (v12.length:Int)),(32,li (i:Int))],[.dead,.elems 3 (List.map Vl.Value.c out)]⟩ (hold Q .mk)):=by
 refine F.f190.partial_correctness v12
  _
  ?_
 ·intro _f_f190 ih_f190 i out o hF
  intro c hc Q hq
  obtain rfl:c=_:=ZQ hc rfl
  refine kN fun hk hs=> ?_
  have b30:=hk 30
  simp -dsimp at b30
  have d1:=hs 1 _ rfl
  simp -dsimp[Blk.bnd]at d1
  clear hk hs
  refine eN ?_
  repeat first|refine cg ?_|simp -dsimp
  revert hF;refine aS ?_ ?_<;>intro h14 q15 hF
  ·have z16:((i:Int)<(v12.length:Int)):=auz
   have hF:=ob hF;obtain⟨x,e17,hF⟩:=hF
   have le17:=ZB e17
   repeat first|refine cg ?_|simp -dsimp[h14,z16,↓e17]
   have hF:=ob hF;obtain⟨v18,e19,hF⟩:=hF
   refine(((CC.f188 B hB1 hB2).1 x v18 e19)).goW (by simp_all) (by simp) ?_
   have hF:=oc hF;obtain⟨c20,hF⟩:=hF
   have w21:i64.wrap ((i:Int)+1)=(i:Int)+1:=ZF (by omega) (by omega)
   repeat first|refine cg ?_|simp -dsimp[w21]
   refine aG _ ?_ ((ih_f190 (i+1) (out++[v18]) o hF) _ rfl _ hq)
   exact(gT (by simp) (by simp_all))
  ·have z16:¬((i:Int)<(v12.length:Int)):=auz
   cases hF
   repeat first|refine cg ?_|simp -dsimp[h14,q15,z16]
   refine lG _ (gT (by simp) (by simp_all)) hq
theorem C.f191 (w:List Vl.Data)(t:Ty)(depth:Int)(r:(List Vl.Value)×Bool)(hF:F.f191 w t depth=some r):PureCall Tryz.prog B 13 [am Vl.Data.c w,.agg [li t.data,li t.index],li depth] (.tup [am Vl.Value.c r.1,.lit (.bool r.2)]):=by
 unfold F.f191 at hF
 refine pE Tryz.func13 (by kernel_rfl) rfl Tryz.ntmps13 (by simp) (by simp) ?_
 repeat first|refine cg ?_|simp -dsimp
 have hF:=ob hF;obtain⟨v,e1,hF⟩:=hF
 refine((C.f106 B hB1 hB2 w t v e1)).goW (by simp) (by simp) ?_
 repeat first|refine cg ?_|simp -dsimp
 revert hF;refine aS (fun h2 q3 hF=> ?_) (fun h2 q3 hF=> ?_)
 ·repeat first|refine cg ?_|simp -dsimp[h2]
  have hF:=ob hF;obtain⟨v4,e5,hF⟩:=hF
  refine((C.f93 B hB1 hB2 depth 0 4 v4 e5)).goW (by simp[h2]) (by simp) ?_
  repeat first|refine cg ?_|simp -dsimp[h2]
  revert hF;refine aS (fun h6 q7 hF=> ?_) (fun h6 q7 hF=> ?_)
  ·repeat first|refine cg ?_|simp -dsimp[h2,h6]
   have hF:=ob hF;obtain⟨v8,e9,hF⟩:=hF
   refine(((CC.f173 B hB1 hB2 w).1 t depth v8 e9)).goW (by simp[h2,h6]) (by simp) ?_
   repeat first|refine cg ?_|simp -dsimp[h2,h6]
   revert hF;refine aS ?_ ?_<;>intro h10 q11 hF
   ·cases hF
    repeat first|refine cg ?_|simp -dsimp[h2,h6,h10]
   ·repeat first|refine cg ?_|simp -dsimp[h2,h6,h10,q11]
    have hF:=ob hF;obtain⟨v12,e13,hF⟩:=hF
    refine(((CC.f185 B hB1 hB2 w).1 t depth v12 e13)).goW (by simp[h2,h6,h10,q11]) (by simp) ?_
    repeat first|refine cg ?_|simp -dsimp[h2,h6,h10,q11]
    have hF:=ob hF;obtain⟨o',ho22,hF⟩:=hF
    refine ALoop.goU ⟨[(8,.own 1 (List.length (α:=Vl.Value) [])),(30,.arr (List.map Vl.Value.c v12)),(31,.lit (.int .i64 (v12.length:Int))),(32,.lit (.int .i64 0))],[.dead,.elems 3 (List.map Vl.Value.c [])]⟩ (by refine Gh.trans (Gh.nil 8 3 (by simp -dsimp)) ?_;exact(gT (by simp) (by simp -dsimp[h2,h6,h10,q11]))) ?_
    refine((CC.f190 B hB1 hB2 v12) 0 [] o' ho22) _ rfl _ ?_
    cases hF
    repeat first|refine cg ?_|simp -dsimp
  ·cases hF
   repeat first|refine cg ?_|simp -dsimp[h2,h6,q7]
 ·cases hF
  repeat first|refine cg ?_|simp -dsimp[h2,q3]
theorem CC.f192 (w:List Vl.Data)(holes:Bool):(∀(t:Ty) (v:Vl.Value) (deep:Int) (count:Int) (r:Bool×Int),F.f192 w t v deep holes count=some r->MutCall Tryz.prog B 91 [li count] [am Vl.Data.c w,.agg [li t.data,li t.index],.agg [li v.ctor,li v.n,am Vl.Value.c v.kids],li deep,.lit (.bool holes),.ptr 0 0] (.lit (.bool r.1)) [li r.2])/\
  (∀(v:Vl.Value) (deep:Int) (v60:List Ty) (z65:Int) (i66:Nat) (o:Lo (Bool×Int) Int),F.f194 w v deep holes v60 z65 i66=some o->∀(c:Code),Zf [1,1,1,1,1,1,0,1,0,0] (ZL Tryz.f91)=some c->∀(Q:Exit->ASt->Prop),o.post (fun r=>∀st,ZAV Tryz.prog Tryz.f91 (fun r' σ'=>r'.le (.lit (.bool r.1))/\ZCI σ' [li r.2]) .ret st->Q .ret st) (fun s=>Q (.exit 1) ⟨[],[.cells [li s]]⟩)->ALoopU Tryz.prog B 1 108 (hold c .mk) ⟨[(0,am Vl.Data.c w),(3,li deep),(4,.lit (.bool holes)),(5,.ptr 0 0),(13,am Ty.c v60),(88,am Vl.Value.c v.kids),(89,li (v.kids.length:Int)),(90,li (i66:Int))],[.cells [li z65]]⟩ (hold Q .mk))/\
  (∀(v:Vl.Value) (deep:Int) (v27:List Ty) (z:Int) (i:Nat) (o:Lo (Bool×Int) Int),F.f193 w v deep holes v27 z i=some o->∀(c:Code),Zf [1,1,1,1,1,1,0,1,0,0] (ZL Tryz.f91)=some c->∀(Q:Exit->ASt->Prop),o.post (fun r=>∀st,ZAV Tryz.prog Tryz.f91 (fun r' σ'=>r'.le (.lit (.bool r.1))/\ZCI σ' [li r.2]) .ret st->Q .ret st) (fun s=>Q (.exit 1) ⟨[],[.cells [li s]]⟩)->ALoopU Tryz.prog B 1 108 (hold c .mk) ⟨[(0,am Vl.Data.c w),(3,li deep),(4,.lit (.bool holes)),(5,.ptr 0 0),(13,am Ty.c v27),(88,am Vl.Value.c v.kids),(89,li (v.kids.length:Int)),(90,li (i:Int))],[.cells [li z]]⟩ (hold Q .mk)):=by
 refine F.f192.mutual_partial_correctness w holes
  _ _ _
  ?_ ?_ ?_
 ·intro _f_f194 _f_f193 ih_f194 ih_f193 t v deep count r hF
  refine MutCall.enter Tryz.func91 (by kernel_rfl) rfl Tryz.ntmps91 (by simp) (by simp) (by simp) (by simp) ?_
  repeat first|refine cg ?_|simp -dsimp
  revert hF;refine aN ?_ ?_<;>intro h1 q2 hF
  ·repeat first|refine cg ?_|simp -dsimp[h1,q2]
   revert hF;refine aS ?_ ?_<;>intro h3 q4 hF
   ·cases hF
    repeat first|refine cg ?_|simp -dsimp[h1,q2,h3]
    all_goals(try first|omega|rfl)
   ·repeat first|refine cg ?_|simp -dsimp[h1,q2,h3,q4]
    revert hF;refine aS (fun h5 q6 hF=> ?_) (fun h5 q6 hF=> ?_)
    ·repeat first|refine cg ?_|simp -dsimp[h1,q2,h3,q4,h5]
     revert hF;refine aS ?_ ?_<;>intro h7 q8 hF
     ·repeat first|refine cg ?_|simp -dsimp[h1,q2,h3,q4,h5,h7]
      revert hF;refine aS ?_ ?_<;>intro h9 q10 hF
      ·cases hF
       repeat first|refine cg ?_|simp -dsimp[h1,q2,h3,q4,h5,h7,h9]
       all_goals(try first|omega|rfl)
      ·cases hF
       repeat first|refine cg ?_|simp -dsimp[h1,q2,h3,q4,h5,h7,h9,q10]
       all_goals(try first|omega|rfl)
     ·repeat first|refine cg ?_|simp -dsimp[h1,q2,h3,q4,h5,h7,q8]
      revert hF;refine aS ?_ ?_<;>intro h11 q12 hF
      ·repeat first|refine cg ?_|simp -dsimp[h1,q2,h3,q4,h5,h7,q8,h11]
       revert hF;refine aS ?_ ?_<;>intro h13 q14 hF
       ·repeat first|refine cg ?_|simp -dsimp[h1,q2,h3,q4,h5,h7,q8,h11,h13]
        have hF:=ob hF;obtain⟨v15,e16,hF⟩:=hF
        refine((C.f93 B hB1 hB2 v.n 0 9 v15 e16)).goW (by first|simp[h1,q2,h3,q4,h5,h7,q8,h11,h13];done|simp_all) (by simp) ?_
        repeat first|refine cg ?_|simp -dsimp[h1,q2,h3,q4,h5,h7,q8,h11,h13]
        revert hF;refine aS (fun h17 q18 hF=> ?_) (fun h17 q18 hF=> ?_)
        ·cases hF
         repeat first|refine cg ?_|simp -dsimp[h1,q2,h3,q4,h5,h7,q8,h11,h13,h17]
         all_goals(try first|omega|rfl)
        ·cases hF
         repeat first|refine cg ?_|simp -dsimp[h1,q2,h3,q4,h5,h7,q8,h11,h13,h17,q18]
         all_goals(try first|omega|rfl)
       ·cases hF
        repeat first|refine cg ?_|simp -dsimp[h1,q2,h3,q4,h5,h7,q8,h11,h13,q14]
        all_goals(try first|omega|rfl)
      ·repeat first|refine cg ?_|simp -dsimp[h1,q2,h3,q4,h5,h7,q8,h11,q12]
       refine ADraw.simple follows (by kernel_rfl) (by kernel_rfl) ?_
       repeat first|refine cg ?_|simp -dsimp[h1,q2,h3,q4,h5,h7,q8,h11,q12]
       revert hF;refine aS ?_ ?_<;>intro h19 q20 hF
       ·repeat first|refine cg ?_|simp -dsimp[h1,q2,h3,q4,h5,h7,q8,h11,q12,h19]
        have hF:=ob hF;obtain⟨v21,e22,hF⟩:=hF
        refine((C.f110 B hB1 hB2 w t v21 e22)).pgoW (by first|simp[h1,q2,h3,q4,h5,h7,q8,h11,q12,h19];done|simp_all) (by simp) ?_
        repeat first|refine cg ?_|simp -dsimp[h1,q2,h3,q4,h5,h7,q8,h11,q12,h19]
        have hF:=ob hF;obtain⟨v23,e24,hF⟩:=hF
        refine((C.f113 B hB1 hB2 v21 v.ctor v23 e24)).pgoW (by first|simp[h1,q2,h3,q4,h5,h7,q8,h11,q12,h19];done|simp_all) (by simp) ?_
        repeat first|refine cg ?_|simp -dsimp[h1,q2,h3,q4,h5,h7,q8,h11,q12,h19]
        revert hF;refine aN (fun h25 q26 hF=> ?_) (fun h25 q26 hF=> ?_)
        ·cases hF
         repeat first|refine cg ?_|simp -dsimp[h1,q2,h3,q4,h5,h7,q8,h11,q12,h19,h25,q26]
         all_goals(try first|omega|rfl)
        ·repeat first|refine cg ?_|simp -dsimp[h1,q2,h3,q4,h5,h7,q8,h11,q12,h19,h25,q26]
         have hF:=ob hF;obtain⟨v27,e28,hF⟩:=hF
         refine((C.f116 B hB1 hB2 w t v.ctor v27 e28)).goW (by first|simp[h1,q2,h3,q4,h5,h7,q8,h11,q12,h19,h25,q26];done|simp_all) (by simp) ?_
         repeat first|refine cg ?_|simp -dsimp[h1,q2,h3,q4,h5,h7,q8,h11,q12,h19,h25,q26]
         revert hF;refine aN ?_ ?_<;>intro h29 q30 hF
         ·have z31:¬((v27.length:Int)=(v.kids.length:Int)):=auz
          cases hF
          repeat first|refine cg ?_|simp -dsimp[h1,q2,h3,q4,h5,h7,q8,h11,q12,h19,h25,q26,h29,q30,z31]
          all_goals(try first|omega|rfl)
         ·have z31:((v27.length:Int)=(v.kids.length:Int)):=auz
          repeat first|refine cg ?_|simp -dsimp[h1,q2,h3,q4,h5,h7,q8,h11,q12,h19,h25,q26,h29,q30,z31]
          have hF:=ob hF;obtain⟨o',ho43,hF⟩:=hF
          refine ALoop.goU _ ?_ ((ih_f193 v deep v27 (i64.wrap (count+1)) 0 o' ho43) _ rfl _ ?_)
          ·exact(gT (by simp) (by first|simp -dsimp[h1,q2,h3,q4,h5,h7,q8,h11,q12,h19,h25,q26,h29,q30,z31];done|simp_all))
          rcases o' with r0|sx
          ·dsimp only at hF
           cases hF
           intro st h
           simpa using h
          ·dsimp only at hF
           cases hF
           repeat first|refine cg ?_|simp -dsimp
           all_goals(try first|omega|rfl)
       ·cases hF
        repeat first|refine cg ?_|simp -dsimp[h1,q2,h3,q4,h5,h7,q8,h11,q12,h19,q20]
        all_goals(try first|omega|rfl)
    ·repeat first|refine cg ?_|simp -dsimp[h1,q2,h3,q4,h5,q6]
     revert hF;refine aS ?_ ?_<;>intro h44 q45 hF
     ·repeat first|refine cg ?_|simp -dsimp[h1,q2,h3,q4,h5,q6,h44]
      revert hF;refine aS ?_ ?_<;>intro h46 q47 hF
      ·repeat first|refine cg ?_|simp -dsimp[h1,q2,h3,q4,h5,q6,h44,h46]
       have hF:=ob hF;obtain⟨v48,e49,hF⟩:=hF
       refine((C.f93 B hB1 hB2 v.n 0 9 v48 e49)).goW (by first|simp[h1,q2,h3,q4,h5,q6,h44,h46];done|simp_all) (by simp) ?_
       repeat first|refine cg ?_|simp -dsimp[h1,q2,h3,q4,h5,q6,h44,h46]
       revert hF;refine aS (fun h50 q51 hF=> ?_) (fun h50 q51 hF=> ?_)
       ·cases hF
        repeat first|refine cg ?_|simp -dsimp[h1,q2,h3,q4,h5,q6,h44,h46,h50]
        all_goals(try first|omega|rfl)
       ·cases hF
        repeat first|refine cg ?_|simp -dsimp[h1,q2,h3,q4,h5,q6,h44,h46,h50,q51]
        all_goals(try first|omega|rfl)
      ·cases hF
       repeat first|refine cg ?_|simp -dsimp[h1,q2,h3,q4,h5,q6,h44,h46,q47]
       all_goals(try first|omega|rfl)
     ·repeat first|refine cg ?_|simp -dsimp[h1,q2,h3,q4,h5,q6,h44,q45]
      refine ADraw.simple follows (by kernel_rfl) (by kernel_rfl) ?_
      repeat first|refine cg ?_|simp -dsimp[h1,q2,h3,q4,h5,q6,h44,q45]
      revert hF;refine aS ?_ ?_<;>intro h52 q53 hF
      ·repeat first|refine cg ?_|simp -dsimp[h1,q2,h3,q4,h5,q6,h44,q45,h52]
       have hF:=ob hF;obtain⟨v54,e55,hF⟩:=hF
       refine((C.f110 B hB1 hB2 w t v54 e55)).pgoW (by first|simp[h1,q2,h3,q4,h5,q6,h44,q45,h52];done|simp_all) (by simp) ?_
       repeat first|refine cg ?_|simp -dsimp[h1,q2,h3,q4,h5,q6,h44,q45,h52]
       have hF:=ob hF;obtain⟨v56,e57,hF⟩:=hF
       refine((C.f113 B hB1 hB2 v54 v.ctor v56 e57)).pgoW (by first|simp[h1,q2,h3,q4,h5,q6,h44,q45,h52];done|simp_all) (by simp) ?_
       repeat first|refine cg ?_|simp -dsimp[h1,q2,h3,q4,h5,q6,h44,q45,h52]
       revert hF;refine aN (fun h58 q59 hF=> ?_) (fun h58 q59 hF=> ?_)
       ·cases hF
        repeat first|refine cg ?_|simp -dsimp[h1,q2,h3,q4,h5,q6,h44,q45,h52,h58,q59]
        all_goals(try first|omega|rfl)
       ·repeat first|refine cg ?_|simp -dsimp[h1,q2,h3,q4,h5,q6,h44,q45,h52,h58,q59]
        have hF:=ob hF;obtain⟨v60,e61,hF⟩:=hF
        refine((C.f116 B hB1 hB2 w t v.ctor v60 e61)).goW (by first|simp[h1,q2,h3,q4,h5,q6,h44,q45,h52,h58,q59];done|simp_all) (by simp) ?_
        repeat first|refine cg ?_|simp -dsimp[h1,q2,h3,q4,h5,q6,h44,q45,h52,h58,q59]
        revert hF;refine aN ?_ ?_<;>intro h62 q63 hF
        ·have z64:¬((v60.length:Int)=(v.kids.length:Int)):=auz
         cases hF
         repeat first|refine cg ?_|simp -dsimp[h1,q2,h3,q4,h5,q6,h44,q45,h52,h58,q59,h62,q63,z64]
         all_goals(try first|omega|rfl)
        ·have z64:((v60.length:Int)=(v.kids.length:Int)):=auz
         repeat first|refine cg ?_|simp -dsimp[h1,q2,h3,q4,h5,q6,h44,q45,h52,h58,q59,h62,q63,z64]
         have hF:=ob hF;obtain⟨o'80,ho79,hF⟩:=hF
         refine ALoop.goU _ ?_ ((ih_f194 v deep v60 (i64.wrap (count+1)) 0 o'80 ho79) _ rfl _ ?_)
         ·exact(gT (by simp) (by first|simp -dsimp[h1,q2,h3,q4,h5,q6,h44,q45,h52,h58,q59,h62,q63,z64];done|simp_all))
         rcases o'80 with r082|sx81
         ·dsimp only at hF
          cases hF
          intro st h
          simpa using h
         ·dsimp only at hF
          cases hF
          repeat first|refine cg ?_|simp -dsimp
          all_goals(try first|omega|rfl)
      ·cases hF
       repeat first|refine cg ?_|simp -dsimp[h1,q2,h3,q4,h5,q6,h44,q45,h52,q53]
       all_goals(try first|omega|rfl)
  ·cases hF
   repeat first|refine cg ?_|simp -dsimp[h1,q2]
   all_goals(try first|omega|rfl)
 ·intro _f_f192 _f_f194 ih_f192 ih_f194 v deep v60 z65 i66 o hF
  intro c hc Q hq
  obtain rfl:c=_:=ZQ hc rfl
  refine kN fun hk hs=> ?_
  have b0:=hk 0
  simp -dsimp at b0
  have b13:=hk 13
  simp -dsimp at b13
  have b88:=hk 88
  simp -dsimp at b88
  clear hk hs
  refine eN ?_
  repeat first|refine cg ?_|simp -dsimp
  revert hF;refine aS ?_ ?_<;>intro h67 q68 hF
  ·have z69:((i66:Int)<(v.kids.length:Int)):=auz
   have hF:=ob hF;obtain⟨x70,e71,hF⟩:=hF
   have le71:=ZB e71
   repeat first|refine cg ?_|simp -dsimp[h67,z69,↓e71]
   refine ADraw.eff [91] [(0,0),(0,0),(0,0),(0,0),(0,0),(0,0),(0,0),(0,0),(0,0),(0,0),(0,1),(1,1)] [1,1,1,1,1,1,1,1,1,1,1,1] follows (by kernel_rfl) (by kernel_rfl) (by kernel_rfl) ?_
   have hF:=ob hF;obtain⟨x72,e73,hF⟩:=hF
   have le73:=ZB e73
   repeat first|refine cg ?_|simp -dsimp[h67,z69,↓e71,↓e73]
   have hF:=ob hF;obtain⟨v74,e75,hF⟩:=hF
   refine((ih_f192 x72 x70 (i64.wrap (deep+1)) z65 v74 e75)).ego 0 rfl (by first|simp[h67,z69,↓e71,↓e73];done|simp_all) (by simp) (by first|simp[h67,z69,↓e71,↓e73];done|simp_all) ?_
   repeat first|refine cg ?_|simp -dsimp[h67,z69,↓e71,↓e73]
   revert hF;refine aN (fun h76 q77 hF=> ?_) (fun h76 q77 hF=> ?_)
   ·cases hF
    repeat first|refine cg ?_|simp -dsimp[h67,z69,↓e71,↓e73,h76,q77]
    refine lG _ (gR _) (hq _ ?_)
    repeat first|refine cg ?_|simp -dsimp[h67,z69,↓e71,↓e73,h76,q77]
   ·have w78:i64.wrap ((i66:Int)+1)=(i66:Int)+1:=ZF (by omega) (by omega)
    repeat first|refine cg ?_|simp -dsimp[h67,z69,↓e71,↓e73,h76,q77,w78]
    refine aG _ ?_ ((ih_f194 v deep v60 v74.2 (i66+1) o hF) _ rfl _ hq)
    exact(gT (by simp) (by first|simp -dsimp[h67,z69,↓e71,↓e73,h76,q77,w78];done|simp_all))
  ·have z69:¬((i66:Int)<(v.kids.length:Int)):=auz
   cases hF
   repeat first|refine cg ?_|simp -dsimp[h67,q68,z69]
   refine lG _ (gT (by simp) (by first|simp -dsimp[h67,q68,z69];done|simp_all)) hq
 ·intro _f_f192 _f_f193 ih_f192 ih_f193 v deep v27 z i o hF
  intro c hc Q hq
  obtain rfl:c=_:=ZQ hc rfl
  refine kN fun hk hs=> ?_
  have b0:=hk 0
  simp -dsimp at b0
  have b13:=hk 13
  simp -dsimp at b13
  have b88:=hk 88
  simp -dsimp at b88
  clear hk hs
  refine eN ?_
  repeat first|refine cg ?_|simp -dsimp
  revert hF;refine aS ?_ ?_<;>intro h32 q33 hF
  ·have z34:((i:Int)<(v.kids.length:Int)):=auz
   have hF:=ob hF;obtain⟨x,e35,hF⟩:=hF
   have le35:=ZB e35
   repeat first|refine cg ?_|simp -dsimp[h32,z34,↓e35]
   refine ADraw.eff [91] [(0,0),(0,0),(0,0),(0,0),(0,0),(0,0),(0,0),(0,0),(0,0),(0,0),(0,1),(1,1)] [1,1,1,1,1,1,1,1,1,1,1,1] follows (by kernel_rfl) (by kernel_rfl) (by kernel_rfl) ?_
   have hF:=ob hF;obtain⟨x36,e37,hF⟩:=hF
   have le37:=ZB e37
   repeat first|refine cg ?_|simp -dsimp[h32,z34,↓e35,↓e37]
   have hF:=ob hF;obtain⟨v38,e39,hF⟩:=hF
   refine((ih_f192 x36 x (i64.wrap (deep+1)) z v38 e39)).ego 0 rfl (by first|simp[h32,z34,↓e35,↓e37];done|simp_all) (by simp) (by first|simp[h32,z34,↓e35,↓e37];done|simp_all) ?_
   repeat first|refine cg ?_|simp -dsimp[h32,z34,↓e35,↓e37]
   revert hF;refine aN (fun h40 q41 hF=> ?_) (fun h40 q41 hF=> ?_)
   ·cases hF
    repeat first|refine cg ?_|simp -dsimp[h32,z34,↓e35,↓e37,h40,q41]
    refine lG _ (gR _) (hq _ ?_)
    repeat first|refine cg ?_|simp -dsimp[h32,z34,↓e35,↓e37,h40,q41]
   ·have w42:i64.wrap ((i:Int)+1)=(i:Int)+1:=ZF (by omega) (by omega)
    repeat first|refine cg ?_|simp -dsimp[h32,z34,↓e35,↓e37,h40,q41,w42]
    refine aG _ ?_ ((ih_f193 v deep v27 v38.2 (i+1) o hF) _ rfl _ hq)
    exact(gT (by simp) (by first|simp -dsimp[h32,z34,↓e35,↓e37,h40,q41,w42];done|simp_all))
  ·have z34:¬((i:Int)<(v.kids.length:Int)):=auz
   cases hF
   repeat first|refine cg ?_|simp -dsimp[h32,q33,z34]
   refine lG _ (gT (by simp) (by first|simp -dsimp[h32,q33,z34];done|simp_all)) hq
theorem C.f195 (w:List Vl.Data)(t:Ty)(v:Vl.Value)(r:Bool)(hF:F.f195 w t v=some r):PureCall Tryz.prog B 47 [am Vl.Data.c w,.agg [li t.data,li t.index],.agg [li v.ctor,li v.n,am Vl.Value.c v.kids]] (.lit (.bool r)):=by
 unfold F.f195 at hF
 refine pE Tryz.func47 (by kernel_rfl) rfl Tryz.ntmps47 (by simp) (by simp) ?_
 repeat first|refine cg ?_|simp -dsimp
 have hF:=ob hF;obtain⟨v1,e2,hF⟩:=hF
 refine(((CC.f192 B hB1 hB2 w false).1 t v 1 0 v1 e2)).go 2 rfl (by simp) (by simp) (by simp) ?_
 cases hF
 repeat first|refine cg ?_|simp -dsimp
theorem CC.f196  :(∀(p:Pattern) (v:Vl.Value) (r:(List Bind)×Bool),F.f196 p v=some r->PureCall Tryz.prog B 92 [.agg [li p.op,li p.ctor,li p.n,li p.m,li p.var,am Pattern.c p.kids],.agg [li v.ctor,li v.n,am Vl.Value.c v.kids]] (.tup [am Bind.c r.1,.lit (.bool r.2)]))/\
  (∀(p:Pattern) (v:Vl.Value) (out:List Bind) (i:Nat) (o:Lo ((List Bind)×Bool) (List Bind)),F.f197 p v out i=some o->∀(c:Code),Zf [1,1,1,1,0,1,0,0] (ZL Tryz.f92)=some c->∀(Q:Exit->ASt->Prop),o.post (fun r=>∀st,ZAV Tryz.prog Tryz.f92 (fun r' _=>r'.le (.tup [am Bind.c r.1,.lit (.bool r.2)])) .ret st->Q .ret st) (fun s=>Q (.exit 1) ⟨[(10,.own 2 (List.length (α:=Bind) s))],[.dead,.dead,.elems 4 (List.map Bind.c s)]⟩)->ALoopU Tryz.prog B 0 105 (hold c .mk) ⟨[(3,.ptr 1 0),(10,.own 2 (List.length (α:=Bind) out)),(81,am Pattern.c p.kids),(82,li (p.kids.length:Int)),(83,li (i:Int))],[.dead,.cells [li v.ctor,li v.n,am Vl.Value.c v.kids],.elems 4 (List.map Bind.c out)]⟩ (hold Q .mk)):=by
 refine F.f196.mutual_partial_correctness 
  _ _
  ?_ ?_
 ·intro _f_f196 _f_f197 ih_f196 ih_f197 p v r hF
  refine pE Tryz.func92 (by kernel_rfl) rfl Tryz.ntmps92 (by simp) (by simp) ?_
  repeat first|refine cg ?_|simp -dsimp
  revert hF;refine aS ?_ ?_<;>intro h1 q2 hF
  ·cases hF
   repeat first|refine cg ?_|simp -dsimp[h1]
  ·repeat first|refine cg ?_|simp -dsimp[q2]
   revert hF;refine aS ?_ ?_<;>intro h3 q4 hF
   ·cases hF
    repeat first|refine cg ?_|simp -dsimp[h3]
   ·repeat first|refine cg ?_|simp -dsimp[q4]
    revert hF;refine aS ?_ ?_<;>intro h5 q6 hF
    ·repeat first|refine cg ?_|simp -dsimp[h5]
     have hF:=ob hF;obtain⟨v7,e8,hF⟩:=hF
     refine((C.f93 B hB1 hB2 v.n p.n p.m v7 e8)).goW (by simp_all) (by simp) ?_
     cases hF
     repeat first|refine cg ?_|simp -dsimp
    ·repeat first|refine cg ?_|simp -dsimp[q6]
     revert hF;refine aS ?_ ?_<;>intro h9 q10 hF
     ·repeat first|refine cg ?_|simp -dsimp[h9]
      refine ADraw.simple follows (by kernel_rfl) (by kernel_rfl) ?_
      have hF:=ob hF;obtain⟨x,e11,hF⟩:=hF
      have le11:=ZB e11
      repeat first|refine cg ?_|simp -dsimp[↓e11]
      have hF:=ob hF;obtain⟨v12,e13,hF⟩:=hF
      refine((ih_f196 x v v12 e13)).pgoW (by simp_all) (by simp) ?_
      repeat first|refine cg ?_|simp -dsimp
      revert hF;refine aS (fun h14 q15 hF=> ?_) (fun h14 q15 hF=> ?_)
      ·cases hF
       repeat first|refine cg ?_|simp -dsimp[h14]
      ·repeat first|refine cg ?_|simp -dsimp[q15]
       refine ADraw.simple follows (by kernel_rfl) (by kernel_rfl) ?_
       have hF:=ob hF;obtain⟨x16,e17,hF⟩:=hF
       have le17:=ZB e17
       repeat first|refine cg ?_|simp -dsimp[↓e17]
       have hF:=ob hF;obtain⟨v18,e19,hF⟩:=hF
       refine((ih_f196 x16 v v18 e19)).pgoW (by simp_all) (by simp) ?_
       cases hF
       repeat first|refine cg ?_|simp -dsimp
     ·repeat first|refine cg ?_|simp -dsimp[q10]
      revert hF;refine aS ?_ ?_<;>intro h20 q21 hF
      ·repeat first|refine cg ?_|simp -dsimp[h20]
       refine ADraw.simple follows (by kernel_rfl) (by kernel_rfl) ?_
       have hF:=ob hF;obtain⟨x22,e23,hF⟩:=hF
       have le23:=ZB e23
       repeat first|refine cg ?_|simp -dsimp[↓e23]
       have hF:=ob hF;obtain⟨v24,e25,hF⟩:=hF
       refine((ih_f196 x22 v v24 e25)).pgoW (by simp_all) (by simp) ?_
       have hF:=oc hF;obtain⟨c26,hF⟩:=hF
       cases hF
       repeat first|refine cg ?_|simp -dsimp
      ·repeat first|refine cg ?_|simp -dsimp[q21]
       revert hF;refine aN ?_ ?_<;>intro h27 q28 hF
       ·cases hF
        repeat first|refine cg ?_|simp -dsimp[h27,q28]
       ·repeat first|refine cg ?_|simp -dsimp
        have hF:=ob hF;obtain⟨o',ho42,hF⟩:=hF
        refine ALoop.goU ⟨[(3,.ptr 1 0),(10,.own 2 (List.length (α:=Bind) [])),(81,.arr (List.map Pattern.c p.kids)),(82,.lit (.int .i64 (p.kids.length:Int))),(83,.lit (.int .i64 0))],[.dead,.cells [.lit (.int .i64 v.ctor),.lit (.int .i64 v.n),.arr (List.map Vl.Value.c v.kids)],.elems 4 (List.map Bind.c [])]⟩ (by refine Gh.trans (Gh.nil 10 4 (by simp -dsimp)) ?_;exact(gT (by simp) (by simp_all))) ?_
        refine(ih_f197 p v [] 0 o' ho42) _ rfl _ ?_
        rcases o' with r0|sx
        ·dsimp only at hF
         cases hF
         intro st h
         simpa using h
        ·dsimp only at hF
         cases hF
         repeat first|refine cg ?_|simp -dsimp
 ·intro _f_f196 _f_f197 ih_f196 ih_f197 p v out i o hF
  intro c hc Q hq
  obtain rfl:c=_:=ZQ hc rfl
  refine kN fun hk hs=> ?_
  have b81:=hk 81
  simp -dsimp at b81
  have d1:=hs 1 _ rfl
  simp -dsimp[Blk.bnd]at d1
  have d2:=hs 2 _ rfl
  simp -dsimp[Blk.bnd]at d2
  clear hk hs
  refine eN ?_
  repeat first|refine cg ?_|simp -dsimp
  revert hF;refine aS ?_ ?_<;>intro h29 q30 hF
  ·have z31:((i:Int)<(p.kids.length:Int)):=auz
   have hF:=ob hF;obtain⟨x32,e33,hF⟩:=hF
   have le33:=ZB e33
   repeat first|refine cg ?_|simp -dsimp[h29,z31,↓e33]
   refine ADraw.simple follows (by kernel_rfl) (by kernel_rfl) ?_
   have hF:=ob hF;obtain⟨x34,e35,hF⟩:=hF
   have le35:=ZB e35
   repeat first|refine cg ?_|simp -dsimp[↓e35]
   have hF:=ob hF;obtain⟨v36,e37,hF⟩:=hF
   refine((ih_f196 x32 x34 v36 e37)).pgoW (by simp_all) (by simp) ?_
   repeat first|refine cg ?_|simp -dsimp
   revert hF;refine aN (fun h38 q39 hF=> ?_) (fun h38 q39 hF=> ?_)
   ·cases hF
    repeat first|refine cg ?_|simp -dsimp[h38,q39]
    refine lG _ (gR _) (hq _ ?_)
    repeat first|refine cg ?_|simp -dsimp
   ·have hF:=oc hF;obtain⟨c40,hF⟩:=hF
    have w41:i64.wrap ((i:Int)+1)=(i:Int)+1:=ZF (by omega) (by omega)
    repeat first|refine cg ?_|simp -dsimp[w41]
    refine aG _ ?_ ((ih_f197 p v (out++v36.1) (i+1) o hF) _ rfl _ hq)
    exact(gT (by simp) (by simp_all))
  ·have z31:¬((i:Int)<(p.kids.length:Int)):=auz
   cases hF
   repeat first|refine cg ?_|simp -dsimp[h29,q30,z31]
   refine lG _ (gT (by simp) (by simp_all)) hq
theorem C.psz_match {p x:Pattern}{i:Nat}(h:p.kids[i]? =some x):SizeOf.sizeOf x<SizeOf.sizeOf p:=by
 have:=List.sizeOf_lt_of_mem (List.mem_of_getElem? h)
 cases p
 simp only[Pattern.mk.sizeOf_spec]at this ⊢
 omega
theorem CC.impl_match__o0_l1 (p:Pattern)(v:Vl.Value):(∀(out:List Bind) (i:Nat) (o:Lo ((List Bind)×Bool) (List Bind)),F.f197 p v out i=some o->∀(c:Code),Zf [1,1,1,1,0,1,0,0] (ZL Tryz.f92)=some c->∀(Q:Exit->ASt->Prop),o.post (fun r=>∀st,ZIj Tryz.prog Tryz.f92 (hold (fun r' σ'=>ZIO σ' [.own 0 (List.length (α:=Bind) r.1),.lit (.bool r.2)] (unp [.own 0 (List.length (α:=Bind) r.1),.lit (.bool r.2)] r') (hold (fun xs' σ'=>ZE6 σ' []/\ZCb σ' 0 [(4,List.map Bind.c r.1)] xs' [.own 0 (List.length (α:=Bind) r.1),.lit (.bool r.2)]/\lnd 0 (ZAS xs' [.own 0 (List.length (α:=Bind) r.1),.lit (.bool r.2)])) .mk)) .mk) .ret st->Q .ret st) (fun s=>Q (.exit 1) ⟨[(10,.own 2 (List.length (α:=Bind) s))],[.dead,.dead,.elems 4 (List.map Bind.c s)]⟩)->ALoopU Tryz.prog B 0 105 (hold c .mk) ⟨[(3,.ptr 1 0),(10,.own 2 (List.length (α:=Bind) out)),(81,am Pattern.c p.kids),(82,li (p.kids.length:Int)),(83,li (i:Int))],[.dead,.cells [li v.ctor,li v.n,am Vl.Value.c v.kids],.elems 4 (List.map Bind.c out)]⟩ (hold Q .mk)):=by
 intro out i
 generalize hm:p.kids.length-i=m
 induction m using Nat.strongRecOn generalizing out i with
 |ind m ih=>
  intro o hF
  rw[F.f197]at hF
  intro c hc Q hq
  obtain rfl:c=_:=ZQ hc rfl
  refine kN fun hk hs=> ?_
  have b81:=hk 81
  simp -dsimp at b81
  have d1:=hs 1 _ rfl
  simp -dsimp[Blk.bnd]at d1
  have d2:=hs 2 _ rfl
  simp -dsimp[Blk.bnd]at d2
  clear hk hs
  refine eN ?_
  repeat first|refine cg ?_|simp -dsimp
  revert hF;refine aS ?_ ?_<;>intro h29 q30 hF
  ·have z31:((i:Int)<(p.kids.length:Int)):=auz
   have hF:=ob hF;obtain⟨x32,e33,hF⟩:=hF
   have le33:=ZB e33
   repeat first|refine cg ?_|simp -dsimp[h29,z31,↓e33]
   refine ADraw.simple follows (by kernel_rfl) (by kernel_rfl) ?_
   have hF:=ob hF;obtain⟨x34,e35,hF⟩:=hF
   have le35:=ZB e35
   repeat first|refine cg ?_|simp -dsimp[h29,z31,↓e33,↓e35]
   have hF:=ob hF;obtain⟨v36,e37,hF⟩:=hF
   refine(((CC.f196 B hB1 hB2).1 x32 x34 v36 e37)).pgoW (by first|simp[h29,z31,↓e33,↓e35];done|simp_all) (by simp) ?_
   repeat first|refine cg ?_|simp -dsimp[h29,z31,↓e33,↓e35]
   revert hF;refine aN (fun h38 q39 hF=> ?_) (fun h38 q39 hF=> ?_)
   ·cases hF
    repeat first|refine cg ?_|simp -dsimp[h29,z31,↓e33,↓e35,h38,q39]
    refine lG _ (gR _) (hq _ ?_)
    repeat first|refine cg ?_|simp -dsimp[h29,z31,↓e33,↓e35,h38,q39]
   ·have hF:=oc hF;obtain⟨c40,hF⟩:=hF
    have w41:i64.wrap ((i:Int)+1)=(i:Int)+1:=ZF (by omega) (by omega)
    repeat first|refine cg ?_|simp -dsimp[h29,z31,↓e33,↓e35,h38,q39,w41]
    refine aG _ ?_ ((ih _ (show p.kids.length- (i+1)<m by omega) (out++v36.1) (i+1) rfl o hF) _ rfl _ hq)
    exact(gT (by simp) (by first|simp -dsimp[h29,z31,↓e33,↓e35,h38,q39,w41];done|simp_all))
  ·have z31:¬((i:Int)<(p.kids.length:Int)):=auz
   cases hF
   repeat first|refine cg ?_|simp -dsimp[h29,q30,z31]
   refine lG _ (gT (by simp) (by first|simp -dsimp[h29,q30,z31];done|simp_all)) hq
theorem CC.impl_match__o0 (v:Vl.Value):(∀(p:Pattern) (r:(List Bind)×Bool),F.f196 p v=some r->BCall Tryz.prog B 92 [] [.agg [li p.op,li p.ctor,li p.n,li p.m,li p.var,am Pattern.c p.kids],.agg [li v.ctor,li v.n,am Vl.Value.c v.kids]] (.tup [.own 0 (List.length (α:=Bind) r.1),.lit (.bool r.2)]) [.elems 4 (List.map Bind.c r.1)]):=by
 intro p
 generalize hm:SizeOf.sizeOf p=m
 induction m using Nat.strongRecOn generalizing p with
 |ind m ih=>
  intro r hF
  rw[F.f196]at hF
  refine BCall.enterS (τ1:=[]) (ys:=[.own 0 (List.length (α:=Bind) r.1),.lit (.bool r.2)]) (news:=[(4,List.map Bind.c r.1)]) Tryz.func92 (by kernel_rfl) rfl Tryz.ntmps92 (by simp) rfl rfl (by simp) (by simp) (by simp) (by simp) (by simp) (by simp) (gR _) ?_
  repeat first|refine cg ?_|simp -dsimp
  revert hF;refine aS ?_ ?_<;>intro h1 q2 hF
  ·cases hF
   repeat first|refine cg ?_|simp -dsimp[h1]
   all_goals(try first|omega|rfl|(simp;done)|(simp only[List.length_cons,List.length_nil]at*;omega)|simp)
  ·repeat first|refine cg ?_|simp -dsimp[h1,q2]
   revert hF;refine aS ?_ ?_<;>intro h3 q4 hF
   ·cases hF
    repeat first|refine cg ?_|simp -dsimp[h1,q2,h3]
    all_goals(try first|omega|rfl|(simp;done)|(simp only[List.length_cons,List.length_nil]at*;omega)|simp)
   ·repeat first|refine cg ?_|simp -dsimp[h1,q2,h3,q4]
    revert hF;refine aS ?_ ?_<;>intro h5 q6 hF
    ·repeat first|refine cg ?_|simp -dsimp[h1,q2,h3,q4,h5]
     have hF:=ob hF;obtain⟨v7,e8,hF⟩:=hF
     refine((C.f93 B hB1 hB2 v.n p.n p.m v7 e8)).goW (by first|simp[h1,q2,h3,q4,h5];done|simp_all) (by simp) ?_
     cases hF
     repeat first|refine cg ?_|simp -dsimp[h1,q2,h3,q4,h5]
     all_goals(try first|omega|rfl|(simp;done)|(simp only[List.length_cons,List.length_nil]at*;omega)|simp)
    ·repeat first|refine cg ?_|simp -dsimp[h1,q2,h3,q4,h5,q6]
     revert hF;refine aS ?_ ?_<;>intro h9 q10 hF
     ·repeat first|refine cg ?_|simp -dsimp[h1,q2,h3,q4,h5,q6,h9]
      refine ADraw.eff [92] [(0,0),(0,0),(0,0),(0,0),(0,0),(0,1),(1,1),(1,1),(1,1),(1,1),(1,1)] [1,1,1,1,1,1,1,1,1,1,1] follows (by kernel_rfl) (by kernel_rfl) (by kernel_rfl) ?_
      have hF:=ob hF;obtain⟨x,e11,hF⟩:=hF
      have le11:=ZB e11
      repeat first|refine cg ?_|simp -dsimp[h1,q2,h3,q4,h5,q6,h9,↓e11]
      have hF:=ob hF;obtain⟨v12,e13,hF⟩:=hF
      refine((ih _ (hm▸C.psz_match B hB1 hB2 e11) x rfl v12 e13)).ego (pl [2]) (by simp) (by simp) (by intro i j hi;simp at hi) (by intro i hi hi';simp at hi hi';have hi:i=0:=(by omega);rcases hi with rfl<;>simp[pl]) (by first|simp[h1,q2,h3,q4,h5,q6,h9,↓e11];done|simp_all) (by first|simp[h1,q2,h3,q4,h5,q6,h9,↓e11];done|simp_all) ?_
      repeat first|refine cg ?_|simp -dsimp[h1,q2,h3,q4,h5,q6,h9,↓e11]
      revert hF;refine aS (fun h14 q15 hF=> ?_) (fun h14 q15 hF=> ?_)
      ·cases hF
       repeat first|refine cg ?_|simp -dsimp[h1,q2,h3,q4,h5,q6,h9,↓e11,h14]
       all_goals(try first|omega|rfl|(simp;done)|(simp only[List.length_cons,List.length_nil]at*;omega)|simp)
      ·repeat first|refine cg ?_|simp -dsimp[h1,q2,h3,q4,h5,q6,h9,↓e11,h14,q15]
       refine ADraw.eff [92] [(0,0),(0,0),(0,0),(0,0),(0,0),(0,1),(1,1),(1,1),(1,1),(1,1)] [1,1,1,1,1,1,1,1,1,1] follows (by kernel_rfl) (by kernel_rfl) (by kernel_rfl) ?_
       have hF:=ob hF;obtain⟨x16,e17,hF⟩:=hF
       have le17:=ZB e17
       repeat first|refine cg ?_|simp -dsimp[h1,q2,h3,q4,h5,q6,h9,↓e11,h14,q15,↓e17]
       have hF:=ob hF;obtain⟨v18,e19,hF⟩:=hF
       refine((ih _ (hm▸C.psz_match B hB1 hB2 e17) x16 rfl v18 e19)).ego (pl [3]) (by simp) (by simp) (by intro i j hi;simp at hi) (by intro i hi hi';simp at hi hi';have hi:i=0:=(by omega);rcases hi with rfl<;>simp[pl]) (by first|simp[h1,q2,h3,q4,h5,q6,h9,↓e11,h14,q15,↓e17];done|simp_all) (by first|simp[h1,q2,h3,q4,h5,q6,h9,↓e11,h14,q15,↓e17];done|simp_all) ?_
       cases hF
       repeat first|refine cg ?_|simp -dsimp[h1,q2,h3,q4,h5,q6,h9,↓e11,h14,q15,↓e17]
       all_goals(try first|omega|rfl|(simp;done)|(simp only[List.length_cons,List.length_nil]at*;omega)|simp)
     ·repeat first|refine cg ?_|simp -dsimp[h1,q2,h3,q4,h5,q6,h9,q10]
      revert hF;refine aS ?_ ?_<;>intro h20 q21 hF
      ·repeat first|refine cg ?_|simp -dsimp[h1,q2,h3,q4,h5,q6,h9,q10,h20]
       refine ADraw.simple follows (by kernel_rfl) (by kernel_rfl) ?_
       have hF:=ob hF;obtain⟨x22,e23,hF⟩:=hF
       have le23:=ZB e23
       repeat first|refine cg ?_|simp -dsimp[h1,q2,h3,q4,h5,q6,h9,q10,h20,↓e23]
       have hF:=ob hF;obtain⟨v24,e25,hF⟩:=hF
       refine(((CC.f196 B hB1 hB2).1 x22 v v24 e25)).pgoW (by first|simp[h1,q2,h3,q4,h5,q6,h9,q10,h20,↓e23];done|simp_all) (by simp) ?_
       have hF:=oc hF;obtain⟨c26,hF⟩:=hF
       cases hF
       repeat first|refine cg ?_|simp -dsimp[h1,q2,h3,q4,h5,q6,h9,q10,h20,↓e23]
       all_goals(try first|omega|rfl|(simp;done)|(simp only[List.length_cons,List.length_nil]at*;omega)|simp)
      ·repeat first|refine cg ?_|simp -dsimp[h1,q2,h3,q4,h5,q6,h9,q10,h20,q21]
       revert hF;refine aN ?_ ?_<;>intro h27 q28 hF
       ·cases hF
        repeat first|refine cg ?_|simp -dsimp[h1,q2,h3,q4,h5,q6,h9,q10,h20,q21,h27,q28]
        all_goals(try first|omega|rfl|(simp;done)|(simp only[List.length_cons,List.length_nil]at*;omega)|simp)
       ·repeat first|refine cg ?_|simp -dsimp[h1,q2,h3,q4,h5,q6,h9,q10,h20,q21,h27,q28]
        have hF:=ob hF;obtain⟨o',ho42,hF⟩:=hF
        refine ALoop.goU ⟨[(3,.ptr 1 0),(10,.own 2 (List.length (α:=Bind) [])),(81,.arr (List.map Pattern.c p.kids)),(82,.lit (.int .i64 (p.kids.length:Int))),(83,.lit (.int .i64 0))],[.dead,.cells [.lit (.int .i64 v.ctor),.lit (.int .i64 v.n),.arr (List.map Vl.Value.c v.kids)],.elems 4 (List.map Bind.c [])]⟩ (by refine Gh.trans (Gh.nil 10 4 (by simp -dsimp)) ?_;exact(gT (by simp) (by first|simp -dsimp[h1,q2,h3,q4,h5,q6,h9,q10,h20,q21,h27,q28];done|simp_all))) ?_
        refine((CC.impl_match__o0_l1 B hB1 hB2 p v) [] 0 o' ho42) _ rfl _ ?_
        rcases o' with r0|sx
        ·dsimp only at hF
         cases hF
         intro st h
         simpa using h
        ·dsimp only at hF
         cases hF
         repeat first|refine cg ?_|simp -dsimp
         all_goals(try first|omega|rfl|(simp;done)|(simp only[List.length_cons,List.length_nil]at*;omega)|simp)
theorem C.f198 (x:List Bind)(r:List Bind)(hF:F.f198 x=some r):BCall Tryz.prog B 93 [.elems 4 (List.map Bind.c x)] [.own 0 (List.length (α:=Bind) x),.fn (.func 94) [] []] (.tup []) [.elems 4 (List.map Bind.c r)]:=by
 unfold F.f198 at hF
 have hF:=oc hF;obtain⟨c1,hF⟩:=hF
 cases hF
 exact ZHt (c:=Bind.c) (key:=fun x=>x.var) Tryz.sort93 ⟨Tryz.f93,Tryz.func93,by kernel_rfl,by kernel_rfl⟩ Tryz.isAgg96 Tryz.sizeOf96 (enters_of Tryz.func94 (by kernel_rfl) rfl) Tryz.cmpK94 x (fun x=>⟨_,rfl,rfl⟩) (by simp) c1.1 c1.2
theorem CC.f199 (v5:List Bind):(∀(out:List Bind) (i:Nat) (o:List Bind),F.f199 v5 out i=some o->∀(c:Code),Zf [1,1,1,1,0,1,0,0] (ZL Tryz.f48)=some c->∀(Q:Exit->ASt->Prop),(Q (.exit 0) ⟨[(6,.own 2 (List.length (α:=Bind) o))],[.dead,.dead,.elems 4 (List.map Bind.c o)]⟩)->ALoopU Tryz.prog B 0 36 (hold c .mk) ⟨[(6,.own 2 (List.length (α:=Bind) out)),(20,.own 2 (List.length (α:=Bind) out)),(21,li (v5.length:Int)),(22,li (i:Int))],[.dead,.dead,.elems 4 (List.map Bind.c out)]⟩ (hold Q .mk)):=by
 refine F.f199.partial_correctness v5
  _
  ?_
 ·intro _f_f199 ih_f199 out i o hF
  intro c hc Q hq
  obtain rfl:c=_:=ZQ hc rfl
  refine kN fun hk hs=> ?_
  have d2:=hs 2 _ rfl
  simp -dsimp[Blk.bnd]at d2
  clear hk hs
  refine eN ?_
  repeat first|refine cg ?_|simp -dsimp
  revert hF;refine aS ?_ ?_<;>intro h8 q9 hF
  ·have z10:((i:Int)<(v5.length:Int)):=auz
   have hF:=ob hF;obtain⟨x,e11,hF⟩:=hF
   have le11:=ZB e11
   repeat first|refine cg ?_|simp -dsimp[h8,z10,↓e11]
   have hF:=ob hF;obtain⟨v12,e13,hF⟩:=hF
   refine(((CC.f188 B hB1 hB2).1 x.value v12 e13)).goW (by simp_all) (by simp) ?_
   have hF:=oc hF;obtain⟨c14,hF⟩:=hF
   have w15:i64.wrap ((i:Int)+1)=(i:Int)+1:=ZF (by omega) (by omega)
   repeat first|refine cg ?_|simp -dsimp[w15]
   refine aG _ ?_ ((ih_f199 (out.set i (⟨x.var,v12⟩:Bind)) (i+1) o hF) _ rfl _ hq)
   exact(gT (by simp) (by simp_all))
  ·have z10:¬((i:Int)<(v5.length:Int)):=auz
   cases hF
   repeat first|refine cg ?_|simp -dsimp[h8,q9,z10]
   refine lG _ (gT (by simp) (by simp_all)) hq
theorem C.f200 (p:Pattern)(v:Vl.Value)(r:(List Bind)×Bool)(hF:F.f200 p v=some r):PureCall Tryz.prog B 48 [.agg [li p.op,li p.ctor,li p.n,li p.m,li p.var,am Pattern.c p.kids],.agg [li v.ctor,li v.n,am Vl.Value.c v.kids]] (.tup [am Bind.c r.1,.lit (.bool r.2)]):=by
 unfold F.f200 at hF
 refine pE Tryz.func48 (by kernel_rfl) rfl Tryz.ntmps48 (by simp) (by simp) ?_
 repeat first|refine cg ?_|simp -dsimp
 have hF:=ob hF;obtain⟨v1,e2,hF⟩:=hF
 refine(((CC.impl_match__o0 B hB1 hB2 v) p v1 e2)).go (pl [2]) (by simp) (by simp) (by intro i j hi;simp at hi) (by intro i hi hi';simp at hi hi';have hi:i=0:=(by omega);rcases hi with rfl<;>simp[pl]) (by simp) (by simp) ?_
 repeat first|refine cg ?_|simp -dsimp
 revert hF;refine aN (fun h3 q4 hF=> ?_) (fun h3 q4 hF=> ?_)
 ·cases hF
  repeat first|refine cg ?_|simp -dsimp[h3,q4]
 ·repeat first|refine cg ?_|simp -dsimp
  have hF:=ob hF;obtain⟨v5,e6,hF⟩:=hF
  have sl7:List.length (α:=Bind) v1.1=List.length (α:=Bind) v5:=ZKS (key:=fun x=>x.var) (by unfold F.f198 at e6;exact e6)
  refine((C.f198 B hB1 hB2 v1.1 v5 e6)).go (pl [2]) (by simp) (by simp) (ZCD _ rfl (by decide)) (by intro i hi hi';simp at hi hi';first|omega|(subst hi';simp[pl])) (by simp_all) (by simp_all) ?_
  repeat first|refine cg ?_|simp -dsimp[sl7]
  have hF:=ob hF;obtain⟨o',ho16,hF⟩:=hF
  refine ALoop.goU _ ?_ (((CC.f199 B hB1 hB2 v5) v5 0 o' ho16) _ rfl _ ?_)
  ·exact(gT (by simp) (by simp_all))
  cases hF
  repeat first|refine cg ?_|simp -dsimp
theorem C.f201 (w:List Vl.Data)(t:Ty)(p:Pattern)(v:Vl.Value)(r:(List Bind)×Bool)(hF:F.f201 w t p v=some r):PureCall Tryz.prog B 14 [am Vl.Data.c w,.agg [li t.data,li t.index],.agg [li p.op,li p.ctor,li p.n,li p.m,li p.var,am Pattern.c p.kids],.agg [li v.ctor,li v.n,am Vl.Value.c v.kids]] (.tup [am Bind.c r.1,.lit (.bool r.2)]):=by
 unfold F.f201 at hF
 refine pE Tryz.func14 (by kernel_rfl) rfl Tryz.ntmps14 (by simp) (by simp) ?_
 repeat first|refine cg ?_|simp -dsimp
 have hF:=ob hF;obtain⟨v1,e2,hF⟩:=hF
 refine((C.f135 B hB1 hB2 w t p v1 e2)).goW (by simp) (by simp) ?_
 repeat first|refine cg ?_|simp -dsimp
 revert hF;refine aS (fun h3 q4 hF=> ?_) (fun h3 q4 hF=> ?_)
 ·repeat first|refine cg ?_|simp -dsimp[h3]
  have hF:=ob hF;obtain⟨v5,e6,hF⟩:=hF
  refine((C.f195 B hB1 hB2 w t v v5 e6)).goW (by simp[h3]) (by simp) ?_
  repeat first|refine cg ?_|simp -dsimp[h3]
  revert hF;refine aN (fun h7 q8 hF=> ?_) (fun h7 q8 hF=> ?_)
  ·cases hF
   repeat first|refine cg ?_|simp -dsimp[h3,h7,q8]
  ·repeat first|refine cg ?_|simp -dsimp[h3,h7,q8]
   have hF:=ob hF;obtain⟨v9,e10,hF⟩:=hF
   refine((C.f200 B hB1 hB2 p v v9 e10)).goW (by simp[h3,h7,q8]) (by simp) ?_
   cases hF
   repeat first|refine cg ?_|simp -dsimp[h3,h7,q8]
 ·cases hF
  repeat first|refine cg ?_|simp -dsimp[h3,q4]
theorem CC.f202  :(∀(a:Vl.Value) (b:Vl.Value) (r:Bool),F.f202 a b=some r->PureCall Tryz.prog B 49 [.agg [li a.ctor,li a.n,am Vl.Value.c a.kids],.agg [li b.ctor,li b.n,am Vl.Value.c b.kids]] (.lit (.bool r)))/\
  (∀(s1:List Vl.Value) (s2:List Vl.Value) (r:Bool),F.f203 s1 s2=some r->PureCall Tryz.prog B 95 [am Vl.Value.c s1,am Vl.Value.c s2,.fn (.func 49) [] []] (.lit (.bool r)))/\
  (∀(s1:List Vl.Value) (s2:List Vl.Value) (i:Nat) (o:Lo Bool Unit),F.f204 s1 s2 i=some o->∀(c:Code),Zf [1,1,0,1,0,0] (ZL Tryz.f95)=some c->∀(Q:Exit->ASt->Prop),o.post (fun r=>∀st,ZAV Tryz.prog Tryz.f95 (fun r' _=>r'.le (.lit (.bool r))) .ret st->Q .ret st) (fun s=>Q (.exit 0) ⟨[],[]⟩)->ALoopU Tryz.prog B 0 32 (hold c .mk) ⟨[(1,am Vl.Value.c s2),(2,.fn (.func 49) [] []),(15,am Vl.Value.c s1),(16,li (s1.length:Int)),(17,li (i:Int))],[]⟩ (hold Q .mk)):=by
 refine F.f202.mutual_partial_correctness 
  _ _ _
  ?_ ?_ ?_
 ·intro _f_f203 ih_f203 a b r hF
  refine pE Tryz.func49 (by kernel_rfl) rfl Tryz.ntmps49 (by simp) (by simp) ?_
  repeat first|refine cg ?_|simp -dsimp
  revert hF;refine aS ?_ ?_<;>intro h1 q2 hF
  ·repeat first|refine cg ?_|simp -dsimp[h1]
   revert hF;refine aS ?_ ?_<;>intro h3 q4 hF
   ·repeat first|refine cg ?_|simp -dsimp[h1,h3]
    have hF:=ob hF;obtain⟨v,e5,hF⟩:=hF
    refine((ih_f203 a.kids b.kids v e5)).goW (by simp[h1,h3]) (by simp) ?_
    cases hF
    repeat first|refine cg ?_|simp -dsimp[h1,h3]
   ·cases hF
    repeat first|refine cg ?_|simp -dsimp[h1,h3,q4]
  ·cases hF
   repeat first|refine cg ?_|simp -dsimp[h1,q2]
 ·intro _f_f204 ih_f204 s1 s2 r hF
  refine pE Tryz.func95 (by kernel_rfl) rfl Tryz.ntmps95 (by simp) (by simp) ?_
  repeat first|refine cg ?_|simp -dsimp
  revert hF;refine aN ?_ ?_<;>intro h1 q2 hF
  ·have z3:¬((s1.length:Int)=(s2.length:Int)):=auz
   cases hF
   repeat first|refine cg ?_|simp -dsimp[h1,q2,z3]
  ·have z3:((s1.length:Int)=(s2.length:Int)):=auz
   repeat first|refine cg ?_|simp -dsimp[h1,q2,z3]
   have hF:=ob hF;obtain⟨o',ho14,hF⟩:=hF
   refine ALoop.goU _ ?_ ((ih_f204 s1 s2 0 o' ho14) _ rfl _ ?_)
   ·exact(gT (by simp) (by simp -dsimp[h1,q2,z3]))
   rcases o' with r0|sx
   ·dsimp only at hF
    cases hF
    intro st h
    simpa using h
   ·dsimp only at hF
    cases hF
    repeat first|refine cg ?_|simp -dsimp
 ·intro _f_f202 _f_f204 ih_f202 ih_f204 s1 s2 i o hF
  intro c hc Q hq
  obtain rfl:c=_:=ZQ hc rfl
  refine kN fun hk hs=> ?_
  have b1:=hk 1
  simp -dsimp at b1
  have b15:=hk 15
  simp -dsimp at b15
  clear hk hs
  refine eN ?_
  repeat first|refine cg ?_|simp -dsimp
  revert hF;refine aS ?_ ?_<;>intro h4 q5 hF
  ·have z6:((i:Int)<(s1.length:Int)):=auz
   have hF:=ob hF;obtain⟨x,e7,hF⟩:=hF
   have le7:=ZB e7
   have hF:=ob hF;obtain⟨x8,e9,hF⟩:=hF
   have le9:=ZB e9
   repeat first|refine cg ?_|simp -dsimp[h4,z6,↓e7,↓e9]
   have hF:=ob hF;obtain⟨v,e10,hF⟩:=hF
   refine((ih_f202 x x8 v e10)).goW (by simp[h4,z6,↓e7,↓e9]) (by simp) ?_
   repeat first|refine cg ?_|simp -dsimp[h4,z6,↓e7,↓e9]
   revert hF;refine aN (fun h11 q12 hF=> ?_) (fun h11 q12 hF=> ?_)
   ·cases hF
    repeat first|refine cg ?_|simp -dsimp[h4,z6,↓e7,↓e9,h11,q12]
    refine lG _ (gR _) (hq _ ?_)
    repeat first|refine cg ?_|simp -dsimp[h4,z6,↓e7,↓e9,h11,q12]
   ·have w13:i64.wrap ((i:Int)+1)=(i:Int)+1:=ZF (by omega) (by omega)
    repeat first|refine cg ?_|simp -dsimp[h4,z6,↓e7,↓e9,h11,q12,w13]
    refine aG _ ?_ ((ih_f204 s1 s2 (i+1) o hF) _ rfl _ hq)
    exact(gT (by simp) (by simp -dsimp[h4,z6,↓e7,↓e9,h11,q12,w13]))
  ·have z6:¬((i:Int)<(s1.length:Int)):=auz
   cases hF
   repeat first|refine cg ?_|simp -dsimp[h4,q5,z6]
   refine lG _ (gT (by simp) (by simp -dsimp[h4,q5,z6])) hq
theorem CC.f205 (a:List Bind)(b:List Bind):(∀(i:Nat) (o:Lo Bool Unit),F.f205 a b i=some o->∀(c:Code),Zf [1,1,0,1,0,0] (ZL Tryz.f15)=some c->∀(Q:Exit->ASt->Prop),o.post (fun r=>∀st,ZAV Tryz.prog Tryz.f15 (fun r' _=>r'.le (.lit (.bool r))) .ret st->Q .ret st) (fun s=>Q (.exit 0) ⟨[],[]⟩)->ALoopU Tryz.prog B 0 42 (hold c .mk) ⟨[(0,am Bind.c a),(1,am Bind.c b),(5,li (i:Int))],[]⟩ (hold Q .mk)):=by
 refine F.f205.partial_correctness a b
  _
  ?_
 ·intro _f_f205 ih_f205 i o hF
  intro c hc Q hq
  obtain rfl:c=_:=ZQ hc rfl
  refine kN fun hk hs=> ?_
  have b0:=hk 0
  simp -dsimp at b0
  have b1:=hk 1
  simp -dsimp at b1
  clear hk hs
  refine eN ?_
  repeat first|refine cg ?_|simp -dsimp
  revert hF;refine aS ?_ ?_<;>intro h4 q5 hF
  ·have z6:((i:Int)<(a.length:Int)):=auz
   repeat first|refine cg ?_|simp -dsimp[h4,z6]
   refine ADraw.simple follows (by kernel_rfl) (by kernel_rfl) ?_
   have hF:=ob hF;obtain⟨x,e7,hF⟩:=hF
   have le7:=ZB e7
   have hF:=ob hF;obtain⟨x8,e9,hF⟩:=hF
   have le9:=ZB e9
   repeat first|refine cg ?_|simp -dsimp[h4,z6,↓e7,↓e9]
   revert hF;refine aS ?_ ?_<;>intro h10 q11 hF
   ·repeat first|refine cg ?_|simp -dsimp[h4,z6,↓e7,↓e9,h10]
    have hF:=ob hF;obtain⟨v,e12,hF⟩:=hF
    refine(((CC.f202 B hB1 hB2).1 x.value x8.value v e12)).pgoW (by simp[h4,z6,↓e7,↓e9,h10]) (by simp) ?_
    repeat first|refine cg ?_|simp -dsimp[h4,z6,↓e7,↓e9,h10]
    revert hF;refine aN (fun h13 q14 hF=> ?_) (fun h13 q14 hF=> ?_)
    ·cases hF
     repeat first|refine cg ?_|simp -dsimp[h4,z6,↓e7,↓e9,h10,h13,q14]
     refine lG _ (gR _) (hq _ ?_)
     repeat first|refine cg ?_|simp -dsimp[h4,z6,↓e7,↓e9,h10,h13,q14]
    ·have w15:i64.wrap ((i:Int)+1)=(i:Int)+1:=ZF (by omega) (by omega)
     repeat first|refine cg ?_|simp -dsimp[h4,z6,↓e7,↓e9,h10,h13,q14,w15]
     refine aG _ ?_ ((ih_f205 (i+1) o hF) _ rfl _ hq)
     exact(gT (by simp) (by simp -dsimp[h4,z6,↓e7,↓e9,h10,h13,q14,w15]))
   ·cases hF
    repeat first|refine cg ?_|simp -dsimp[h4,z6,↓e7,↓e9,h10,q11]
    refine lG _ (gR _) (hq _ ?_)
    repeat first|refine cg ?_|simp -dsimp[h4,z6,↓e7,↓e9,h10,q11]
  ·have z6:¬((i:Int)<(a.length:Int)):=auz
   cases hF
   repeat first|refine cg ?_|simp -dsimp[h4,q5,z6]
   refine lG _ (gT (by simp) (by simp -dsimp[h4,q5,z6])) hq
theorem C.f206 (a:List Bind)(b:List Bind)(r:Bool)(hF:F.f206 a b=some r):PureCall Tryz.prog B 15 [am Bind.c a,am Bind.c b] (.lit (.bool r)):=by
 unfold F.f206 at hF
 refine pE Tryz.func15 (by kernel_rfl) rfl Tryz.ntmps15 (by simp) (by simp) ?_
 repeat first|refine cg ?_|simp -dsimp
 revert hF;refine aN ?_ ?_<;>intro h1 q2 hF
 ·have z3:¬((a.length:Int)=(b.length:Int)):=auz
  cases hF
  repeat first|refine cg ?_|simp -dsimp[h1,q2,z3]
 ·have z3:((a.length:Int)=(b.length:Int)):=auz
  repeat first|refine cg ?_|simp -dsimp
  have hF:=ob hF;obtain⟨o',ho16,hF⟩:=hF
  refine ALoop.goU _ ?_ (((CC.f205 B hB1 hB2 a b) 0 o' ho16) _ rfl _ ?_)
  ·exact(gT (by simp) (by simp_all))
  rcases o' with r0|sx
  ·dsimp only at hF
   cases hF
   intro st h
   simpa using h
  ·dsimp only at hF
   cases hF
   repeat first|refine cg ?_|simp -dsimp
theorem CC.f207 (v:(List Vl.Data)×Ty×Pattern)(v8:Pattern×Bool)(v22:(List Vl.Value)×Bool):(∀(i:Nat) (o:Lo Bool Unit),F.f207 v v8 v22 i=some o->∀(c:Code),Zf [1,1,1,1,1,1,1,0,1,0,0] (ZL Tryz.f4)=some c->∀(Q:Exit->ASt->Prop),o.post (fun r=>∀st,ZAV Tryz.prog Tryz.f4 (fun r' _=>r'.le (.lit (.bool r))) .ret st->Q .ret st) (fun s=>Q (.exit 0) ⟨[(5,am Vl.Data.c v.1),(6,.ptr 0 0),(8,.ptr 2 0)],[.cells [li v.2.1.data,li v.2.1.index],.dead,.cells [li v8.1.op,li v8.1.ctor,li v8.1.n,li v8.1.m,li v8.1.var,am Pattern.c v8.1.kids]]⟩)->ALoopU Tryz.prog B 0 136 (hold c .mk) ⟨[(5,am Vl.Data.c v.1),(6,.ptr 0 0),(7,.ptr 1 0),(8,.ptr 2 0),(12,am Vl.Value.c v22.1),(14,li (i:Int))],[.cells [li v.2.1.data,li v.2.1.index],.cells [li v.2.2.op,li v.2.2.ctor,li v.2.2.n,li v.2.2.m,li v.2.2.var,am Pattern.c v.2.2.kids],.cells [li v8.1.op,li v8.1.ctor,li v8.1.n,li v8.1.m,li v8.1.var,am Pattern.c v8.1.kids]]⟩ (hold Q .mk)):=by
 refine F.f207.partial_correctness v v8 v22
  _
  ?_
 ·intro _f_f207 ih_f207 i o hF
  intro c hc Q hq
  obtain rfl:c=_:=ZQ hc rfl
  refine kN fun hk hs=> ?_
  have b5:=hk 5
  simp -dsimp at b5
  have b12:=hk 12
  simp -dsimp at b12
  have d1:=hs 1 _ rfl
  simp -dsimp[Blk.bnd]at d1
  have d2:=hs 2 _ rfl
  simp -dsimp[Blk.bnd]at d2
  clear hk hs
  refine eN ?_
  repeat first|refine cg ?_|simp -dsimp
  revert hF;refine aS ?_ ?_<;>intro h24 q25 hF
  ·have z26:((i:Int)<(v22.1.length:Int)):=auz
   repeat first|refine cg ?_|simp -dsimp[h24,z26]
   refine ADraw.simple follows (by kernel_rfl) (by kernel_rfl) ?_
   have hF:=ob hF;obtain⟨x,e27,hF⟩:=hF
   have le27:=ZB e27
   repeat first|refine cg ?_|simp -dsimp[h24,z26,↓e27]
   have hF:=ob hF;obtain⟨v28,e29,hF⟩:=hF
   refine((C.f201 B hB1 hB2 v.1 v.2.1 v.2.2 x v28 e29)).pgoW (by simp[h24,z26,↓e27]) (by simp) ?_
   repeat first|refine cg ?_|simp -dsimp[h24,z26,↓e27]
   refine ADraw.simple follows (by kernel_rfl) (by kernel_rfl) ?_
   repeat first|refine cg ?_|simp -dsimp[h24,z26,↓e27]
   have hF:=ob hF;obtain⟨v30,e31,hF⟩:=hF
   refine((C.f201 B hB1 hB2 v.1 v.2.1 v8.1 x v30 e31)).pgoW (by simp[h24,z26,↓e27]) (by simp) ?_
   repeat first|refine cg ?_|simp -dsimp[h24,z26,↓e27]
   revert hF;refine aS ?_ ?_<;>intro h32 q33 hF
   ·repeat first|refine cg ?_|simp -dsimp[h24,z26,↓e27,h32]
    have hF:=ob hF;obtain⟨v34,e35,hF⟩:=hF
    refine((C.f206 B hB1 hB2 v28.1 v30.1 v34 e35)).goW (by simp[h24,z26,↓e27,h32]) (by simp) ?_
    repeat first|refine cg ?_|simp -dsimp[h24,z26,↓e27,h32]
    revert hF;refine aN (fun h36 q37 hF=> ?_) (fun h36 q37 hF=> ?_)
    ·cases hF
     repeat first|refine cg ?_|simp -dsimp[h24,z26,↓e27,h32,h36,q37]
     refine lG _ (gR _) (hq _ ?_)
     repeat first|refine cg ?_|simp -dsimp[h24,z26,↓e27,h32,h36,q37]
    ·have w38:i64.wrap ((i:Int)+1)=(i:Int)+1:=ZF (by omega) (by omega)
     repeat first|refine cg ?_|simp -dsimp[h24,z26,↓e27,h32,h36,q37,w38]
     refine aG _ ?_ ((ih_f207 (i+1) o hF) _ rfl _ hq)
     exact(gT (by simp) (by simp -dsimp[h24,z26,↓e27,h32,h36,q37,w38]))
   ·cases hF
    repeat first|refine cg ?_|simp -dsimp[h24,z26,↓e27,h32,q33]
    refine lG _ (gR _) (hq _ ?_)
    repeat first|refine cg ?_|simp -dsimp[h24,z26,↓e27,h32,q33]
  ·have z26:¬((i:Int)<(v22.1.length:Int)):=auz
   cases hF
   repeat first|refine cg ?_|simp -dsimp[h24,q25,z26]
   refine lG _ (gT (by simp) (by simp -dsimp[h24,q25,z26])) hq
theorem C.f208 (code:List Int)(more:List Int)(r:Bool)(hF:F.f208 code more=some r):PureCall Tryz.prog B 4 [am cU code,am cU more] (.lit (.bool r)):=by
 unfold F.f208 at hF
 refine pE Tryz.func4 (by kernel_rfl) rfl Tryz.ntmps4 (by simp) (by simp) ?_
 repeat first|refine cg ?_|simp -dsimp
 revert hF;refine aN ?_ ?_<;>intro h1 q2 hF
 ·have z3:¬(1048576<(code.length:Int)):=auz
  repeat first|refine cg ?_|simp -dsimp[h1,q2,z3]
  revert hF;refine aS ?_ ?_<;>intro h4 q5 hF
  ·have z6:(1048576<(more.length:Int)):=auz
   cases hF
   repeat first|refine cg ?_|simp -dsimp[h1,q2,z3,h4,z6]
  ·have z6:¬(1048576<(more.length:Int)):=auz
   repeat first|refine cg ?_|simp -dsimp[h1,q2,z3,h4,q5,z6]
   have hF:=ob hF;obtain⟨v,e7,hF⟩:=hF
   refine((C.f92 B hB1 hB2 code v e7)).goW (by simp[h1,q2,z3,h4,q5,z6]) (by simp) ?_
   repeat first|refine cg ?_|simp -dsimp[h1,q2,z3,h4,q5,z6]
   have hF:=ob hF;obtain⟨v8,e9,hF⟩:=hF
   refine((C.f156 B hB1 hB2 v.1 v.2.1 v.2.2 v8 e9)).goW (by simp[h1,q2,z3,h4,q5,z6]) (by simp) ?_
   repeat first|refine cg ?_|simp -dsimp[h1,q2,z3,h4,q5,z6]
   have hF:=ob hF;obtain⟨v10,e11,hF⟩:=hF
   refine((C.f172 B hB1 hB2 v.1 v.2.1 v.2.2 v10 e11)).goW (by simp[h1,q2,z3,h4,q5,z6]) (by simp) ?_
   repeat first|refine cg ?_|simp -dsimp[h1,q2,z3,h4,q5,z6]
   revert hF;refine aS ?_ ?_<;>intro h12 q13 hF
   ·repeat first|refine cg ?_|simp -dsimp[h1,q2,z3,h4,q5,z6,h12]
    have hF:=ob hF;obtain⟨v14,e15,hF⟩:=hF
    refine(((CC.f144 B hB1 hB2).1 v8.1 v10.1 v14 e15)).goW (by simp[h1,q2,z3,h4,q5,z6,h12]) (by simp) ?_
    repeat first|refine cg ?_|simp -dsimp[h1,q2,z3,h4,q5,z6,h12]
    revert hF;refine aS (fun h16 q17 hF=> ?_) (fun h16 q17 hF=> ?_)
    ·repeat first|refine cg ?_|simp -dsimp[h1,q2,z3,h4,q5,z6,h12,h16]
     revert hF;refine aN (fun h18 q19 hF=> ?_) (fun h18 q19 hF=> ?_)
     ·repeat first|refine cg ?_|simp -dsimp[h1,q2,z3,h4,q5,z6,h12,h16,h18,q19]
      have hF:=ob hF;obtain⟨v20,e21,hF⟩:=hF
      refine(((CC.f144 B hB1 hB2).1 v8.1 v10.1 v20 e21)).goW (by simp[h1,q2,z3,h4,q5,z6,h12,h16,h18,q19]) (by simp) ?_
      cases hF
      repeat first|refine cg ?_|simp -dsimp[h1,q2,z3,h4,q5,z6,h12,h16,h18,q19]
     ·repeat first|refine cg ?_|simp -dsimp[h1,q2,z3,h4,q5,z6,h12,h16,h18,q19]
      have hF:=ob hF;obtain⟨v22,e23,hF⟩:=hF
      refine((C.f191 B hB1 hB2 v.1 v.2.1 (i64.wrap (1+(more.length:Int).tmod 3)) v22 e23)).goW (by simp[h1,q2,z3,h4,q5,z6,h12,h16,h18,q19]) (by simp) ?_
      repeat first|refine cg ?_|simp -dsimp[h1,q2,z3,h4,q5,z6,h12,h16,h18,q19]
      have hF:=ob hF;obtain⟨o',ho39,hF⟩:=hF
      refine ALoop.goU _ ?_ (((CC.f207 B hB1 hB2 v v8 v22) 0 o' ho39) _ rfl _ ?_)
      ·exact(gT (by simp) (by simp -dsimp[h1,q2,z3,h4,q5,z6,h12,h16,h18,q19]))
      rcases o' with r0|sx
      ·dsimp only at hF
       cases hF
       intro st h
       simpa using h
      ·dsimp only at hF
       repeat first|refine cg ?_|simp -dsimp
       have hF:=ob hF;obtain⟨v40,e41,hF⟩:=hF
       refine((C.f156 B hB1 hB2 v.1 v.2.1 v8.1 v40 e41)).goW (by simp) (by simp) ?_
       repeat first|refine cg ?_|simp -dsimp
       have hF:=ob hF;obtain⟨v42,e43,hF⟩:=hF
       refine((C.f135 B hB1 hB2 v.1 v.2.1 v8.1 v42 e43)).goW (by simp) (by simp) ?_
       repeat first|refine cg ?_|simp -dsimp
       revert hF;refine aS (fun h44 q45 hF=> ?_) (fun h44 q45 hF=> ?_)
       ·repeat first|refine cg ?_|simp -dsimp[h44]
        revert hF;refine aS (fun h46 q47 hF=> ?_) (fun h46 q47 hF=> ?_)
        ·repeat first|refine cg ?_|simp -dsimp[h44,h46]
         have hF:=ob hF;obtain⟨v48,e49,hF⟩:=hF
         refine(((CC.f144 B hB1 hB2).1 v40.1 v8.1 v48 e49)).goW (by simp[h44,h46]) (by simp) ?_
         cases hF
         repeat first|refine cg ?_|simp -dsimp[h44,h46]
        ·cases hF
         repeat first|refine cg ?_|simp -dsimp[h44,h46,q47]
       ·cases hF
        repeat first|refine cg ?_|simp -dsimp[h44,q45]
    ·repeat first|refine cg ?_|simp -dsimp[h1,q2,z3,h4,q5,z6,h12,h16,q17]
     have hF:=ob hF;obtain⟨v50,e51,hF⟩:=hF
     refine(((CC.f144 B hB1 hB2).1 v8.1 v10.1 v50 e51)).goW (by simp[h1,q2,z3,h4,q5,z6,h12,h16,q17]) (by simp) ?_
     cases hF
     repeat first|refine cg ?_|simp -dsimp[h1,q2,z3,h4,q5,z6,h12,h16,q17]
   ·cases hF
    repeat first|refine cg ?_|simp -dsimp[h1,q2,z3,h4,q5,z6,h12,q13]
 ·have z3:(1048576<(code.length:Int)):=auz
  cases hF
  repeat first|refine cg ?_|simp -dsimp[h1,q2,z3]
end Go.Proofs.YtoiccjladkadgaaGreat
