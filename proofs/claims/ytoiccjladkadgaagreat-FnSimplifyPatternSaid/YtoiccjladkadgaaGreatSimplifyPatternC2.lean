/- A part of the proof. -/
import Derived.Test.YtoiccjladkadgaaGreatProg
import Derived.Test.YtoiccjladkadgaaGreatSimplifyPatternF
import Derived.Test.YtoiccjladkadgaaGreatSimplifyPatternC1
import Derived.Test.YtoiccjladkadgaaGreatVlSort
import Derived.Test.YtoiccjladkadgaaGreatShelf
namespace Go.Proofs.YtoiccjladkadgaaGreat
open Go Go.Proofs Go.Vl
open abr renaming sp->aS,ns->aN
open Leave renaming go->lG
open Again renaming go->aG
open ALoopU renaming know->kN,enter->eN
open Gh renaming to3->gT,refl->gR
open PureCall renaming enterLe->pE
open Go.IntKind (i64)
set_option linter.all false
set_option maxRecDepth 100000
set_option maxHeartbeats 4000000
set_option synthInstance.maxSize 100000
set_option synthInstance.maxHeartbeats 4000000
attribute [local irreducible] ECallA ZF1 aL aLg AMake MLoop AgainM LeaveM ZBK ZA6 MutCall BCall chk abr ACall ALoop ALoopU ADraw Again Leave ZDs PCall ZAV awp ZG1 PureCall hold
variable (B : Nat) (hB1 : 67108864 <= B) (hB2 : B <= 9223372036854775807)
include hB1 hB2
theorem C.f91 (r':ZD)(p:Pattern)(r:Pattern×ZD)(hF:F.f91 r' p=some r):MutCall Tryz.prog B 35 [am cU r'.f0,li r'.f1] [.ptr 0 0,.agg [li p.op,li p.ctor,li p.n,li p.m,li p.var,am Pattern.c p.kids]] (.agg [li r.1.op,li r.1.ctor,li r.1.n,li r.1.m,li r.1.var,am Pattern.c r.1.kids]) [am cU r.2.f0,li r.2.f1]:=by
 unfold F.f91 at hF
 refine MutCall.enter Tryz.func35 (by kernel_rfl) rfl Tryz.ntmps35 (by simp) (by simp) (by simp) (by simp) ?_
 have hF:=oc hF;obtain⟨c1,hF⟩:=hF
 repeat first|refine cg ?_|simp -dsimp
 have hF:=ob hF;obtain⟨v,e2,hF⟩:=hF
 refine((C.f1 B hB1 hB2 r' 30 v e2)).go 0 rfl (by simp) (by simp) (by simp) ?_
 repeat first|refine cg ?_|simp -dsimp
 revert hF;refine aS ?_ ?_<;>intro h3 q4 hF
 ·repeat first|refine cg ?_|simp -dsimp[h3]
  have hF:=ob hF;obtain⟨v5,e6,hF⟩:=hF
  refine ACall.frz ?_ ((C.f54 B hB1 hB2 v.2 [0,7,1,2,5] v5 e6)).ent
  repeat first|refine cg ?_|simp -dsimp
  refine((C.f54 B hB1 hB2 v.2 [0,7,1,2,5] v5 e6)).go 0 rfl (by simp_all) (by simp) (by simp_all) ?_
  cases hF
  repeat first|refine cg ?_|simp -dsimp
 ·repeat first|refine cg ?_|simp -dsimp[q4]
  revert hF;refine aS ?_ ?_<;>intro h7 q8 hF
  ·repeat first|refine cg ?_|simp -dsimp[h7]
   have hF:=ob hF;obtain⟨v9,e10,hF⟩:=hF
   refine ACall.frz ?_ ((C.f54 B hB1 hB2 v.2 [6,(-1),1] v9 e10)).ent
   repeat first|refine cg ?_|simp -dsimp
   refine((C.f54 B hB1 hB2 v.2 [6,(-1),1] v9 e10)).go 0 rfl (by simp_all) (by simp) (by simp_all) ?_
   cases hF
   repeat first|refine cg ?_|simp -dsimp
  ·repeat first|refine cg ?_|simp -dsimp[q8]
   revert hF;refine aS ?_ ?_<;>intro h11 q12 hF
   ·repeat first|refine cg ?_|simp -dsimp[h11]
    have hF:=ob hF;obtain⟨v13,e14,hF⟩:=hF
    refine ACall.frz ?_ ((C.f54 B hB1 hB2 v.2 [9,(-1),1] v13 e14)).ent
    repeat first|refine cg ?_|simp -dsimp
    refine((C.f54 B hB1 hB2 v.2 [9,(-1),1] v13 e14)).go 0 rfl (by simp_all) (by simp) (by simp_all) ?_
    cases hF
    repeat first|refine cg ?_|simp -dsimp
   ·repeat first|refine cg ?_|simp -dsimp[q12]
    revert hF;refine aS ?_ ?_<;>intro h15 q16 hF
    ·have hF:=oc hF;obtain⟨c17,hF⟩:=hF
     cases hF
     repeat first|refine cg ?_|simp -dsimp[h15]
    ·repeat first|refine cg ?_|simp -dsimp[q16]
     revert hF;refine aS ?_ ?_<;>intro h18 q19 hF
     ·repeat first|refine cg ?_|simp -dsimp[h18]
      revert hF;refine aS ?_ ?_<;>intro h20 q21 hF
      ·have z22:(0<(p.kids.length:Int)):=auz
       have hF:=ob hF;obtain⟨x,e23,hF⟩:=hF
       have le23:=ZB e23
       cases hF
       repeat first|refine cg ?_|simp -dsimp[h20,z22,↓e23]
      ·have z22:¬(0<(p.kids.length:Int)):=auz
       cases hF
       repeat first|refine cg ?_|simp -dsimp[h20,q21,z22]
     ·repeat first|refine cg ?_|simp -dsimp[q19]
      revert hF;refine aS ?_ ?_<;>intro h24 q25 hF
      ·repeat first|refine cg ?_|simp -dsimp[h24]
       have hF:=ob hF;obtain⟨v26,e27,hF⟩:=hF
       refine ACall.frz ?_ ((C.f54 B hB1 hB2 v.2 [10,(-1),5] v26 e27)).ent
       repeat first|refine cg ?_|simp -dsimp
       refine((C.f54 B hB1 hB2 v.2 [10,(-1),5] v26 e27)).go 0 rfl (by simp_all) (by simp) (by simp_all) ?_
       cases hF
       repeat first|refine cg ?_|simp -dsimp
      ·cases hF
       repeat first|refine cg ?_|simp -dsimp[q25]
theorem C.f92 (code:List Int)(r:(List Vl.Data)×Ty×Pattern)(hF:F.f92 code=some r):PureCall Tryz.prog B 9 [am cU code] (.tup [am Vl.Data.c r.1,.agg [li r.2.1.data,li r.2.1.index],.agg [li r.2.2.op,li r.2.2.ctor,li r.2.2.n,li r.2.2.m,li r.2.2.var,am Pattern.c r.2.2.kids]]):=by
 unfold F.f92 at hF
 refine pE Tryz.func9 (by kernel_rfl) rfl Tryz.ntmps9 (by simp) (by simp) ?_
 repeat first|refine cg ?_|simp -dsimp
 refine ACall.inl Tryz.func30 (by kernel_rfl) rfl Tryz.ntmps30 (by simp) ?_
 repeat first|refine cg ?_|simp -dsimp
 revert hF;refine aS ?_ ?_<;>intro h1 q2 hF
 ·have z3:(2000<(code.length:Int)):=auz
  have hF:=oc hF;obtain⟨c4,hF⟩:=hF
  repeat first|refine cg ?_|simp -dsimp[h1,z3]
  have hF:=ob hF;obtain⟨v,e5,hF⟩:=hF
  refine((C.f87 B hB1 hB2 (⟨(code.drop 0).take (2000-0),0⟩:ZD) v e5)).go 2 rfl (by simp_all) (by simp) (by simp_all) ?_
  repeat first|refine cg ?_|simp -dsimp
  have hF:=ob hF;obtain⟨v6,e7,hF⟩:=hF
  refine((C.f1 B hB1 hB2 v.2.2.2.2 2 v6 e7)).go 2 rfl (by simp_all) (by simp) (by simp_all) ?_
  repeat first|refine cg ?_|simp -dsimp
  revert hF;refine aS ?_ ?_<;>intro h8 q9 hF
  ·repeat first|refine cg ?_|simp -dsimp[h8]
   have hF:=ob hF;obtain⟨v10,e11,hF⟩:=hF
   refine((C.f86 B hB1 hB2 v6.2 v.1 v.2.1 v10 e11)).go 2 rfl (by simp_all) (by simp) (by simp_all) ?_
   repeat first|refine cg ?_|simp -dsimp
   refine ADraw.eff [1000036] [(0,0),(0,3),(0,0),(0,3),(0,3),(0,3),(0,3)] [1,1,1,1,1,1,1] follows (by kernel_rfl) (by kernel_rfl) (by kernel_rfl) ?_
   repeat first|refine cg ?_|simp -dsimp
   have hF:=ob hF;obtain⟨v12,e13,hF⟩:=hF
   refine(((CC.f88 B hB1 hB2).1 v.2.2.1 v12 e13)).pgoW (by simp_all) (by simp) ?_
   repeat first|refine cg ?_|simp -dsimp
   have hF:=ob hF;obtain⟨v14,e15,hF⟩:=hF
   refine(((CC.f88 B hB1 hB2).1 v10.1 v14 e15)).pgoW (by simp_all) (by simp) ?_
   repeat first|refine cg ?_|simp -dsimp
   refine ADraw.eff [35] [(0,1),(0,1),(0,0),(0,0),(0,3),(1,1),(0,3),(0,3)] [1,2,1,1,1,1,1,1] follows (by kernel_rfl) (by kernel_rfl) (by kernel_rfl) ?_
   repeat first|refine cg ?_|simp -dsimp
   have hF:=ob hF;obtain⟨v16,e17,hF⟩:=hF
   refine((C.f91 B hB1 hB2 v10.2 (⟨5,0,0,0,0,[v12,v14]⟩:Pattern) v16 e17)).ego 2 rfl (by simp_all) (by simp) (by simp_all) ?_
   cases hF
   repeat first|refine cg ?_|simp -dsimp
  ·repeat first|refine cg ?_|simp -dsimp[q9]
   refine ADraw.eff [35] [(0,1),(0,1),(0,0),(0,0),(0,3),(1,1),(0,3),(0,3)] [1,2,1,1,1,1,1,1] follows (by kernel_rfl) (by kernel_rfl) (by kernel_rfl) ?_
   repeat first|refine cg ?_|simp -dsimp
   have hF:=ob hF;obtain⟨v18,e19,hF⟩:=hF
   refine((C.f91 B hB1 hB2 v6.2 v.2.2.1 v18 e19)).ego 2 rfl (by simp_all) (by simp) (by simp_all) ?_
   cases hF
   repeat first|refine cg ?_|simp -dsimp
 ·have z3:¬(2000<(code.length:Int)):=auz
  repeat first|refine cg ?_|simp -dsimp[h1,q2,z3]
  have hF:=ob hF;obtain⟨v20,e21,hF⟩:=hF
  refine((C.f87 B hB1 hB2 (⟨code,0⟩:ZD) v20 e21)).go 2 rfl (by simp_all) (by simp) (by simp_all) ?_
  repeat first|refine cg ?_|simp -dsimp
  have hF:=ob hF;obtain⟨v22,e23,hF⟩:=hF
  refine((C.f1 B hB1 hB2 v20.2.2.2.2 2 v22 e23)).go 2 rfl (by simp_all) (by simp) (by simp_all) ?_
  repeat first|refine cg ?_|simp -dsimp
  revert hF;refine aS ?_ ?_<;>intro h24 q25 hF
  ·repeat first|refine cg ?_|simp -dsimp[h24]
   have hF:=ob hF;obtain⟨v26,e27,hF⟩:=hF
   refine((C.f86 B hB1 hB2 v22.2 v20.1 v20.2.1 v26 e27)).go 2 rfl (by simp_all) (by simp) (by simp_all) ?_
   repeat first|refine cg ?_|simp -dsimp
   refine ADraw.eff [1000036] [(0,0),(0,3),(0,0),(0,3),(0,3),(0,3),(0,3)] [1,1,1,1,1,1,1] follows (by kernel_rfl) (by kernel_rfl) (by kernel_rfl) ?_
   repeat first|refine cg ?_|simp -dsimp
   have hF:=ob hF;obtain⟨v28,e29,hF⟩:=hF
   refine(((CC.f88 B hB1 hB2).1 v20.2.2.1 v28 e29)).pgoW (by simp_all) (by simp) ?_
   repeat first|refine cg ?_|simp -dsimp
   have hF:=ob hF;obtain⟨v30,e31,hF⟩:=hF
   refine(((CC.f88 B hB1 hB2).1 v26.1 v30 e31)).pgoW (by simp_all) (by simp) ?_
   repeat first|refine cg ?_|simp -dsimp
   refine ADraw.eff [35] [(0,1),(0,1),(0,0),(0,0),(0,3),(1,1),(0,3),(0,3)] [1,2,1,1,1,1,1,1] follows (by kernel_rfl) (by kernel_rfl) (by kernel_rfl) ?_
   repeat first|refine cg ?_|simp -dsimp
   have hF:=ob hF;obtain⟨v32,e33,hF⟩:=hF
   refine((C.f91 B hB1 hB2 v26.2 (⟨5,0,0,0,0,[v28,v30]⟩:Pattern) v32 e33)).ego 2 rfl (by simp_all) (by simp) (by simp_all) ?_
   cases hF
   repeat first|refine cg ?_|simp -dsimp
  ·repeat first|refine cg ?_|simp -dsimp[q25]
   refine ADraw.eff [35] [(0,1),(0,1),(0,0),(0,0),(0,3),(1,1),(0,3),(0,3)] [1,2,1,1,1,1,1,1] follows (by kernel_rfl) (by kernel_rfl) (by kernel_rfl) ?_
   repeat first|refine cg ?_|simp -dsimp
   have hF:=ob hF;obtain⟨v34,e35,hF⟩:=hF
   refine((C.f91 B hB1 hB2 v22.2 v20.2.2.1 v34 e35)).ego 2 rfl (by simp_all) (by simp) (by simp_all) ?_
   cases hF
   repeat first|refine cg ?_|simp -dsimp
theorem C.f93 (n:Int)(low:Int)(high:Int)(r:Bool)(hF:F.f93 n low high=some r):PureCall Tryz.prog B 43 [li n,li low,li high] (.lit (.bool r)):=by
 unfold F.f93 at hF
 refine pE Tryz.func43 (by kernel_rfl) rfl Tryz.ntmps43 (by simp) (by simp) ?_
 repeat first|refine cg ?_|simp -dsimp
 revert hF;refine aS ?_ ?_<;>intro h1 q2 hF
 ·cases hF
  repeat first|refine cg ?_|simp -dsimp[h1]
 ·cases hF
  repeat first|refine cg ?_|simp -dsimp[q2]
theorem CC.f94 (s:ByteArray):(∀(i:Nat) (o:Lo Bool Unit),F.f94 s i=some o->∀(c:Code),Zf [1,1,0,1,0,0] (ZL Tryz.f157)=some c->∀(Q:Exit->ASt->Prop),o.post (fun r=>∀st,ZAV Tryz.prog Tryz.f157 (fun r' _=>r'.le (.lit (.bool r))) .ret st->Q .ret st) (fun s=>Q (.exit 0) ⟨[],[]⟩)->ALoopU Tryz.prog B 0 34 (hold c .mk) ⟨[(0,.lit (.string s)),(3,li (i:Int))],[]⟩ (hold Q .mk)):=by
 refine F.f94.partial_correctness s
  _
  ?_
 ·intro _f_f94 ih_f94 i o hF
  intro c hc Q hq
  obtain rfl:c=_:=ZQ hc rfl
  refine kN fun hk hs=> ?_
  clear hk hs
  refine eN ?_
  repeat first|refine cg ?_|simp -dsimp
  revert hF;refine aS ?_ ?_<;>intro h11 q12 hF
  ·have z13:((i:Int)<(s.size:Int)):=auz
   repeat first|refine cg ?_|simp -dsimp[h11,z13]
   revert hF;refine aN ?_ ?_<;>intro h14 q15 hF
   ·have z16:¬(((byteAt s i:Nat):Int)<97):=auz
    repeat first|refine cg ?_|simp -dsimp[h11,z13,h14,q15,z16]
    revert hF;refine aS ?_ ?_<;>intro h17 q18 hF
    ·have z19:(122<((byteAt s i:Nat):Int)):=auz
     cases hF
     repeat first|refine cg ?_|simp -dsimp[h11,z13,h14,q15,z16,h17,z19]
     refine lG _ (gR _) (hq _ ?_)
     repeat first|refine cg ?_|simp -dsimp[h11,z13,h14,q15,z16,h17,z19]
    ·have z19:¬(122<((byteAt s i:Nat):Int)):=auz
     have hF:=oc hF;obtain⟨c20,hF⟩:=hF
     have w21:i64.wrap ((i:Int)+1)=(i:Int)+1:=ZF (by omega) (by omega)
     repeat first|refine cg ?_|simp -dsimp[h11,z13,h14,q15,z16,h17,q18,z19,w21]
     refine aG _ ?_ ((ih_f94 (i+1) o hF) _ rfl _ hq)
     exact(gT (by simp) (by simp -dsimp[h11,z13,h14,q15,z16,h17,q18,z19,w21]))
   ·have z16:(((byteAt s i:Nat):Int)<97):=auz
    cases hF
    repeat first|refine cg ?_|simp -dsimp[h11,z13,h14,q15,z16]
    refine lG _ (gR _) (hq _ ?_)
    repeat first|refine cg ?_|simp -dsimp[h11,z13,h14,q15,z16]
  ·have z13:¬((i:Int)<(s.size:Int)):=auz
   cases hF
   repeat first|refine cg ?_|simp -dsimp[h11,q12,z13]
   refine lG _ (gT (by simp) (by simp -dsimp[h11,q12,z13])) hq
theorem C.f95 (s:ByteArray)(r:Bool)(hF:F.f95 s=some r):PureCall Tryz.prog B 157 [.lit (.string s)] (.lit (.bool r)):=by
 unfold F.f95 at hF
 refine pE Tryz.func157 (by kernel_rfl) rfl Tryz.ntmps157 (by simp) (by simp) ?_
 repeat first|refine cg ?_|simp -dsimp
 have hF:=ob hF;obtain⟨v,e1,hF⟩:=hF
 refine((C.f93 B hB1 hB2 (s.size:Int) 1 5 v e1)).goW (by simp) (by simp) ?_
 repeat first|refine cg ?_|simp -dsimp
 revert hF;refine aS (fun h2 q3 hF=> ?_) (fun h2 q3 hF=> ?_)
 ·have hF:=oc hF;obtain⟨c4,hF⟩:=hF
  repeat first|refine cg ?_|simp -dsimp[h2]
  revert hF;refine aN ?_ ?_<;>intro h5 q6 hF
  ·have z7:¬(((byteAt s 0:Nat):Int)<65):=auz
   repeat first|refine cg ?_|simp -dsimp[h2,h5,q6,z7]
   revert hF;refine aS ?_ ?_<;>intro h8 q9 hF
   ·have z10:(90<((byteAt s 0:Nat):Int)):=auz
    cases hF
    repeat first|refine cg ?_|simp -dsimp[h2,h5,q6,z7,h8,z10]
   ·have z10:¬(90<((byteAt s 0:Nat):Int)):=auz
    repeat first|refine cg ?_|simp -dsimp[h2,h5,q6,z7,h8,q9,z10]
    have hF:=ob hF;obtain⟨o',ho22,hF⟩:=hF
    refine ALoop.goU _ ?_ (((CC.f94 B hB1 hB2 s) 1 o' ho22) _ rfl _ ?_)
    ·exact(gT (by simp) (by simp -dsimp[h2,h5,q6,z7,h8,q9,z10]))
    rcases o' with r0|sx
    ·dsimp only at hF
     cases hF
     intro st h
     simpa using h
    ·dsimp only at hF
     cases hF
     repeat first|refine cg ?_|simp -dsimp
  ·have z7:(((byteAt s 0:Nat):Int)<65):=auz
   cases hF
   repeat first|refine cg ?_|simp -dsimp[h2,h5,q6,z7]
 ·cases hF
  repeat first|refine cg ?_|simp -dsimp[h2,q3]
theorem C.f96 (w:List Vl.Data)(t:Ty)(r:Bool)(hF:F.f96 w t=some r):PureCall Tryz.prog B 159 [am Vl.Data.c w,.agg [li t.data,li t.index]] (.lit (.bool r)):=by
 unfold F.f96 at hF
 refine pE Tryz.func159 (by kernel_rfl) rfl Tryz.ntmps159 (by simp) (by simp) ?_
 repeat first|refine cg ?_|simp -dsimp
 revert hF;refine aN (fun h1 q2 hF=> ?_) (fun h1 q2 hF=> ?_)
 ·repeat first|refine cg ?_|simp -dsimp[h1,q2]
  have hF:=ob hF;obtain⟨v,e3,hF⟩:=hF
  refine((C.f93 B hB1 hB2 t.data 0 (i64.wrap ((w.length:Int) -1)) v e3)).goW (by simp[h1,q2]) (by simp) ?_
  repeat first|refine cg ?_|simp -dsimp[h1,q2]
  revert hF;refine aS (fun h4 q5 hF=> ?_) (fun h4 q5 hF=> ?_)
  ·repeat first|refine cg ?_|simp -dsimp[h1,q2,h4]
   have hF:=ob hF;obtain⟨v6,e7,hF⟩:=hF
   refine((C.f93 B hB1 hB2 t.index (-1) 3 v6 e7)).goW (by simp[h1,q2,h4]) (by simp) ?_
   cases hF
   repeat first|refine cg ?_|simp -dsimp[h1,q2,h4]
  ·cases hF
   repeat first|refine cg ?_|simp -dsimp[h1,q2,h4,q5]
 ·cases hF
  repeat first|refine cg ?_|simp -dsimp[h1,q2]
theorem C.f97 (t:Ty)(a1:List Vl.Data)(r:Bool)(hF:F.f97 t a1=some r):PureCall Tryz.prog B 158 [.agg [li t.data,li t.index],.rptr [am Vl.Data.c a1] 0] (.lit (.bool r)):=by
 unfold F.f97 at hF
 refine pE Tryz.func158 (by kernel_rfl) rfl Tryz.ntmps158 (by simp) (by simp) ?_
 repeat first|refine cg ?_|simp -dsimp
 have hF:=ob hF;obtain⟨v,e1,hF⟩:=hF
 refine((C.f96 B hB1 hB2 a1 t v e1)).goW (by simp) (by simp) ?_
 cases hF
 repeat first|refine cg ?_|simp -dsimp
theorem CC.f98 (s:List Ty)(k0:List Vl.Data):(∀(i:Nat) (o:Lo Int Unit),F.f98 s k0 i=some o->∀(c:Code),Zf [1,0,1,0,0] (ZL Tryz.f131)=some c->∀(Q:Exit->ASt->Prop),o.post (fun r=>∀st,ZAV Tryz.prog Tryz.f131 (fun r' _=>r'.le (li r)) .ret st->Q .ret st) (fun s=>Q (.exit 0) ⟨[],[]⟩)->ALoopU Tryz.prog B 0 19 (hold c .mk) ⟨[(0,am Ty.c s),(1,.fn (.func 158) [] [.rptr [am Vl.Data.c k0] 0]),(7,li (s.length:Int)),(8,li (i:Int))],[]⟩ (hold Q .mk)):=by
 refine F.f98.partial_correctness s k0
  _
  ?_
 ·intro _f_f98 ih_f98 i o hF
  intro c hc Q hq
  obtain rfl:c=_:=ZQ hc rfl
  refine kN fun hk hs=> ?_
  have b0:=hk 0
  simp -dsimp at b0
  clear hk hs
  refine eN ?_
  repeat first|refine cg ?_|simp -dsimp
  revert hF;refine aS ?_ ?_<;>intro h1 q2 hF
  ·have z3:((i:Int)<(s.length:Int)):=auz
   have hF:=ob hF;obtain⟨x,e4,hF⟩:=hF
   have le4:=ZB e4
   repeat first|refine cg ?_|simp -dsimp[h1,z3,↓e4]
   have hF:=ob hF;obtain⟨v,e5,hF⟩:=hF
   refine((C.f97 B hB1 hB2 x k0 v e5)).goW (by simp_all) (by simp) ?_
   repeat first|refine cg ?_|simp -dsimp
   revert hF;refine aS (fun h6 q7 hF=> ?_) (fun h6 q7 hF=> ?_)
   ·cases hF
    repeat first|refine cg ?_|simp -dsimp[h6]
    refine lG _ (gR _) (hq _ ?_)
    repeat first|refine cg ?_|simp -dsimp
   ·have w8:i64.wrap ((i:Int)+1)=(i:Int)+1:=ZF (by omega) (by omega)
    repeat first|refine cg ?_|simp -dsimp[q7,w8]
    refine aG _ ?_ ((ih_f98 (i+1) o hF) _ rfl _ hq)
    exact(gT (by simp) (by simp_all))
  ·have z3:¬((i:Int)<(s.length:Int)):=auz
   cases hF
   repeat first|refine cg ?_|simp -dsimp[h1,q2,z3]
   refine lG _ (gT (by simp) (by simp_all)) hq
theorem C.f99 (s:List Ty)(k0:List Vl.Data)(r:Int)(hF:F.f99 s k0=some r):PureCall Tryz.prog B 131 [am Ty.c s,.fn (.func 158) [] [.rptr [am Vl.Data.c k0] 0]] (li r):=by
 unfold F.f99 at hF
 refine pE Tryz.func131 (by kernel_rfl) rfl Tryz.ntmps131 (by simp) (by simp) ?_
 repeat first|refine cg ?_|simp -dsimp
 have hF:=ob hF;obtain⟨o',ho9,hF⟩:=hF
 refine ALoop.goU _ ?_ (((CC.f98 B hB1 hB2 s k0) 0 o' ho9) _ rfl _ ?_)
 ·exact(gT (by simp) (by simp -dsimp))
 rcases o' with r0|sx
 ·dsimp only at hF
  cases hF
  intro st h
  simpa using h
 ·dsimp only at hF
  cases hF
  repeat first|refine cg ?_|simp -dsimp
theorem C.f100 (s:List Ty)(k0:List Vl.Data)(r:Bool)(hF:F.f100 s k0=some r):PureCall Tryz.prog B 88 [am Ty.c s,.fn (.func 158) [] [.rptr [am Vl.Data.c k0] 0]] (.lit (.bool r)):=by
 unfold F.f100 at hF
 refine pE Tryz.func88 (by kernel_rfl) rfl Tryz.ntmps88 (by simp) (by simp) ?_
 repeat first|refine cg ?_|simp -dsimp
 have hF:=ob hF;obtain⟨v,e1,hF⟩:=hF
 refine((C.f99 B hB1 hB2 s k0 v e1)).goW (by simp) (by simp) ?_
 cases hF
 repeat first|refine cg ?_|simp -dsimp
theorem C.f101 (w:List Vl.Data)(c':Ctor)(r:Bool)(hF:F.f101 w c'=some r):PureCall Tryz.prog B 130 [am Vl.Data.c w,.agg [.lit (.string c'.name),am Ty.c c'.args,li c'.index]] (.lit (.bool r)):=by
 unfold F.f101 at hF
 refine pE Tryz.func130 (by kernel_rfl) rfl Tryz.ntmps130 (by simp) (by simp) ?_
 repeat first|refine cg ?_|simp -dsimp
 have hF:=ob hF;obtain⟨v,e1,hF⟩:=hF
 refine((C.f95 B hB1 hB2 c'.name v e1)).goW (by simp) (by simp) ?_
 repeat first|refine cg ?_|simp -dsimp
 revert hF;refine aS (fun h2 q3 hF=> ?_) (fun h2 q3 hF=> ?_)
 ·repeat first|refine cg ?_|simp -dsimp[h2]
  revert hF;refine aS ?_ ?_<;>intro h4 q5 hF
  ·have z6:((c'.args.length:Int)<=3):=auz
   repeat first|refine cg ?_|simp -dsimp[h2,h4,z6]
   have hF:=ob hF;obtain⟨v7,e8,hF⟩:=hF
   refine((C.f93 B hB1 hB2 c'.index 0 3 v7 e8)).goW (by simp[h2,h4,z6]) (by simp) ?_
   repeat first|refine cg ?_|simp -dsimp[h2,h4,z6]
   revert hF;refine aS (fun h9 q10 hF=> ?_) (fun h9 q10 hF=> ?_)
   ·repeat first|refine cg ?_|simp -dsimp[h2,h4,z6,h9]
    have hF:=ob hF;obtain⟨v11,e12,hF⟩:=hF
    refine((C.f100 B hB1 hB2 c'.args w v11 e12)).lend (by simp -dsimp[h2,h4,z6,h9]) (by simp -dsimp) ?_
    cases hF
    repeat first|refine cg ?_|simp -dsimp[h2,h4,z6,h9]
   ·cases hF
    repeat first|refine cg ?_|simp -dsimp[h2,h4,z6,h9,q10]
  ·have z6:¬((c'.args.length:Int)<=3):=auz
   cases hF
   repeat first|refine cg ?_|simp -dsimp[h2,h4,q5,z6]
 ·cases hF
  repeat first|refine cg ?_|simp -dsimp[h2,q3]
theorem CC.f102 (w:List Vl.Data)(met4:List ByteArray)(i:Nat)(x:Vl.Data):(∀(met26:List ByteArray) (i27:Nat) (o:Lo Bool (List ByteArray)),F.f102 w met4 i x met26 i27=some o->∀(b1 b2:Nat),¬b1=b2->∀(c:Code),Zf [1,1,1,1,0,1,0,0,1,1,0,0,1,1,1,1,0,0] (ZL Tryz.f84)=some c->∀(Q:Exit->ASt->Ms->Prop),o.post (fun r=>∀st,ZAV Tryz.prog Tryz.f84 (fun r' _=>r'=(.lit (.bool r))) .ret st->∀ms,Q .ret st ms) (fun s=>Q (.exit 2) ⟨[(0,am Vl.Data.c w),(3,.lit (.map (some b1))),(4,.lit (.map (some b2))),(14,am Vl.Data.c w),(15,li (w.length:Int)),(16,li (i:Int))],[]⟩ [(b1,s),(b2,ZCH met4 x.name)])->MLoop Tryz.prog B 79 (hold c .mk) ⟨[(0,am Vl.Data.c w),(3,.lit (.map (some b1))),(4,.lit (.map (some b2))),(14,am Vl.Data.c w),(15,li (w.length:Int)),(16,li (i:Int)),(58,am Ctor.c x.ctors),(59,li (x.ctors.length:Int)),(60,li (i27:Int))],[]⟩ [(b1,met26),(b2,ZCH met4 x.name)] (hold Q .mk)):=by
 refine F.f102.partial_correctness w met4 i x
  _
  ?_
 ·intro _f_f102 ih_f102 met26 i27 o hF
  intro b1 b2 hb2 c hc Q hq
  obtain rfl:c=_:=ZQ hc rfl
  refine MLoop.know fun hk hs=> ?_
  have b0:=hk 0
  simp -dsimp at b0
  have b14:=hk 14
  simp -dsimp at b14
  have b58:=hk 58
  simp -dsimp at b58
  clear hk hs
  refine MLoop.enter ?_
  repeat first|refine cg ?_|simp -dsimp[hb2]
  revert hF;refine aS ?_ ?_<;>intro h28 q29 hF
  ·have z30:((i27:Int)<(x.ctors.length:Int)):=auz
   have hF:=ob hF;obtain⟨x31,e32,hF⟩:=hF
   have le32:=ZB e32
   repeat first|refine cg ?_|simp -dsimp[h28,z30,↓e32]
   have hF:=ob hF;obtain⟨v33,e34,hF⟩:=hF
   refine((C.f101 B hB1 hB2 w x31 v33 e34)).goW (by simp_all) (by simp) ?_
   repeat first|refine cg ?_|simp -dsimp
   revert hF;refine aS (fun h35 q36 hF=> ?_) (fun h35 q36 hF=> ?_)
   ·repeat first|refine cg ?_|simp -dsimp[h35]
    revert hF;refine aS (fun h37 q38 hF=> ?_) (fun h37 q38 hF=> ?_)
    ·cases hF
     repeat first|refine cg ?_|simp -dsimp[h37]
     refine LeaveM.go _ (gR _) (hq _ ?_ _)
     repeat first|refine cg ?_|simp -dsimp
    ·have w39:i64.wrap ((i27:Int)+1)=(i27:Int)+1:=ZF (by omega) (by omega)
     repeat first|refine cg ?_|simp -dsimp[q38,w39]
     refine AgainM.go ⟨[(0,.arr (List.map Vl.Data.c w)),(3,.lit (.map (some b1))),(4,.lit (.map (some b2))),(14,.arr (List.map Vl.Data.c w)),(15,.lit (.int .i64 (w.length:Int))),(16,.lit (.int .i64 (i:Int))),(58,.arr (List.map Ctor.c x.ctors)),(59,.lit (.int .i64 (x.ctors.length:Int))),(60,.lit (.int .i64 ((i27+1):Int)))],[]⟩ (gT (by simp) (by simp_all)) ?_
     exact(ih_f102 (ZCH met26 x31.name) (i27+1) o hF) b1 b2 hb2 _ rfl _ hq
   ·cases hF
    repeat first|refine cg ?_|simp -dsimp[q36]
    refine LeaveM.go _ (gR _) (hq _ ?_ _)
    repeat first|refine cg ?_|simp -dsimp
  ·have z30:¬((i27:Int)<(x.ctors.length:Int)):=auz
   cases hF
   repeat first|refine cg ?_|simp -dsimp[h28,q29,z30]
   refine LeaveM.go ⟨[(0,.arr (List.map Vl.Data.c w)),(3,.lit (.map (some b1))),(4,.lit (.map (some b2))),(14,.arr (List.map Vl.Data.c w)),(15,.lit (.int .i64 (w.length:Int))),(16,.lit (.int .i64 (i:Int)))],[]⟩ (gT (by simp) (by simp_all)) ?_
   exact hq
theorem CC.f103 (w:List Vl.Data):(∀(met:List ByteArray) (met4:List ByteArray) (i:Nat) (o:Lo Bool ((List ByteArray)×(List ByteArray))),F.f103 w met met4 i=some o->∀(b1 b2:Nat),¬b1=b2->∀(c:Code),Zf [1,1,1,1,0,1,0,0] (ZL Tryz.f84)=some c->∀(Q:Exit->ASt->Ms->Prop),o.post (fun r=>∀st,ZAV Tryz.prog Tryz.f84 (fun r' _=>r'=(.lit (.bool r))) .ret st->∀ms,Q .ret st ms) (fun s=>Q (.exit 0) ⟨[],[]⟩ [(b1,s.1),(b2,s.2)])->MLoop Tryz.prog B 79 (hold c .mk) ⟨[(0,am Vl.Data.c w),(3,.lit (.map (some b1))),(4,.lit (.map (some b2))),(14,am Vl.Data.c w),(15,li (w.length:Int)),(16,li (i:Int))],[]⟩ [(b1,met),(b2,met4)] (hold Q .mk)):=by
 refine F.f103.partial_correctness w
  _
  ?_
 ·intro _f_f103 ih_f103 met met4 i o hF
  intro b1 b2 hb2 c hc Q hq
  obtain rfl:c=_:=ZQ hc rfl
  refine MLoop.know fun hk hs=> ?_
  have b0:=hk 0
  simp -dsimp at b0
  have b14:=hk 14
  simp -dsimp at b14
  clear hk hs
  refine MLoop.enter ?_
  repeat first|refine cg ?_|simp -dsimp[hb2]
  revert hF;refine aS ?_ ?_<;>intro h5 q6 hF
  ·have z7:((i:Int)<(w.length:Int)):=auz
   have hF:=ob hF;obtain⟨x,e8,hF⟩:=hF
   have le8:=ZB e8
   repeat first|refine cg ?_|simp -dsimp[hb2,h5,z7,↓e8]
   revert hF;refine aS ?_ ?_<;>intro h9 q10 hF
   ·have z11:((x.name.size:Int)=1):=auz
    have hF:=oc hF;obtain⟨c12,hF⟩:=hF
    repeat first|refine cg ?_|simp -dsimp[hb2,h5,z7,↓e8,h9,z11]
    revert hF;refine aN ?_ ?_<;>intro h13 q14 hF
    ·have z15:¬(((byteAt x.name 0:Nat):Int)<65):=auz
     repeat first|refine cg ?_|simp -dsimp[hb2,h5,z7,↓e8,h9,z11,h13,q14,z15]
     revert hF;refine aN ?_ ?_<;>intro h16 q17 hF
     ·have z18:¬(90<((byteAt x.name 0:Nat):Int)):=auz
      repeat first|refine cg ?_|simp -dsimp[hb2,h5,z7,↓e8,h9,z11,h13,q14,z15,h16,q17,z18]
      revert hF;refine aN ?_ ?_<;>intro h19 q20 hF
      ·repeat first|refine cg ?_|simp -dsimp[hb2,h5,z7,↓e8,h9,z11,h13,q14,z15,h16,q17,z18,h19,q20]
       revert hF;refine aN (fun h21 q22 hF=> ?_) (fun h21 q22 hF=> ?_)
       ·repeat first|refine cg ?_|simp -dsimp[hb2,h5,z7,↓e8,h9,z11,h13,q14,z15,h16,q17,z18,h19,q20,h21,q22]
        have hF:=ob hF;obtain⟨v,e23,hF⟩:=hF
        refine((C.f93 B hB1 hB2 (x.ctors.length:Int) 1 4 v e23)).goW (by simp[hb2,h5,z7,↓e8,h9,z11,h13,q14,z15,h16,q17,z18,h19,q20,h21,q22]) (by simp) ?_
        repeat first|refine cg ?_|simp -dsimp[hb2,h5,z7,↓e8,h9,z11,h13,q14,z15,h16,q17,z18,h19,q20,h21,q22]
        revert hF;refine aN (fun h24 q25 hF=> ?_) (fun h24 q25 hF=> ?_)
        ·cases hF
         repeat first|refine cg ?_|simp -dsimp[hb2,h5,z7,↓e8,h9,z11,h13,q14,z15,h16,q17,z18,h19,q20,h21,q22,h24,q25]
         refine LeaveM.go _ (gR _) (hq _ ?_ _)
         repeat first|refine cg ?_|simp -dsimp[hb2,h5,z7,↓e8,h9,z11,h13,q14,z15,h16,q17,z18,h19,q20,h21,q22,h24,q25]
        ·repeat first|refine cg ?_|simp -dsimp[hb2,h5,z7,↓e8,h9,z11,h13,q14,z15,h16,q17,z18,h19,q20,h21,q22,h24,q25]
         have hF:=ob hF;obtain⟨o',ho40,hF⟩:=hF
         refine MLoop.goU ⟨[(0,.arr (List.map Vl.Data.c w)),(3,.lit (.map (some b1))),(4,.lit (.map (some b2))),(14,.arr (List.map Vl.Data.c w)),(15,.lit (.int .i64 (w.length:Int))),(16,.lit (.int .i64 (i:Int))),(58,.arr (List.map Ctor.c x.ctors)),(59,.lit (.int .i64 (x.ctors.length:Int))),(60,.lit (.int .i64 0))],[]⟩ (gT (by simp) (by simp -dsimp[hb2,h5,z7,↓e8,h9,z11,h13,q14,z15,h16,q17,z18,h19,q20,h21,q22,h24,q25])) ?_
         refine((CC.f102 B hB1 hB2 w met4 i x) met 0 o' ho40) b1 b2 hb2 _ rfl _ ?_
         rcases o' with r0|sx
         ·dsimp only at hF
          cases hF
          intro st h ms
          simp -dsimp
          refine LeaveM.go st (gR _) (hq st h ms)
         ·dsimp only at hF
          have hF:=oc hF;obtain⟨c41,hF⟩:=hF
          have w42:i64.wrap ((i:Int)+1)=(i:Int)+1:=ZF (by omega) (by omega)
          repeat first|refine cg ?_|simp -dsimp[w42]
          refine AgainM.go ⟨[(0,.arr (List.map Vl.Data.c w)),(3,.lit (.map (some b1))),(4,.lit (.map (some b2))),(14,.arr (List.map Vl.Data.c w)),(15,.lit (.int .i64 (w.length:Int))),(16,.lit (.int .i64 ((i+1):Int)))],[]⟩ (gT (by simp) (by simp -dsimp[w42])) ?_
          exact(ih_f103 sx (ZCH met4 x.name) (i+1) o hF) b1 b2 hb2 _ rfl _ hq
       ·cases hF
        repeat first|refine cg ?_|simp -dsimp[hb2,h5,z7,↓e8,h9,z11,h13,q14,z15,h16,q17,z18,h19,q20,h21,q22]
        refine LeaveM.go _ (gR _) (hq _ ?_ _)
        repeat first|refine cg ?_|simp -dsimp[hb2,h5,z7,↓e8,h9,z11,h13,q14,z15,h16,q17,z18,h19,q20,h21,q22]
      ·cases hF
       repeat first|refine cg ?_|simp -dsimp[hb2,h5,z7,↓e8,h9,z11,h13,q14,z15,h16,q17,z18,h19,q20]
       refine LeaveM.go _ (gR _) (hq _ ?_ _)
       repeat first|refine cg ?_|simp -dsimp[hb2,h5,z7,↓e8,h9,z11,h13,q14,z15,h16,q17,z18,h19,q20]
     ·have z18:(90<((byteAt x.name 0:Nat):Int)):=auz
      cases hF
      repeat first|refine cg ?_|simp -dsimp[hb2,h5,z7,↓e8,h9,z11,h13,q14,z15,h16,q17,z18]
      refine LeaveM.go _ (gR _) (hq _ ?_ _)
      repeat first|refine cg ?_|simp -dsimp[hb2,h5,z7,↓e8,h9,z11,h13,q14,z15,h16,q17,z18]
    ·have z15:(((byteAt x.name 0:Nat):Int)<65):=auz
     cases hF
     repeat first|refine cg ?_|simp -dsimp[hb2,h5,z7,↓e8,h9,z11,h13,q14,z15]
     refine LeaveM.go _ (gR _) (hq _ ?_ _)
     repeat first|refine cg ?_|simp -dsimp[hb2,h5,z7,↓e8,h9,z11,h13,q14,z15]
   ·have z11:¬((x.name.size:Int)=1):=auz
    cases hF
    repeat first|refine cg ?_|simp -dsimp[hb2,h5,z7,↓e8,h9,q10,z11]
    refine LeaveM.go _ (gR _) (hq _ ?_ _)
    repeat first|refine cg ?_|simp -dsimp[hb2,h5,z7,↓e8,h9,q10,z11]
  ·have z7:¬((i:Int)<(w.length:Int)):=auz
   cases hF
   repeat first|refine cg ?_|simp -dsimp[hb2,h5,q6,z7]
   refine LeaveM.go ⟨[],[]⟩ (gT (by simp) (by simp -dsimp[hb2,h5,q6,z7])) ?_
   exact hq
theorem C.f104 (w:List Vl.Data)(r:Bool)(hF:F.f104 w=some r):PureCall Tryz.prog B 84 [am Vl.Data.c w] (.lit (.bool r)):=by
 unfold F.f104 at hF
 refine PureCall.enterM Tryz.func84 (by kernel_rfl) rfl Tryz.ntmps84 (by simp) ?_
 repeat first|refine cg ?_|simp -dsimp
 revert hF;refine aS ?_ ?_<;>intro h1 q2 hF
 ·have z3:(4<(w.length:Int)):=auz
  cases hF
  repeat first|refine cg ?_|simp -dsimp[h1,z3]
 ·have z3:¬(4<(w.length:Int)):=auz
  repeat first|refine cg ?_|simp -dsimp[h1,q2,z3]
  refine AMake.go fun b1 hb1=> ?_
  repeat first|refine cg ?_|simp -dsimp
  refine AMake.go fun b2 hb2=> ?_
  simp at hb2
  repeat first|refine cg ?_|simp -dsimp[hb2]
  have hF:=ob hF;obtain⟨o'44,ho43,hF⟩:=hF
  refine MLoop.goU ⟨[(0,.arr (List.map Vl.Data.c w)),(3,.lit (.map (some b1))),(4,.lit (.map (some b2))),(14,.arr (List.map Vl.Data.c w)),(15,.lit (.int .i64 (w.length:Int))),(16,.lit (.int .i64 0))],[]⟩ (gT (by simp) (by simp_all)) ?_
  refine((CC.f103 B hB1 hB2 w) [] [] 0 o'44 ho43) b1 b2 hb2 _ rfl _ ?_
  rcases o'44 with r046|sx45
  ·dsimp only at hF
   cases hF
   intro st h ms
   simpa using h
  ·dsimp only at hF
   cases hF
   repeat first|refine cg ?_|simp -dsimp
theorem C.f105 (w:List Vl.Data)(t:Ty)(r:Bool)(hF:F.f105 w t=some r):PureCall Tryz.prog B 85 [am Vl.Data.c w,.agg [li t.data,li t.index]] (.lit (.bool r)):=by
 unfold F.f105 at hF
 refine pE Tryz.func85 (by kernel_rfl) rfl Tryz.ntmps85 (by simp) (by simp) ?_
 repeat first|refine cg ?_|simp -dsimp
 revert hF;refine aN (fun h1 q2 hF=> ?_) (fun h1 q2 hF=> ?_)
 ·repeat first|refine cg ?_|simp -dsimp[h1,q2]
  have hF:=ob hF;obtain⟨v,e3,hF⟩:=hF
  refine((C.f93 B hB1 hB2 t.data 0 (i64.wrap ((w.length:Int) -1)) v e3)).goW (by simp[h1,q2]) (by simp) ?_
  repeat first|refine cg ?_|simp -dsimp[h1,q2]
  revert hF;refine aS (fun h4 q5 hF=> ?_) (fun h4 q5 hF=> ?_)
  ·repeat first|refine cg ?_|simp -dsimp[h1,q2,h4]
   have hF:=ob hF;obtain⟨v6,e7,hF⟩:=hF
   refine((C.f93 B hB1 hB2 t.index 0 3 v6 e7)).goW (by simp[h1,q2,h4]) (by simp) ?_
   cases hF
   repeat first|refine cg ?_|simp -dsimp[h1,q2,h4]
  ·cases hF
   repeat first|refine cg ?_|simp -dsimp[h1,q2,h4,q5]
 ·cases hF
  repeat first|refine cg ?_|simp -dsimp[h1,q2]
theorem C.f106 (w:List Vl.Data)(t:Ty)(r:Bool)(hF:F.f106 w t=some r):PureCall Tryz.prog B 42 [am Vl.Data.c w,.agg [li t.data,li t.index]] (.lit (.bool r)):=by
 unfold F.f106 at hF
 refine pE Tryz.func42 (by kernel_rfl) rfl Tryz.ntmps42 (by simp) (by simp) ?_
 repeat first|refine cg ?_|simp -dsimp
 have hF:=ob hF;obtain⟨v,e1,hF⟩:=hF
 refine((C.f104 B hB1 hB2 w v e1)).goW (by simp) (by simp) ?_
 repeat first|refine cg ?_|simp -dsimp
 revert hF;refine aS (fun h2 q3 hF=> ?_) (fun h2 q3 hF=> ?_)
 ·repeat first|refine cg ?_|simp -dsimp[h2]
  have hF:=ob hF;obtain⟨v4,e5,hF⟩:=hF
  refine((C.f105 B hB1 hB2 w t v4 e5)).goW (by simp[h2]) (by simp) ?_
  cases hF
  repeat first|refine cg ?_|simp -dsimp[h2]
 ·cases hF
  repeat first|refine cg ?_|simp -dsimp[h2,q3]
theorem C.f107 (p:Pattern)(ctor:Bool)(numbers:Bool)(variable':Bool)(kids:Int)(r:Bool)(hF:F.f107 p ctor numbers variable' kids=some r):PureCall Tryz.prog B 154 [.agg [li p.op,li p.ctor,li p.n,li p.m,li p.var,am Pattern.c p.kids],.lit (.bool ctor),.lit (.bool numbers),.lit (.bool variable'),li kids] (.lit (.bool r)):=by
 unfold F.f107 at hF
 refine pE Tryz.func154 (by kernel_rfl) rfl Tryz.ntmps154 (by simp) (by simp) ?_
 repeat first|refine cg ?_|simp -dsimp
 revert hF;refine aN (fun h1 q2 hF=> ?_) (fun h1 q2 hF=> ?_)
 ·repeat first|refine cg ?_|simp -dsimp[h1,q2]
  revert hF;refine aS ?_ ?_<;>intro h3 q4 hF
  ·repeat first|refine cg ?_|simp -dsimp[h1,q2,h3]
   revert hF;refine aN (fun h5 q6 hF=> ?_) (fun h5 q6 hF=> ?_)
   ·repeat first|refine cg ?_|simp -dsimp[h1,q2,h3,h5,q6]
    revert hF;refine aS ?_ ?_<;>intro h7 q8 hF
    ·repeat first|refine cg ?_|simp -dsimp[h1,q2,h3,h5,q6,h7]
     revert hF;refine aS ?_ ?_<;>intro h9 q10 hF
     ·repeat first|refine cg ?_|simp -dsimp[h1,q2,h3,h5,q6,h7,h9]
      revert hF;refine aN (fun h11 q12 hF=> ?_) (fun h11 q12 hF=> ?_)
      ·repeat first|refine cg ?_|simp -dsimp[h1,q2,h3,h5,q6,h7,h9,h11,q12]
       revert hF;refine aS ?_ ?_<;>intro h13 q14 hF
       ·cases hF
        repeat first|refine cg ?_|simp -dsimp[h1,q2,h3,h5,q6,h7,h9,h11,q12,h13]
       ·cases hF
        repeat first|refine cg ?_|simp -dsimp[h1,q2,h3,h5,q6,h7,h9,h11,q12,h13,q14]
      ·cases hF
       repeat first|refine cg ?_|simp -dsimp[h1,q2,h3,h5,q6,h7,h9,h11,q12]
     ·cases hF
      repeat first|refine cg ?_|simp -dsimp[h1,q2,h3,h5,q6,h7,h9,q10]
    ·cases hF
     repeat first|refine cg ?_|simp -dsimp[h1,q2,h3,h5,q6,h7,q8]
   ·repeat first|refine cg ?_|simp -dsimp[h1,q2,h3,h5,q6]
    revert hF;refine aN (fun h15 q16 hF=> ?_) (fun h15 q16 hF=> ?_)
    ·repeat first|refine cg ?_|simp -dsimp[h1,q2,h3,h5,q6,h15,q16]
     revert hF;refine aS ?_ ?_<;>intro h17 q18 hF
     ·cases hF
      repeat first|refine cg ?_|simp -dsimp[h1,q2,h3,h5,q6,h15,q16,h17]
     ·cases hF
      repeat first|refine cg ?_|simp -dsimp[h1,q2,h3,h5,q6,h15,q16,h17,q18]
    ·cases hF
     repeat first|refine cg ?_|simp -dsimp[h1,q2,h3,h5,q6,h15,q16]
  ·cases hF
   repeat first|refine cg ?_|simp -dsimp[h1,q2,h3,q4]
 ·repeat first|refine cg ?_|simp -dsimp[h1,q2]
  revert hF;refine aN (fun h19 q20 hF=> ?_) (fun h19 q20 hF=> ?_)
  ·repeat first|refine cg ?_|simp -dsimp[h1,q2,h19,q20]
   revert hF;refine aS ?_ ?_<;>intro h21 q22 hF
   ·repeat first|refine cg ?_|simp -dsimp[h1,q2,h19,q20,h21]
    revert hF;refine aS ?_ ?_<;>intro h23 q24 hF
    ·repeat first|refine cg ?_|simp -dsimp[h1,q2,h19,q20,h21,h23]
     revert hF;refine aN (fun h25 q26 hF=> ?_) (fun h25 q26 hF=> ?_)
     ·repeat first|refine cg ?_|simp -dsimp[h1,q2,h19,q20,h21,h23,h25,q26]
      revert hF;refine aS ?_ ?_<;>intro h27 q28 hF
      ·cases hF
       repeat first|refine cg ?_|simp -dsimp[h1,q2,h19,q20,h21,h23,h25,q26,h27]
      ·cases hF
       repeat first|refine cg ?_|simp -dsimp[h1,q2,h19,q20,h21,h23,h25,q26,h27,q28]
     ·cases hF
      repeat first|refine cg ?_|simp -dsimp[h1,q2,h19,q20,h21,h23,h25,q26]
    ·cases hF
     repeat first|refine cg ?_|simp -dsimp[h1,q2,h19,q20,h21,h23,q24]
   ·cases hF
    repeat first|refine cg ?_|simp -dsimp[h1,q2,h19,q20,h21,q22]
  ·repeat first|refine cg ?_|simp -dsimp[h1,q2,h19,q20]
   revert hF;refine aN (fun h29 q30 hF=> ?_) (fun h29 q30 hF=> ?_)
   ·repeat first|refine cg ?_|simp -dsimp[h1,q2,h19,q20,h29,q30]
    revert hF;refine aS ?_ ?_<;>intro h31 q32 hF
    ·cases hF
     repeat first|refine cg ?_|simp -dsimp[h1,q2,h19,q20,h29,q30,h31]
    ·cases hF
     repeat first|refine cg ?_|simp -dsimp[h1,q2,h19,q20,h29,q30,h31,q32]
   ·cases hF
    repeat first|refine cg ?_|simp -dsimp[h1,q2,h19,q20,h29,q30]
theorem C.f108 (v:Int)(r:Bool)(hF:F.f108 v=some r):PureCall Tryz.prog B 155 [li v] (.lit (.bool r)):=by
 unfold F.f108 at hF
 refine pE Tryz.func155 (by kernel_rfl) rfl Tryz.ntmps155 (by simp) (by simp) ?_
 repeat first|refine cg ?_|simp -dsimp
 have hF:=ob hF;obtain⟨v1,e2,hF⟩:=hF
 refine((C.f93 B hB1 hB2 v 0 5 v1 e2)).goW (by simp) (by simp) ?_
 cases hF
 repeat first|refine cg ?_|simp -dsimp
theorem CC.f109 (t:Ty)(x:Vl.Data):(∀(i:Nat) (out:List Int) (o:List Int),F.f109 t x i out=some o->∀(c:Code),Zf [1,1,0,1,0,1,0,0] (ZL Tryz.f74)=some c->∀(Q:Exit->ASt->Prop),(Q (.exit 0) ⟨[(5,.own 1 (List.length (α:=Int) o))],[.dead,.elems 1 (List.map cI o)]⟩)->ALoopU Tryz.prog B 0 44 (hold c .mk) ⟨[(3,.ptr 0 0),(5,.own 1 (List.length (α:=Int) out)),(16,am Ctor.c x.ctors),(17,li (x.ctors.length:Int)),(18,li (i:Int))],[.cells [li t.data,li t.index],.elems 1 (List.map cI out)]⟩ (hold Q .mk)):=by
 refine F.f109.partial_correctness t x
  _
  ?_
 ·intro _f_f109 ih_f109 i out o hF
  intro c hc Q hq
  obtain rfl:c=_:=ZQ hc rfl
  refine kN fun hk hs=> ?_
  have b16:=hk 16
  simp -dsimp at b16
  have d1:=hs 1 _ rfl
  simp -dsimp[Blk.bnd]at d1
  clear hk hs
  refine eN ?_
  repeat first|refine cg ?_|simp -dsimp
  revert hF;refine aS ?_ ?_<;>intro h4 q5 hF
  ·have z6:((i:Int)<(x.ctors.length:Int)):=auz
   have hF:=ob hF;obtain⟨x7,e8,hF⟩:=hF
   have le8:=ZB e8
   repeat first|refine cg ?_|simp -dsimp[h4,z6,↓e8]
   revert hF;refine aN ?_ ?_<;>intro h9 q10 hF
   ·repeat first|refine cg ?_|simp -dsimp[h4,z6,↓e8,h9,q10]
    revert hF;refine aN ?_ ?_<;>intro h11 q12 hF
    ·repeat first|refine cg ?_|simp -dsimp[h4,z6,↓e8,h9,q10,h11,q12]
     revert hF;refine aS ?_ ?_<;>intro h13 q14 hF
     ·have hF:=oc hF;obtain⟨c15,hF⟩:=hF
      have w16:i64.wrap ((i:Int)+1)=(i:Int)+1:=ZF (by omega) (by omega)
      repeat first|refine cg ?_|simp -dsimp[h4,z6,↓e8,h9,q10,h11,q12,h13,w16]
      refine aG _ ?_ ((ih_f109 (i+1) (out++[(i:Int)]) o hF) _ rfl _ hq)
      exact(gT (by simp) (by simp -dsimp[h4,z6,↓e8,h9,q10,h11,q12,h13,w16]))
     ·have w17:i64.wrap ((i:Int)+1)=(i:Int)+1:=ZF (by omega) (by omega)
      repeat first|refine cg ?_|simp -dsimp[h4,z6,↓e8,h9,q10,h11,q12,h13,q14,w17]
      refine aG _ ?_ ((ih_f109 (i+1) out o hF) _ rfl _ hq)
      exact(gT (by simp) (by simp -dsimp[h4,z6,↓e8,h9,q10,h11,q12,h13,q14,w17]))
    ·have hF:=oc hF;obtain⟨c18,hF⟩:=hF
     have w19:i64.wrap ((i:Int)+1)=(i:Int)+1:=ZF (by omega) (by omega)
     repeat first|refine cg ?_|simp -dsimp[h4,z6,↓e8,h9,q10,h11,q12,w19]
     refine aG _ ?_ ((ih_f109 (i+1) (out++[(i:Int)]) o hF) _ rfl _ hq)
     exact(gT (by simp) (by simp -dsimp[h4,z6,↓e8,h9,q10,h11,q12,w19]))
   ·have hF:=oc hF;obtain⟨c20,hF⟩:=hF
    have w21:i64.wrap ((i:Int)+1)=(i:Int)+1:=ZF (by omega) (by omega)
    repeat first|refine cg ?_|simp -dsimp[h4,z6,↓e8,h9,q10,w21]
    refine aG _ ?_ ((ih_f109 (i+1) (out++[(i:Int)]) o hF) _ rfl _ hq)
    exact(gT (by simp) (by simp -dsimp[h4,z6,↓e8,h9,q10,w21]))
  ·have z6:¬((i:Int)<(x.ctors.length:Int)):=auz
   cases hF
   repeat first|refine cg ?_|simp -dsimp[h4,q5,z6]
   refine lG _ (gT (by simp) (by simp -dsimp[h4,q5,z6])) hq
theorem C.f110 (w:List Vl.Data)(t:Ty)(r:List Int)(hF:F.f110 w t=some r):PureCall Tryz.prog B 74 [am Vl.Data.c w,.agg [li t.data,li t.index]] (am cI r):=by
 unfold F.f110 at hF
 refine pE Tryz.func74 (by kernel_rfl) rfl Tryz.ntmps74 (by simp) (by simp) ?_
 repeat first|refine cg ?_|simp -dsimp
 revert hF;refine aN ?_ ?_<;>intro h1 q2 hF
 ·have hF:=ob hF;obtain⟨x,e3a,hF⟩:=hF
  have e3a:=ZZ e3a;obtain⟨ne3,e3⟩:=e3a
  have le3:=ZB e3
  repeat first|refine cg ?_|simp -dsimp[h1,q2,↓e3]
  have hF:=ob hF;obtain⟨o',ho22,hF⟩:=hF
  refine ALoop.goU ⟨[(3,.ptr 0 0),(5,.own 1 (List.length (α:=Int) [])),(16,.arr (List.map Ctor.c x.ctors)),(17,.lit (.int .i64 (x.ctors.length:Int))),(18,.lit (.int .i64 0))],[.cells [.lit (.int .i64 t.data),.lit (.int .i64 t.index)],.elems 1 (List.map cI [])]⟩ (by refine Gh.trans (Gh.nil 5 1 (by simp -dsimp)) ?_;exact(gT (by simp) (by simp_all))) ?_
  refine((CC.f109 B hB1 hB2 t x) 0 [] o' ho22) _ rfl _ ?_
  cases hF
  repeat first|refine cg ?_|simp -dsimp
 ·cases hF
  repeat first|refine cg ?_|simp -dsimp[h1,q2]
theorem CC.f111 (s:List Int)(v:Int):(∀(i:Nat) (o:Lo Int Unit),F.f111 s v i=some o->∀(c:Code),Zf [1,0,1,0,0] (ZL Tryz.f160)=some c->∀(Q:Exit->ASt->Prop),o.post (fun r=>∀st,ZAV Tryz.prog Tryz.f160 (fun r' _=>r'.le (li r)) .ret st->Q .ret st) (fun s=>Q (.exit 0) ⟨[],[]⟩)->ALoopU Tryz.prog B 0 19 (hold c .mk) ⟨[(0,am cI s),(1,li v),(7,li (s.length:Int)),(8,li (i:Int))],[]⟩ (hold Q .mk)):=by
 refine F.f111.partial_correctness s v
  _
  ?_
 ·intro _f_f111 ih_f111 i o hF
  intro c hc Q hq
  obtain rfl:c=_:=ZQ hc rfl
  refine kN fun hk hs=> ?_
  have b0:=hk 0
  simp -dsimp at b0
  clear hk hs
  refine eN ?_
  repeat first|refine cg ?_|simp -dsimp
  revert hF;refine aS ?_ ?_<;>intro h1 q2 hF
  ·have z3:((i:Int)<(s.length:Int)):=auz
   have hF:=ob hF;obtain⟨x,e4,hF⟩:=hF
   have le4:=ZB e4
   repeat first|refine cg ?_|simp -dsimp[h1,z3,↓e4]
   revert hF;refine aS ?_ ?_<;>intro h5 q6 hF
   ·cases hF
    repeat first|refine cg ?_|simp -dsimp[h5]
    refine lG _ (gR _) (hq _ ?_)
    repeat first|refine cg ?_|simp -dsimp
   ·have w7:i64.wrap ((i:Int)+1)=(i:Int)+1:=ZF (by omega) (by omega)
    repeat first|refine cg ?_|simp -dsimp[q6,w7]
    refine aG _ ?_ ((ih_f111 (i+1) o hF) _ rfl _ hq)
    exact(gT (by simp) (by simp_all))
  ·have z3:¬((i:Int)<(s.length:Int)):=auz
   cases hF
   repeat first|refine cg ?_|simp -dsimp[h1,q2,z3]
   refine lG _ (gT (by simp) (by simp_all)) hq
theorem C.f112 (s:List Int)(v:Int)(r:Int)(hF:F.f112 s v=some r):PureCall Tryz.prog B 160 [am cI s,li v] (li r):=by
 unfold F.f112 at hF
 refine pE Tryz.func160 (by kernel_rfl) rfl Tryz.ntmps160 (by simp) (by simp) ?_
 repeat first|refine cg ?_|simp -dsimp
 have hF:=ob hF;obtain⟨o',ho8,hF⟩:=hF
 refine ALoop.goU _ ?_ (((CC.f111 B hB1 hB2 s v) 0 o' ho8) _ rfl _ ?_)
 ·exact(gT (by simp) (by simp -dsimp))
 rcases o' with r0|sx
 ·dsimp only at hF
  cases hF
  intro st h
  simpa using h
 ·dsimp only at hF
  cases hF
  repeat first|refine cg ?_|simp -dsimp
theorem C.f113 (s:List Int)(v:Int)(r:Bool)(hF:F.f113 s v=some r):PureCall Tryz.prog B 132 [am cI s,li v] (.lit (.bool r)):=by
 unfold F.f113 at hF
 refine pE Tryz.func132 (by kernel_rfl) rfl Tryz.ntmps132 (by simp) (by simp) ?_
 repeat first|refine cg ?_|simp -dsimp
 have hF:=ob hF;obtain⟨v1,e2,hF⟩:=hF
 refine((C.f112 B hB1 hB2 s v v1 e2)).goW (by simp) (by simp) ?_
 cases hF
 repeat first|refine cg ?_|simp -dsimp
theorem CC.f114 (t:Ty)(x2:Ctor):(∀(i:Nat) (out:List Ty) (o:List Ty),F.f114 t x2 i out=some o->∀(c:Code),Zf [1,1,1,1,1,0,1,0,0] (ZL Tryz.f86)=some c->∀(Q:Exit->ASt->Prop),(Q (.exit 0) ⟨[(9,.own 2 (List.length (α:=Ty) o))],[.dead,.dead,.elems 2 (List.map Ty.c o)]⟩)->ALoopU Tryz.prog B 0 45 (hold c .mk) ⟨[(8,li t.index),(9,.own 2 (List.length (α:=Ty) out)),(28,am Ty.c x2.args),(29,li (x2.args.length:Int)),(30,li (i:Int))],[.dead,.dead,.elems 2 (List.map Ty.c out)]⟩ (hold Q .mk)):=by
 refine F.f114.partial_correctness t x2
  _
  ?_
 ·intro _f_f114 ih_f114 i out o hF
  intro c hc Q hq
  obtain rfl:c=_:=ZQ hc rfl
  refine kN fun hk hs=> ?_
  have b28:=hk 28
  simp -dsimp at b28
  have d2:=hs 2 _ rfl
  simp -dsimp[Blk.bnd]at d2
  clear hk hs
  refine eN ?_
  repeat first|refine cg ?_|simp -dsimp
  revert hF;refine aS ?_ ?_<;>intro h6 q7 hF
  ·have z8:((i:Int)<(x2.args.length:Int)):=auz
   have hF:=ob hF;obtain⟨x9,e10,hF⟩:=hF
   have le10:=ZB e10
   repeat first|refine cg ?_|simp -dsimp[h6,z8,↓e10]
   revert hF;refine aS ?_ ?_<;>intro h11 q12 hF
   ·have hF:=oc hF;obtain⟨c13,hF⟩:=hF
    have w14:i64.wrap ((i:Int)+1)=(i:Int)+1:=ZF (by omega) (by omega)
    repeat first|refine cg ?_|simp -dsimp[h11,w14]
    refine aG _ ?_ ((ih_f114 (i+1) (out++[(⟨x9.data,t.index⟩:Ty)]) o hF) _ rfl _ hq)
    exact(gT (by simp) (by simp_all))
   ·have hF:=oc hF;obtain⟨c15,hF⟩:=hF
    have w16:i64.wrap ((i:Int)+1)=(i:Int)+1:=ZF (by omega) (by omega)
    repeat first|refine cg ?_|simp -dsimp[h11,q12,w16]
    refine aG _ ?_ ((ih_f114 (i+1) (out++[x9]) o hF) _ rfl _ hq)
    exact(gT (by simp) (by simp_all))
  ·have z8:¬((i:Int)<(x2.args.length:Int)):=auz
   cases hF
   repeat first|refine cg ?_|simp -dsimp[h6,q7,z8]
   refine lG _ (gT (by simp) (by simp_all)) hq
theorem CC.f115 (x2:Ctor):(∀(i18:Nat) (out19:List Ty) (o:List Ty),F.f115 x2 i18 out19=some o->∀(c:Code),Zf [1,1,1,1,1,0,1,0,0] (ZL Tryz.f86)=some c->∀(Q:Exit->ASt->Prop),(Q (.exit 0) ⟨[(9,.own 2 (List.length (α:=Ty) o))],[.dead,.dead,.elems 2 (List.map Ty.c o)]⟩)->ALoopU Tryz.prog B 0 45 (hold c .mk) ⟨[(8,li x2.index),(9,.own 2 (List.length (α:=Ty) out19)),(28,am Ty.c x2.args),(29,li (x2.args.length:Int)),(30,li (i18:Int))],[.dead,.dead,.elems 2 (List.map Ty.c out19)]⟩ (hold Q .mk)):=by
 refine F.f115.partial_correctness x2
  _
  ?_
 ·intro _f_f115 ih_f115 i18 out19 o hF
  intro c hc Q hq
  obtain rfl:c=_:=ZQ hc rfl
  refine kN fun hk hs=> ?_
  have b28:=hk 28
  simp -dsimp at b28
  have d2:=hs 2 _ rfl
  simp -dsimp[Blk.bnd]at d2
  clear hk hs
  refine eN ?_
  repeat first|refine cg ?_|simp -dsimp
  revert hF;refine aS ?_ ?_<;>intro h20 q21 hF
  ·have z22:((i18:Int)<(x2.args.length:Int)):=auz
   have hF:=ob hF;obtain⟨x23,e24,hF⟩:=hF
   have le24:=ZB e24
   repeat first|refine cg ?_|simp -dsimp[h20,z22,↓e24]
   revert hF;refine aS ?_ ?_<;>intro h25 q26 hF
   ·have hF:=oc hF;obtain⟨c27,hF⟩:=hF
    have w28:i64.wrap ((i18:Int)+1)=(i18:Int)+1:=ZF (by omega) (by omega)
    repeat first|refine cg ?_|simp -dsimp[h25,w28]
    refine aG _ ?_ ((ih_f115 (i18+1) (out19++[(⟨x23.data,x2.index⟩:Ty)]) o hF) _ rfl _ hq)
    exact(gT (by simp) (by simp_all))
   ·have hF:=oc hF;obtain⟨c29,hF⟩:=hF
    have w30:i64.wrap ((i18:Int)+1)=(i18:Int)+1:=ZF (by omega) (by omega)
    repeat first|refine cg ?_|simp -dsimp[h25,q26,w30]
    refine aG _ ?_ ((ih_f115 (i18+1) (out19++[x23]) o hF) _ rfl _ hq)
    exact(gT (by simp) (by simp_all))
  ·have z22:¬((i18:Int)<(x2.args.length:Int)):=auz
   cases hF
   repeat first|refine cg ?_|simp -dsimp[h20,q21,z22]
   refine lG _ (gT (by simp) (by simp_all)) hq
theorem C.f116 (w:List Vl.Data)(t:Ty)(ctor:Int)(r:List Ty)(hF:F.f116 w t ctor=some r):PureCall Tryz.prog B 86 [am Vl.Data.c w,.agg [li t.data,li t.index],li ctor] (am Ty.c r):=by
 unfold F.f116 at hF
 refine pE Tryz.func86 (by kernel_rfl) rfl Tryz.ntmps86 (by simp) (by simp) ?_
 have hF:=ob hF;obtain⟨x,e1a,hF⟩:=hF
 have e1a:=ZZ e1a;obtain⟨ne1,e1⟩:=e1a
 have le1:=ZB e1
 have hF:=ob hF;obtain⟨x2,e3a,hF⟩:=hF
 have e3a:=ZZ e3a;obtain⟨ne3,e3⟩:=e3a
 have le3:=ZB e3
 repeat first|refine cg ?_|simp -dsimp[↓e1,↓e3]
 revert hF;refine aS ?_ ?_<;>intro h4 q5 hF
 ·repeat first|refine cg ?_|simp -dsimp[h4]
  have hF:=ob hF;obtain⟨o',ho17,hF⟩:=hF
  refine ALoop.goU ⟨[(8,.lit (.int .i64 t.index)),(9,.own 2 (List.length (α:=Ty) [])),(28,.arr (List.map Ty.c x2.args)),(29,.lit (.int .i64 (x2.args.length:Int))),(30,.lit (.int .i64 0))],[.dead,.dead,.elems 2 (List.map Ty.c [])]⟩ (by refine Gh.trans (Gh.nil 9 2 (by simp -dsimp)) ?_;exact(gT (by simp) (by simp_all))) ?_
  refine((CC.f114 B hB1 hB2 t x2) 0 [] o' ho17) _ rfl _ ?_
  cases hF
  repeat first|refine cg ?_|simp -dsimp
 ·repeat first|refine cg ?_|simp -dsimp[q5]
  have hF:=ob hF;obtain⟨o'32,ho31,hF⟩:=hF
  refine ALoop.goU ⟨[(8,.lit (.int .i64 x2.index)),(9,.own 2 (List.length (α:=Ty) [])),(28,.arr (List.map Ty.c x2.args)),(29,.lit (.int .i64 (x2.args.length:Int))),(30,.lit (.int .i64 0))],[.dead,.dead,.elems 2 (List.map Ty.c [])]⟩ (by refine Gh.trans (Gh.nil 9 2 (by simp -dsimp)) ?_;exact(gT (by simp) (by simp_all))) ?_
  refine((CC.f115 B hB1 hB2 x2) 0 [] o'32 ho31) _ rfl _ ?_
  cases hF
  repeat first|refine cg ?_|simp -dsimp
theorem C.f117 (w:List Vl.Data)(t:Ty)(p:Pattern)(r:(List Ty)×Bool)(hF:F.f117 w t p=some r):PureCall Tryz.prog B 123 [am Vl.Data.c w,.agg [li t.data,li t.index],.agg [li p.op,li p.ctor,li p.n,li p.m,li p.var,am Pattern.c p.kids]] (.tup [am Ty.c r.1,.lit (.bool r.2)]):=by
 unfold F.f117 at hF
 refine pE Tryz.func123 (by kernel_rfl) rfl Tryz.ntmps123 (by simp) (by simp) ?_
 repeat first|refine cg ?_|simp -dsimp
 revert hF;refine aS ?_ ?_<;>intro h1 q2 hF
 ·repeat first|refine cg ?_|simp -dsimp[h1]
  have hF:=ob hF;obtain⟨v,e3,hF⟩:=hF
  refine((C.f107 B hB1 hB2 p false false false 0 v e3)).goW (by simp[h1]) (by simp) ?_
  cases hF
  repeat first|refine cg ?_|simp -dsimp[h1]
 ·repeat first|refine cg ?_|simp -dsimp[h1,q2]
  revert hF;refine aS ?_ ?_<;>intro h4 q5 hF
  ·repeat first|refine cg ?_|simp -dsimp[h1,q2,h4]
   have hF:=ob hF;obtain⟨v6,e7,hF⟩:=hF
   refine((C.f107 B hB1 hB2 p false false true 0 v6 e7)).goW (by simp[h1,q2,h4]) (by simp) ?_
   repeat first|refine cg ?_|simp -dsimp[h1,q2,h4]
   revert hF;refine aS (fun h8 q9 hF=> ?_) (fun h8 q9 hF=> ?_)
   ·repeat first|refine cg ?_|simp -dsimp[h1,q2,h4,h8]
    have hF:=ob hF;obtain⟨v10,e11,hF⟩:=hF
    refine((C.f108 B hB1 hB2 p.var v10 e11)).goW (by simp[h1,q2,h4,h8]) (by simp) ?_
    cases hF
    repeat first|refine cg ?_|simp -dsimp[h1,q2,h4,h8]
   ·cases hF
    repeat first|refine cg ?_|simp -dsimp[h1,q2,h4,h8,q9]
  ·repeat first|refine cg ?_|simp -dsimp[h1,q2,h4,q5]
   revert hF;refine aS ?_ ?_<;>intro h12 q13 hF
   ·repeat first|refine cg ?_|simp -dsimp[h1,q2,h4,q5,h12]
    refine ADraw.simple follows (by kernel_rfl) (by kernel_rfl) ?_
    repeat first|refine cg ?_|simp -dsimp[h1,q2,h4,q5,h12]
    revert hF;refine aS ?_ ?_<;>intro h14 q15 hF
    ·repeat first|refine cg ?_|simp -dsimp[h1,q2,h4,q5,h12,h14]
     have hF:=ob hF;obtain⟨v16,e17,hF⟩:=hF
     refine((C.f107 B hB1 hB2 p false true false 0 v16 e17)).pgoW (by simp[h1,q2,h4,q5,h12,h14]) (by simp) ?_
     repeat first|refine cg ?_|simp -dsimp[h1,q2,h4,q5,h12,h14]
     revert hF;refine aS (fun h18 q19 hF=> ?_) (fun h18 q19 hF=> ?_)
     ·repeat first|refine cg ?_|simp -dsimp[h1,q2,h4,q5,h12,h14,h18]
      revert hF;refine aS ?_ ?_<;>intro h20 q21 hF
      ·repeat first|refine cg ?_|simp -dsimp[h1,q2,h4,q5,h12,h14,h18,h20]
       revert hF;refine aS ?_ ?_<;>intro h22 q23 hF
       ·cases hF
        repeat first|refine cg ?_|simp -dsimp[h1,q2,h4,q5,h12,h14,h18,h20,h22]
       ·cases hF
        repeat first|refine cg ?_|simp -dsimp[h1,q2,h4,q5,h12,h14,h18,h20,h22,q23]
      ·cases hF
       repeat first|refine cg ?_|simp -dsimp[h1,q2,h4,q5,h12,h14,h18,h20,q21]
     ·cases hF
      repeat first|refine cg ?_|simp -dsimp[h1,q2,h4,q5,h12,h14,h18,q19]
    ·cases hF
     repeat first|refine cg ?_|simp -dsimp[h1,q2,h4,q5,h12,h14,q15]
   ·repeat first|refine cg ?_|simp -dsimp[h1,q2,h4,q5,h12,q13]
    revert hF;refine aS ?_ ?_<;>intro h24 q25 hF
    ·repeat first|refine cg ?_|simp -dsimp[h1,q2,h4,q5,h12,q13,h24]
     refine ADraw.simple follows (by kernel_rfl) (by kernel_rfl) ?_
     repeat first|refine cg ?_|simp -dsimp[h1,q2,h4,q5,h12,q13,h24]
     have hF:=ob hF;obtain⟨v26,e27,hF⟩:=hF
     refine((C.f110 B hB1 hB2 w t v26 e27)).pgoW (by simp[h1,q2,h4,q5,h12,q13,h24]) (by simp) ?_
     repeat first|refine cg ?_|simp -dsimp[h1,q2,h4,q5,h12,q13,h24]
     have hF:=ob hF;obtain⟨v28,e29,hF⟩:=hF
     refine((C.f113 B hB1 hB2 v26 p.ctor v28 e29)).pgoW (by simp[h1,q2,h4,q5,h12,q13,h24]) (by simp) ?_
     repeat first|refine cg ?_|simp -dsimp[h1,q2,h4,q5,h12,q13,h24]
     revert hF;refine aN (fun h30 q31 hF=> ?_) (fun h30 q31 hF=> ?_)
     ·cases hF
      repeat first|refine cg ?_|simp -dsimp[h1,q2,h4,q5,h12,q13,h24,h30,q31]
     ·repeat first|refine cg ?_|simp -dsimp[h1,q2,h4,q5,h12,q13,h24,h30,q31]
      have hF:=ob hF;obtain⟨v32,e33,hF⟩:=hF
      refine((C.f116 B hB1 hB2 w t p.ctor v32 e33)).goW (by simp[h1,q2,h4,q5,h12,q13,h24,h30,q31]) (by simp) ?_
      repeat first|refine cg ?_|simp -dsimp[h1,q2,h4,q5,h12,q13,h24,h30,q31]
      have hF:=ob hF;obtain⟨v34,e35,hF⟩:=hF
      refine((C.f107 B hB1 hB2 p true false false (v32.length:Int) v34 e35)).goW (by simp[h1,q2,h4,q5,h12,q13,h24,h30,q31]) (by simp) ?_
      cases hF
      repeat first|refine cg ?_|simp -dsimp[h1,q2,h4,q5,h12,q13,h24,h30,q31]
    ·repeat first|refine cg ?_|simp -dsimp[h1,q2,h4,q5,h12,q13,h24,q25]
     revert hF;refine aS ?_ ?_<;>intro h36 q37 hF
     ·repeat first|refine cg ?_|simp -dsimp[h1,q2,h4,q5,h12,q13,h24,q25,h36]
      refine ADraw.eff [] [(0,0),(0,0),(0,1),(0,1),(0,1),(1,1),(1,1)] [1,1,1,2,1,1,1] follows (by kernel_rfl) (by kernel_rfl) (by kernel_rfl) ?_
      repeat first|refine cg ?_|simp -dsimp[h1,q2,h4,q5,h12,q13,h24,q25,h36]
      have hF:=ob hF;obtain⟨v38,e39,hF⟩:=hF
      refine((C.f107 B hB1 hB2 p false false false 2 v38 e39)).pgoW (by simp[h1,q2,h4,q5,h12,q13,h24,q25,h36]) (by simp) ?_
      cases hF
      repeat first|refine cg ?_|simp -dsimp[h1,q2,h4,q5,h12,q13,h24,q25,h36]
     ·repeat first|refine cg ?_|simp -dsimp[h1,q2,h4,q5,h12,q13,h24,q25,h36,q37]
      revert hF;refine aS ?_ ?_<;>intro h40 q41 hF
      ·repeat first|refine cg ?_|simp -dsimp[h1,q2,h4,q5,h12,q13,h24,q25,h36,q37,h40]
       refine ADraw.eff [] [(0,0),(0,1),(0,1),(0,1),(0,1),(0,1),(0,1),(0,1),(0,1),(1,1),(1,1)] [1,1,2,1,1,0,2,1,1,1,1] follows (by kernel_rfl) (by kernel_rfl) (by kernel_rfl) ?_
       repeat first|refine cg ?_|simp -dsimp[h1,q2,h4,q5,h12,q13,h24,q25,h36,q37,h40]
       have hF:=ob hF;obtain⟨v42,e43,hF⟩:=hF
       refine((C.f107 B hB1 hB2 p false false true 1 v42 e43)).pgoW (by simp[h1,q2,h4,q5,h12,q13,h24,q25,h36,q37,h40]) (by simp) ?_
       repeat first|refine cg ?_|simp -dsimp[h1,q2,h4,q5,h12,q13,h24,q25,h36,q37,h40]
       revert hF;refine aS (fun h44 q45 hF=> ?_) (fun h44 q45 hF=> ?_)
       ·repeat first|refine cg ?_|simp -dsimp[h1,q2,h4,q5,h12,q13,h24,q25,h36,q37,h40,h44]
        have hF:=ob hF;obtain⟨v46,e47,hF⟩:=hF
        refine((C.f108 B hB1 hB2 p.var v46 e47)).pgoW (by simp[h1,q2,h4,q5,h12,q13,h24,q25,h36,q37,h40,h44]) (by simp) ?_
        cases hF
        repeat first|refine cg ?_|simp -dsimp[h1,q2,h4,q5,h12,q13,h24,q25,h36,q37,h40,h44]
       ·skip
        cases hF
        repeat first|refine cg ?_|simp -dsimp[h1,q2,h4,q5,h12,q13,h24,q25,h36,q37,h40,h44,q45]
      ·cases hF
       repeat first|refine cg ?_|simp -dsimp[h1,q2,h4,q5,h12,q13,h24,q25,h36,q37,h40,q41]
theorem CC.f118 (s:List VarType)(v:VarType):(∀(i:Nat) (o:Lo Int Unit),F.f118 s v i=some o->∀(c:Code),Zf [1,0,1,0,0] (ZL Tryz.f171)=some c->∀(Q:Exit->ASt->Prop),o.post (fun r=>∀st,ZAV Tryz.prog Tryz.f171 (fun r' _=>r'.le (li r)) .ret st->Q .ret st) (fun s=>Q (.exit 0) ⟨[],[]⟩)->ALoopU Tryz.prog B 0 19 (hold c .mk) ⟨[(0,am VarType.c s),(3,.ptr 0 0),(7,li (s.length:Int)),(8,li (i:Int))],[.cells [li v.var,li v.type.data,li v.type.index]]⟩ (hold Q .mk)):=by
 refine F.f118.partial_correctness s v
  _
  ?_
 ·intro _f_f118 ih_f118 i o hF
  intro c hc Q hq
  obtain rfl:c=_:=ZQ hc rfl
  refine kN fun hk hs=> ?_
  have b0:=hk 0
  simp -dsimp at b0
  clear hk hs
  refine eN ?_
  repeat first|refine cg ?_|simp -dsimp
  revert hF;refine aS ?_ ?_<;>intro h1 q2 hF
  ·have z3:((i:Int)<(s.length:Int)):=auz
   repeat first|refine cg ?_|simp -dsimp[h1,z3]
   refine ADraw.simple follows (by kernel_rfl) (by kernel_rfl) ?_
   have hF:=ob hF;obtain⟨x,e4,hF⟩:=hF
   have le4:=ZB e4
   repeat first|refine cg ?_|simp -dsimp[↓e4]
   revert hF;refine aS (fun h5 q6 hF=> ?_) (fun h5 q6 hF=> ?_)
   ·cases hF
    repeat first|refine cg ?_|simp -dsimp[h5]
    refine lG _ (gR _) (hq _ ?_)
    repeat first|refine cg ?_|simp -dsimp
   ·have w7:i64.wrap ((i:Int)+1)=(i:Int)+1:=ZF (by omega) (by omega)
    repeat first|refine cg ?_|simp -dsimp[q6,w7]
    refine aG _ ?_ ((ih_f118 (i+1) o hF) _ rfl _ hq)
    exact(gT (by simp) (by simp_all))
  ·have z3:¬((i:Int)<(s.length:Int)):=auz
   cases hF
   repeat first|refine cg ?_|simp -dsimp[h1,q2,z3]
   refine lG _ (gT (by simp) (by simp_all)) hq
theorem C.f119 (s:List VarType)(v:VarType)(r:Int)(hF:F.f119 s v=some r):PureCall Tryz.prog B 171 [am VarType.c s,.agg [li v.var,li v.type.data,li v.type.index]] (li r):=by
 unfold F.f119 at hF
 refine pE Tryz.func171 (by kernel_rfl) rfl Tryz.ntmps171 (by simp) (by simp) ?_
 repeat first|refine cg ?_|simp -dsimp
 have hF:=ob hF;obtain⟨o',ho8,hF⟩:=hF
 refine ALoop.goU _ ?_ (((CC.f118 B hB1 hB2 s v) 0 o' ho8) _ rfl _ ?_)
 ·exact(gT (by simp) (by simp -dsimp))
 rcases o' with r0|sx
 ·dsimp only at hF
  cases hF
  intro st h
  simpa using h
 ·dsimp only at hF
  cases hF
  repeat first|refine cg ?_|simp -dsimp
theorem C.f120 (s:List VarType)(v:VarType)(r:Bool)(hF:F.f120 s v=some r):PureCall Tryz.prog B 136 [am VarType.c s,.agg [li v.var,li v.type.data,li v.type.index]] (.lit (.bool r)):=by
 unfold F.f120 at hF
 refine pE Tryz.func136 (by kernel_rfl) rfl Tryz.ntmps136 (by simp) (by simp) ?_
 repeat first|refine cg ?_|simp -dsimp
 have hF:=ob hF;obtain⟨v1,e2,hF⟩:=hF
 refine((C.f119 B hB1 hB2 s v v1 e2)).goW (by simp) (by simp) ?_
 cases hF
 repeat first|refine cg ?_|simp -dsimp
theorem C.f121 (v:VarType)(a1:List VarType)(r:Bool)(hF:F.f121 v a1=some r):PureCall Tryz.prog B 184 [.agg [li v.var,li v.type.data,li v.type.index],.rptr [am VarType.c a1] 0] (.lit (.bool r)):=by
 unfold F.f121 at hF
 refine pE Tryz.func184 (by kernel_rfl) rfl Tryz.ntmps184 (by simp) (by simp) ?_
 repeat first|refine cg ?_|simp -dsimp
 have hF:=ob hF;obtain⟨v1,e2,hF⟩:=hF
 refine((C.f120 B hB1 hB2 a1 v v1 e2)).goW (by simp) (by simp) ?_
 cases hF
 repeat first|refine cg ?_|simp -dsimp
theorem CC.f122 (s:List VarType)(k0:List VarType):(∀(i:Nat) (o:Lo Int Unit),F.f122 s k0 i=some o->∀(c:Code),Zf [1,0,1,0,0] (ZL Tryz.f188)=some c->∀(Q:Exit->ASt->Prop),o.post (fun r=>∀st,ZAV Tryz.prog Tryz.f188 (fun r' _=>r'.le (li r)) .ret st->Q .ret st) (fun s=>Q (.exit 0) ⟨[],[]⟩)->ALoopU Tryz.prog B 0 19 (hold c .mk) ⟨[(0,am VarType.c s),(1,.fn (.func 184) [] [.rptr [am VarType.c k0] 0]),(7,li (s.length:Int)),(8,li (i:Int))],[]⟩ (hold Q .mk)):=by
 refine F.f122.partial_correctness s k0
  _
  ?_
 ·intro _f_f122 ih_f122 i o hF
  intro c hc Q hq
  obtain rfl:c=_:=ZQ hc rfl
  refine kN fun hk hs=> ?_
  have b0:=hk 0
  simp -dsimp at b0
  clear hk hs
  refine eN ?_
  repeat first|refine cg ?_|simp -dsimp
  revert hF;refine aS ?_ ?_<;>intro h1 q2 hF
  ·have z3:((i:Int)<(s.length:Int)):=auz
   have hF:=ob hF;obtain⟨x,e4,hF⟩:=hF
   have le4:=ZB e4
   repeat first|refine cg ?_|simp -dsimp[h1,z3,↓e4]
   have hF:=ob hF;obtain⟨v,e5,hF⟩:=hF
   refine((C.f121 B hB1 hB2 x k0 v e5)).goW (by simp_all) (by simp) ?_
   repeat first|refine cg ?_|simp -dsimp
   revert hF;refine aS (fun h6 q7 hF=> ?_) (fun h6 q7 hF=> ?_)
   ·cases hF
    repeat first|refine cg ?_|simp -dsimp[h6]
    refine lG _ (gR _) (hq _ ?_)
    repeat first|refine cg ?_|simp -dsimp
   ·have w8:i64.wrap ((i:Int)+1)=(i:Int)+1:=ZF (by omega) (by omega)
    repeat first|refine cg ?_|simp -dsimp[q7,w8]
    refine aG _ ?_ ((ih_f122 (i+1) o hF) _ rfl _ hq)
    exact(gT (by simp) (by simp_all))
  ·have z3:¬((i:Int)<(s.length:Int)):=auz
   cases hF
   repeat first|refine cg ?_|simp -dsimp[h1,q2,z3]
   refine lG _ (gT (by simp) (by simp_all)) hq
theorem C.f123 (s:List VarType)(k0:List VarType)(r:Int)(hF:F.f123 s k0=some r):PureCall Tryz.prog B 188 [am VarType.c s,.fn (.func 184) [] [.rptr [am VarType.c k0] 0]] (li r):=by
 unfold F.f123 at hF
 refine pE Tryz.func188 (by kernel_rfl) rfl Tryz.ntmps188 (by simp) (by simp) ?_
 repeat first|refine cg ?_|simp -dsimp
 have hF:=ob hF;obtain⟨o',ho9,hF⟩:=hF
 refine ALoop.goU _ ?_ (((CC.f122 B hB1 hB2 s k0) 0 o' ho9) _ rfl _ ?_)
 ·exact(gT (by simp) (by simp -dsimp))
 rcases o' with r0|sx
 ·dsimp only at hF
  cases hF
  intro st h
  simpa using h
 ·dsimp only at hF
  cases hF
  repeat first|refine cg ?_|simp -dsimp
theorem C.f124 (s:List VarType)(k0:List VarType)(r:Bool)(hF:F.f124 s k0=some r):PureCall Tryz.prog B 183 [am VarType.c s,.fn (.func 184) [] [.rptr [am VarType.c k0] 0]] (.lit (.bool r)):=by
 unfold F.f124 at hF
 refine pE Tryz.func183 (by kernel_rfl) rfl Tryz.ntmps183 (by simp) (by simp) ?_
 repeat first|refine cg ?_|simp -dsimp
 have hF:=ob hF;obtain⟨v,e1,hF⟩:=hF
 refine((C.f123 B hB1 hB2 s k0 v e1)).goW (by simp) (by simp) ?_
 cases hF
 repeat first|refine cg ?_|simp -dsimp
theorem C.f125 (a:List VarType)(b:List VarType)(r:Bool)(hF:F.f125 a b=some r):PureCall Tryz.prog B 169 [am VarType.c a,am VarType.c b] (.lit (.bool r)):=by
 unfold F.f125 at hF
 refine pE Tryz.func169 (by kernel_rfl) rfl Tryz.ntmps169 (by simp) (by simp) ?_
 repeat first|refine cg ?_|simp -dsimp
 revert hF;refine aS ?_ ?_<;>intro h1 q2 hF
 ·have z3:((a.length:Int)=(b.length:Int)):=auz
  repeat first|refine cg ?_|simp -dsimp[h1,z3]
  have hF:=ob hF;obtain⟨v,e4,hF⟩:=hF
  refine((C.f124 B hB1 hB2 a b v e4)).lend (by simp -dsimp[h1,z3]) (by simp -dsimp) ?_
  cases hF
  repeat first|refine cg ?_|simp -dsimp[h1,z3]
 ·have z3:¬((a.length:Int)=(b.length:Int)):=auz
  cases hF
  repeat first|refine cg ?_|simp -dsimp[h1,q2,z3]
theorem CC.f126 (sx:Int×(List VarType)):(∀(set':Nat->Bool) (i37:Nat) (o:Lo ((List VarType)×Bool×Int) Unit),F.f126 sx set' i37=some o->∀(c:Code),Zf [1,1,1,1,1,1,1,1,1,0,1,0,0] (ZL Tryz.f134)=some c->∀(Q:Exit->ASt->Prop),o.post (fun r=>∀st,ZAV Tryz.prog Tryz.f134 (fun r' σ'=>r'.le (.tup [am VarType.c r.1,.lit (.bool r.2.1)])/\ZCI σ' [li r.2.2]) .ret st->Q .ret st) (fun s=>Q (.exit 3) ⟨[(14,.own 4 (List.length (α:=VarType) sx.2))],[.cells [li sx.1],.dead,.dead,.dead,.elems 3 (List.map VarType.c sx.2)]⟩)->ALoopU Tryz.prog B 1 114 (hold c .mk) ⟨[(14,.own 4 (List.length (α:=VarType) sx.2)),(19,.ptr 5 0),(99,.own 4 (List.length (α:=VarType) sx.2)),(100,li (sx.2.length:Int)),(101,li (i37:Int))],[.cells [li sx.1],.dead,.dead,.dead,.elems 3 (List.map VarType.c sx.2),.cells (fcB 6 set')]⟩ (hold Q .mk)):=by
 refine F.f126.partial_correctness sx
  _
  ?_
 ·intro _f_f126 ih_f126 set' i37 o hF
  intro c hc Q hq
  obtain rfl:c=_:=ZQ hc rfl
  refine kN fun hk hs=> ?_
  have d4:=hs 4 _ rfl
  simp -dsimp[Blk.bnd]at d4
  clear hk hs
  refine eN ?_
  repeat first|refine cg ?_|simp -dsimp
  revert hF;refine aS ?_ ?_<;>intro h38 q39 hF
  ·have z40:((i37:Int)<(sx.2.length:Int)):=auz
   have hF:=ob hF;obtain⟨x41,e42,hF⟩:=hF
   have le42:=ZB e42
   have hF:=oc hF;obtain⟨c43,hF⟩:=hF
   repeat first|refine cg ?_|simp -dsimp[h38,z40,↓e42,c43]
   revert hF;refine aS (fun h44 q45 hF=> ?_) (fun h44 q45 hF=> ?_)
   ·cases hF
    repeat first|refine cg ?_|simp -dsimp[h44]
    refine lG _ (gR _) (hq _ ?_)
    repeat first|refine cg ?_|simp -dsimp
   ·have w46:i64.wrap ((i37:Int)+1)=(i37:Int)+1:=ZF (by omega) (by omega)
    repeat first|refine cg ?_|simp -dsimp[q45,w46]
    refine aG _ ?_ ((ih_f126 (ZF9 set' x41.var.toNat true) (i37+1) o hF) _ rfl _ hq)
    exact(gT (by simp) (by simp_all))
  ·have z40:¬((i37:Int)<(sx.2.length:Int)):=auz
   cases hF
   repeat first|refine cg ?_|simp -dsimp[h38,q39,z40]
   refine lG _ (gT (by simp) (by simp_all)) hq
theorem CC.f127 (sx81:Int×(List VarType)):(∀(set'82:Nat->Bool) (i83:Nat) (o:Lo ((List VarType)×Bool×Int) Unit),F.f127 sx81 set'82 i83=some o->∀(c:Code),Zf [1,1,1,1,1,1,1,1,1,0,1,0,0] (ZL Tryz.f134)=some c->∀(Q:Exit->ASt->Prop),o.post (fun r=>∀st,ZAV Tryz.prog Tryz.f134 (fun r' σ'=>r'.le (.tup [am VarType.c r.1,.lit (.bool r.2.1)])/\ZCI σ' [li r.2.2]) .ret st->Q .ret st) (fun s=>Q (.exit 3) ⟨[(14,.own 3 (List.length (α:=VarType) sx81.2))],[.cells [li sx81.1],.dead,.dead,.elems 3 (List.map VarType.c sx81.2)]⟩)->ALoopU Tryz.prog B 1 114 (hold c .mk) ⟨[(14,.own 3 (List.length (α:=VarType) sx81.2)),(19,.ptr 4 0),(99,.own 3 (List.length (α:=VarType) sx81.2)),(100,li (sx81.2.length:Int)),(101,li (i83:Int))],[.cells [li sx81.1],.dead,.dead,.elems 3 (List.map VarType.c sx81.2),.cells (fcB 6 set'82)]⟩ (hold Q .mk)):=by
 refine F.f127.partial_correctness sx81
  _
  ?_
 ·intro _f_f127 ih_f127 set'82 i83 o hF
  intro c hc Q hq
  obtain rfl:c=_:=ZQ hc rfl
  refine kN fun hk hs=> ?_
  have d3:=hs 3 _ rfl
  simp -dsimp[Blk.bnd]at d3
  clear hk hs
  refine eN ?_
  repeat first|refine cg ?_|simp -dsimp
  revert hF;refine aS ?_ ?_<;>intro h84 q85 hF
  ·have z86:((i83:Int)<(sx81.2.length:Int)):=auz
   have hF:=ob hF;obtain⟨x87,e88,hF⟩:=hF
   have le88:=ZB e88
   have hF:=oc hF;obtain⟨c89,hF⟩:=hF
   repeat first|refine cg ?_|simp -dsimp[h84,z86,↓e88,c89]
   revert hF;refine aS (fun h90 q91 hF=> ?_) (fun h90 q91 hF=> ?_)
   ·cases hF
    repeat first|refine cg ?_|simp -dsimp[h90]
    refine lG _ (gR _) (hq _ ?_)
    repeat first|refine cg ?_|simp -dsimp
   ·have w92:i64.wrap ((i83:Int)+1)=(i83:Int)+1:=ZF (by omega) (by omega)
    repeat first|refine cg ?_|simp -dsimp[q91,w92]
    refine aG _ ?_ ((ih_f127 (ZF9 set'82 x87.var.toNat true) (i83+1) o hF) _ rfl _ hq)
    exact(gT (by simp) (by simp_all))
  ·have z86:¬((i83:Int)<(sx81.2.length:Int)):=auz
   cases hF
   repeat first|refine cg ?_|simp -dsimp[h84,q85,z86]
   refine lG _ (gT (by simp) (by simp_all)) hq
theorem CC.f128 (sx128:Int×(List VarType)):(∀(set'129:Nat->Bool) (i130:Nat) (o:Lo ((List VarType)×Bool×Int) Unit),F.f128 sx128 set'129 i130=some o->∀(c:Code),Zf [1,1,1,1,1,1,1,1,1,0,1,0,0] (ZL Tryz.f134)=some c->∀(Q:Exit->ASt->Prop),o.post (fun r=>∀st,ZAV Tryz.prog Tryz.f134 (fun r' σ'=>r'.le (.tup [am VarType.c r.1,.lit (.bool r.2.1)])/\ZCI σ' [li r.2.2]) .ret st->Q .ret st) (fun s=>Q (.exit 3) ⟨[(14,.own 4 (List.length (α:=VarType) sx128.2))],[.cells [li sx128.1],.dead,.dead,.dead,.elems 3 (List.map VarType.c sx128.2)]⟩)->ALoopU Tryz.prog B 1 114 (hold c .mk) ⟨[(14,.own 4 (List.length (α:=VarType) sx128.2)),(19,.ptr 5 0),(99,.own 4 (List.length (α:=VarType) sx128.2)),(100,li (sx128.2.length:Int)),(101,li (i130:Int))],[.cells [li sx128.1],.dead,.dead,.dead,.elems 3 (List.map VarType.c sx128.2),.cells (fcB 6 set'129)]⟩ (hold Q .mk)):=by
 refine F.f128.partial_correctness sx128
  _
  ?_
 ·intro _f_f128 ih_f128 set'129 i130 o hF
  intro c hc Q hq
  obtain rfl:c=_:=ZQ hc rfl
  refine kN fun hk hs=> ?_
  have d4:=hs 4 _ rfl
  simp -dsimp[Blk.bnd]at d4
  clear hk hs
  refine eN ?_
  repeat first|refine cg ?_|simp -dsimp
  revert hF;refine aS ?_ ?_<;>intro h131 q132 hF
  ·have z133:((i130:Int)<(sx128.2.length:Int)):=auz
   have hF:=ob hF;obtain⟨x134,e135,hF⟩:=hF
   have le135:=ZB e135
   have hF:=oc hF;obtain⟨c136,hF⟩:=hF
   repeat first|refine cg ?_|simp -dsimp[h131,z133,↓e135,c136]
   revert hF;refine aS (fun h137 q138 hF=> ?_) (fun h137 q138 hF=> ?_)
   ·cases hF
    repeat first|refine cg ?_|simp -dsimp[h137]
    refine lG _ (gR _) (hq _ ?_)
    repeat first|refine cg ?_|simp -dsimp
   ·have w139:i64.wrap ((i130:Int)+1)=(i130:Int)+1:=ZF (by omega) (by omega)
    repeat first|refine cg ?_|simp -dsimp[q138,w139]
    refine aG _ ?_ ((ih_f128 (ZF9 set'129 x134.var.toNat true) (i130+1) o hF) _ rfl _ hq)
    exact(gT (by simp) (by simp_all))
  ·have z133:¬((i130:Int)<(sx128.2.length:Int)):=auz
   cases hF
   repeat first|refine cg ?_|simp -dsimp[h131,q132,z133]
   refine lG _ (gT (by simp) (by simp_all)) hq
theorem CC.f129 (w:List Vl.Data):(∀(t:Ty) (p:Pattern) (deep:Int) (count:Int) (r:(List VarType)×Bool×Int),F.f129 w t p deep count=some r->MutCall Tryz.prog B 134 [li count] [am Vl.Data.c w,.agg [li t.data,li t.index],.agg [li p.op,li p.ctor,li p.n,li p.m,li p.var,am Pattern.c p.kids],li deep,.ptr 0 0] (.tup [am VarType.c r.1,.lit (.bool r.2.1)]) [li r.2.2])/\
  (∀(p:Pattern) (deep:Int) (v:(List Ty)×Bool) (z51:Int) (vars52:List VarType) (i53:Nat) (o:Lo ((List VarType)×Bool×Int) (Int×(List VarType))),F.f131 w p deep v z51 vars52 i53=some o->∀(c:Code),Zf [1,1,1,1,1,1,1,0,1,0,0] (ZL Tryz.f134)=some c->∀(Q:Exit->ASt->Prop),o.post (fun r=>∀st,ZAV Tryz.prog Tryz.f134 (fun r' σ'=>r'.le (.tup [am VarType.c r.1,.lit (.bool r.2.1)])/\ZCI σ' [li r.2.2]) .ret st->Q .ret st) (fun s=>Q (.exit 0) ⟨[(14,.own 3 (List.length (α:=VarType) s.2))],[.cells [li s.1],.dead,.dead,.elems 3 (List.map VarType.c s.2)]⟩)->ALoopU Tryz.prog B 1 114 (hold c .mk) ⟨[(0,am Vl.Data.c w),(3,li deep),(4,.ptr 0 0),(7,.ptr 2 0),(12,am Ty.c v.1),(14,.own 3 (List.length (α:=VarType) vars52)),(60,am Pattern.c p.kids),(61,li (p.kids.length:Int)),(62,li (i53:Int))],[.cells [li z51],.dead,.cells [li p.op,li p.ctor,li p.n,li p.m,li p.var,am Pattern.c p.kids],.elems 3 (List.map VarType.c vars52)]⟩ (hold Q .mk))/\
  (∀(p:Pattern) (deep:Int) (v:(List Ty)×Bool) (z:Int) (vars:List VarType) (i:Nat) (o:Lo ((List VarType)×Bool×Int) (Int×(List VarType))),F.f130 w p deep v z vars i=some o->∀(c:Code),Zf [1,1,1,1,1,1,1,0,1,0,0] (ZL Tryz.f134)=some c->∀(Q:Exit->ASt->Prop),o.post (fun r=>∀st,ZAV Tryz.prog Tryz.f134 (fun r' σ'=>r'.le (.tup [am VarType.c r.1,.lit (.bool r.2.1)])/\ZCI σ' [li r.2.2]) .ret st->Q .ret st) (fun s=>Q (.exit 0) ⟨[(14,.own 4 (List.length (α:=VarType) s.2))],[.cells [li s.1],.dead,.dead,.dead,.elems 3 (List.map VarType.c s.2)]⟩)->ALoopU Tryz.prog B 1 114 (hold c .mk) ⟨[(0,am Vl.Data.c w),(3,li deep),(4,.ptr 0 0),(7,.ptr 2 0),(12,am Ty.c v.1),(14,.own 4 (List.length (α:=VarType) vars)),(60,am Pattern.c p.kids),(61,li (p.kids.length:Int)),(62,li (i:Int))],[.cells [li z],.dead,.cells [li p.op,li p.ctor,li p.n,li p.m,li p.var,am Pattern.c p.kids],.dead,.elems 3 (List.map VarType.c vars)]⟩ (hold Q .mk))/\
  (∀(p:Pattern) (deep:Int) (v:(List Ty)×Bool) (z98:Int) (vars99:List VarType) (i100:Nat) (o:Lo ((List VarType)×Bool×Int) (Int×(List VarType))),F.f132 w p deep v z98 vars99 i100=some o->∀(c:Code),Zf [1,1,1,1,1,1,1,0,1,0,0] (ZL Tryz.f134)=some c->∀(Q:Exit->ASt->Prop),o.post (fun r=>∀st,ZAV Tryz.prog Tryz.f134 (fun r' σ'=>r'.le (.tup [am VarType.c r.1,.lit (.bool r.2.1)])/\ZCI σ' [li r.2.2]) .ret st->Q .ret st) (fun s=>Q (.exit 0) ⟨[(14,.own 4 (List.length (α:=VarType) s.2))],[.cells [li s.1],.dead,.dead,.dead,.elems 3 (List.map VarType.c s.2)]⟩)->ALoopU Tryz.prog B 1 114 (hold c .mk) ⟨[(0,am Vl.Data.c w),(3,li deep),(4,.ptr 0 0),(7,.ptr 2 0),(12,am Ty.c v.1),(14,.own 4 (List.length (α:=VarType) vars99)),(60,am Pattern.c p.kids),(61,li (p.kids.length:Int)),(62,li (i100:Int))],[.cells [li z98],.dead,.cells [li p.op,li p.ctor,li p.n,li p.m,li p.var,am Pattern.c p.kids],.dead,.elems 3 (List.map VarType.c vars99)]⟩ (hold Q .mk)):=by
 refine F.f129.mutual_partial_correctness w
  _ _ _ _
  ?_ ?_ ?_ ?_
 ·intro _f_f131 _f_f130 _f_f132 ih_f131 ih_f130 ih_f132 t p deep count r hF
  refine MutCall.enter Tryz.func134 (by kernel_rfl) rfl Tryz.ntmps134 (by simp) (by simp) (by simp) (by simp) ?_
  repeat first|refine cg ?_|simp -dsimp
  revert hF;refine aN ?_ ?_<;>intro h1 q2 hF
  ·repeat first|refine cg ?_|simp -dsimp[h1,q2]
   revert hF;refine aS ?_ ?_<;>intro h3 q4 hF
   ·cases hF
    repeat first|refine cg ?_|simp -dsimp[h1,q2,h3]
    all_goals(try first|omega|rfl)
   ·repeat first|refine cg ?_|simp -dsimp[h1,q2,h3,q4]
    have hF:=ob hF;obtain⟨v,e5,hF⟩:=hF
    refine((C.f117 B hB1 hB2 w t p v e5)).goW (by first|simp[h1,q2,h3,q4];done|simp_all) (by simp) ?_
    repeat first|refine cg ?_|simp -dsimp[h1,q2,h3,q4]
    revert hF;refine aN (fun h6 q7 hF=> ?_) (fun h6 q7 hF=> ?_)
    ·cases hF
     repeat first|refine cg ?_|simp -dsimp[h1,q2,h3,q4,h6,q7]
     all_goals(try first|omega|rfl)
    ·repeat first|refine cg ?_|simp -dsimp[h1,q2,h3,q4,h6,q7]
     revert hF;refine aN ?_ ?_<;>intro h8 q9 hF
     ·repeat first|refine cg ?_|simp -dsimp[h1,q2,h3,q4,h6,q7,h8,q9]
      revert hF;refine aS ?_ ?_<;>intro h10 q11 hF
      ·repeat first|refine cg ?_|simp -dsimp[h1,q2,h3,q4,h6,q7,h8,q9,h10]
       have hF:=ob hF;obtain⟨o',ho36,hF⟩:=hF
       refine ALoop.goU _ ?_ ((ih_f130 p deep v (i64.wrap (count+1)) [(⟨p.var,t⟩:VarType)] 0 o' ho36) _ rfl _ ?_)
       ·exact(gT (by simp) (by first|simp -dsimp[h1,q2,h3,q4,h6,q7,h8,q9,h10];done|simp_all))
       rcases o' with r050|sx
       ·dsimp only at hF
        cases hF
        intro st h
        simpa using h
       ·dsimp only at hF
        repeat first|refine cg ?_|simp -dsimp
        have hF:=ob hF;obtain⟨o'48,ho47,hF⟩:=hF
        refine ALoop.goU _ ?_ (((CC.f126 B hB1 hB2 sx) (fun _=>false) 0 o'48 ho47) _ rfl _ ?_)
        ·exact(gT (by simp) (by simp -dsimp))
        rcases o'48 with r0|sx49
        ·dsimp only at hF
         cases hF
         intro st h
         simpa using h
        ·dsimp only at hF
         cases hF
         repeat first|refine cg ?_|simp -dsimp
         all_goals(try first|omega|rfl)
      ·repeat first|refine cg ?_|simp -dsimp[h1,q2,h3,q4,h6,q7,h8,q9,h10,q11]
       have hF:=ob hF;obtain⟨o'80,ho79,hF⟩:=hF
       refine ALoop.goU ⟨[(0,.arr (List.map Vl.Data.c w)),(3,.lit (.int .i64 deep)),(4,.ptr 0 0),(7,.ptr 2 0),(12,.arr (List.map Ty.c v.1)),(14,.own 3 (List.length (α:=VarType) [])),(60,.arr (List.map Pattern.c p.kids)),(61,.lit (.int .i64 (p.kids.length:Int))),(62,.lit (.int .i64 0))],[.cells [.lit (.int .i64 (i64.wrap (count+1)))],.dead,.cells [.lit (.int .i64 p.op),.lit (.int .i64 p.ctor),.lit (.int .i64 p.n),.lit (.int .i64 p.m),.lit (.int .i64 p.var),.arr (List.map Pattern.c p.kids)],.elems 3 (List.map VarType.c [])]⟩ (by refine Gh.trans (Gh.nil 14 3 (by simp -dsimp)) ?_;exact(gT (by simp) (by first|simp -dsimp[h1,q2,h3,q4,h6,q7,h8,q9,h10,q11];done|simp_all))) ?_
       refine(ih_f131 p deep v (i64.wrap (count+1)) [] 0 o'80 ho79) _ rfl _ ?_
       rcases o'80 with r097|sx81
       ·dsimp only at hF
        cases hF
        intro st h
        simpa using h
       ·dsimp only at hF
        repeat first|refine cg ?_|simp -dsimp
        have hF:=ob hF;obtain⟨o'94,ho93,hF⟩:=hF
        refine ALoop.goU _ ?_ (((CC.f127 B hB1 hB2 sx81) (fun _=>false) 0 o'94 ho93) _ rfl _ ?_)
        ·exact(gT (by simp) (by simp -dsimp))
        rcases o'94 with r096|sx95
        ·dsimp only at hF
         cases hF
         intro st h
         simpa using h
        ·dsimp only at hF
         cases hF
         repeat first|refine cg ?_|simp -dsimp
         all_goals(try first|omega|rfl)
     ·repeat first|refine cg ?_|simp -dsimp[h1,q2,h3,q4,h6,q7,h8,q9]
      have hF:=ob hF;obtain⟨o'127,ho126,hF⟩:=hF
      refine ALoop.goU _ ?_ ((ih_f132 p deep v (i64.wrap (count+1)) [(⟨p.var,t⟩:VarType)] 0 o'127 ho126) _ rfl _ ?_)
      ·exact(gT (by simp) (by first|simp -dsimp[h1,q2,h3,q4,h6,q7,h8,q9];done|simp_all))
      rcases o'127 with r0144|sx128
      ·dsimp only at hF
       cases hF
       intro st h
       simpa using h
      ·dsimp only at hF
       repeat first|refine cg ?_|simp -dsimp
       have hF:=ob hF;obtain⟨o'141,ho140,hF⟩:=hF
       refine ALoop.goU _ ?_ (((CC.f128 B hB1 hB2 sx128) (fun _=>false) 0 o'141 ho140) _ rfl _ ?_)
       ·exact(gT (by simp) (by simp -dsimp))
       rcases o'141 with r0143|sx142
       ·dsimp only at hF
        cases hF
        intro st h
        simpa using h
       ·dsimp only at hF
        cases hF
        repeat first|refine cg ?_|simp -dsimp
        all_goals(try first|omega|rfl)
  ·cases hF
   repeat first|refine cg ?_|simp -dsimp[h1,q2]
   all_goals(try first|omega|rfl)
 ·intro _f_f129 _f_f131 ih_f129 ih_f131 p deep v z51 vars52 i53 o hF
  intro c hc Q hq
  obtain rfl:c=_:=ZQ hc rfl
  refine kN fun hk hs=> ?_
  have b0:=hk 0
  simp -dsimp at b0
  have b12:=hk 12
  simp -dsimp at b12
  have b60:=hk 60
  simp -dsimp at b60
  have d2:=hs 2 _ rfl
  simp -dsimp[Blk.bnd]at d2
  have d3:=hs 3 _ rfl
  simp -dsimp[Blk.bnd]at d3
  clear hk hs
  refine eN ?_
  repeat first|refine cg ?_|simp -dsimp
  revert hF;refine aS ?_ ?_<;>intro h54 q55 hF
  ·have z56:((i53:Int)<(p.kids.length:Int)):=auz
   have hF:=ob hF;obtain⟨x57,e58,hF⟩:=hF
   have le58:=ZB e58
   repeat first|refine cg ?_|simp -dsimp[h54,z56,↓e58]
   refine ADraw.eff [134] [(0,0),(0,0),(0,0),(0,0),(0,0),(0,0),(0,0),(0,0),(0,0),(0,1),(1,1),(1,1),(1,1),(1,1),(1,1)] [1,1,1,1,1,1,1,1,1,1,1,1,1,1,1] follows (by kernel_rfl) (by kernel_rfl) (by kernel_rfl) ?_
   have hF:=ob hF;obtain⟨x59,e60,hF⟩:=hF
   have le60:=ZB e60
   repeat first|refine cg ?_|simp -dsimp[h54,z56,↓e58,↓e60]
   have hF:=ob hF;obtain⟨v61,e62,hF⟩:=hF
   refine((ih_f129 x59 x57 (i64.wrap (deep+1)) z51 v61 e62)).ego 0 rfl (by first|simp[h54,z56,↓e58,↓e60];done|simp_all) (by simp) (by first|simp[h54,z56,↓e58,↓e60];done|simp_all) ?_
   repeat first|refine cg ?_|simp -dsimp[h54,z56,↓e58,↓e60]
   revert hF;refine aN (fun h63 q64 hF=> ?_) (fun h63 q64 hF=> ?_)
   ·cases hF
    repeat first|refine cg ?_|simp -dsimp[h54,z56,↓e58,↓e60,h63,q64]
    refine lG _ (gR _) (hq _ ?_)
    repeat first|refine cg ?_|simp -dsimp[h54,z56,↓e58,↓e60,h63,q64]
   ·repeat first|refine cg ?_|simp -dsimp[h54,z56,↓e58,↓e60,h63,q64]
    revert hF;refine aS ?_ ?_<;>intro h65 q66 hF
    ·repeat first|refine cg ?_|simp -dsimp[h54,z56,↓e58,↓e60,h63,q64,h65]
     revert hF;refine aS ?_ ?_<;>intro h67 q68 hF
     ·have z69:((i53:Int)=1):=auz
      repeat first|refine cg ?_|simp -dsimp[h54,z56,↓e58,↓e60,h63,q64,h65,eq_true h67,eq_true z69]
      have hF:=ob hF;obtain⟨v70,e71,hF⟩:=hF
      refine((C.f125 B hB1 hB2 vars52 v61.1 v70 e71)).lend (by first|simp -dsimp[h54,z56,↓e58,↓e60,h63,q64,h65,eq_true h67,eq_true z69];done|simp_all) (by simp -dsimp) ?_
      repeat first|refine cg ?_|simp -dsimp[h54,z56,↓e58,↓e60,h63,q64,h65,eq_true h67,eq_true z69]
      revert hF;refine aN (fun h72 q73 hF=> ?_) (fun h72 q73 hF=> ?_)
      ·cases hF
       repeat first|refine cg ?_|simp -dsimp[h54,z56,↓e58,↓e60,h63,q64,h65,eq_true h67,eq_true z69,h72,q73]
       refine lG _ (gR _) (hq _ ?_)
       repeat first|refine cg ?_|simp -dsimp[h54,z56,↓e58,↓e60,h63,q64,h65,eq_true h67,eq_true z69,h72,q73]
      ·have w74:i64.wrap ((i53:Int)+1)=(i53:Int)+1:=ZF (by omega) (by omega)
       repeat first|refine cg ?_|simp -dsimp[h54,z56,↓e58,↓e60,h63,q64,h65,eq_true h67,eq_true z69,h72,q73,w74]
       refine aG _ ?_ ((ih_f131 p deep v v61.2.2 vars52 (i53+1) o hF) _ rfl _ hq)
       exact(gT (by simp) (by first|simp -dsimp[h54,z56,↓e58,↓e60,h63,q64,h65,eq_true h67,eq_true z69,h72,q73,w74];done|simp_all))
     ·have z69:¬((i53:Int)=1):=auz
      have hF:=oc hF;obtain⟨c75,hF⟩:=hF
      have w76:i64.wrap ((i53:Int)+1)=(i53:Int)+1:=ZF (by omega) (by omega)
      repeat first|refine cg ?_|simp -dsimp[h54,z56,↓e58,↓e60,h63,q64,h65,h67,q68,z69,w76]
      refine aG _ ?_ ((ih_f131 p deep v v61.2.2 (vars52++v61.1) (i53+1) o hF) _ rfl _ hq)
      exact(gT (by simp) (by first|simp -dsimp[h54,z56,↓e58,↓e60,h63,q64,h65,h67,q68,z69,w76];done|simp_all))
    ·have hF:=oc hF;obtain⟨c77,hF⟩:=hF
     have w78:i64.wrap ((i53:Int)+1)=(i53:Int)+1:=ZF (by omega) (by omega)
     repeat first|refine cg ?_|simp -dsimp[h54,z56,↓e58,↓e60,h63,q64,h65,q66,w78]
     refine aG _ ?_ ((ih_f131 p deep v v61.2.2 (vars52++v61.1) (i53+1) o hF) _ rfl _ hq)
     exact(gT (by simp) (by first|simp -dsimp[h54,z56,↓e58,↓e60,h63,q64,h65,q66,w78];done|simp_all))
  ·have z56:¬((i53:Int)<(p.kids.length:Int)):=auz
   cases hF
   repeat first|refine cg ?_|simp -dsimp[h54,q55,z56]
   refine lG _ (gT (by simp) (by first|simp -dsimp[h54,q55,z56];done|simp_all)) hq
 ·intro _f_f129 _f_f130 ih_f129 ih_f130 p deep v z vars i o hF
  intro c hc Q hq
  obtain rfl:c=_:=ZQ hc rfl
  refine kN fun hk hs=> ?_
  have b0:=hk 0
  simp -dsimp at b0
  have b12:=hk 12
  simp -dsimp at b12
  have b60:=hk 60
  simp -dsimp at b60
  have d2:=hs 2 _ rfl
  simp -dsimp[Blk.bnd]at d2
  have d4:=hs 4 _ rfl
  simp -dsimp[Blk.bnd]at d4
  clear hk hs
  refine eN ?_
  repeat first|refine cg ?_|simp -dsimp
  revert hF;refine aS ?_ ?_<;>intro h12 q13 hF
  ·have z14:((i:Int)<(p.kids.length:Int)):=auz
   have hF:=ob hF;obtain⟨x,e15,hF⟩:=hF
   have le15:=ZB e15
   repeat first|refine cg ?_|simp -dsimp[h12,z14,↓e15]
   refine ADraw.eff [134] [(0,0),(0,0),(0,0),(0,0),(0,0),(0,0),(0,0),(0,0),(0,0),(0,1),(1,1),(1,1),(1,1),(1,1),(1,1)] [1,1,1,1,1,1,1,1,1,1,1,1,1,1,1] follows (by kernel_rfl) (by kernel_rfl) (by kernel_rfl) ?_
   have hF:=ob hF;obtain⟨x16,e17,hF⟩:=hF
   have le17:=ZB e17
   repeat first|refine cg ?_|simp -dsimp[h12,z14,↓e15,↓e17]
   have hF:=ob hF;obtain⟨v18,e19,hF⟩:=hF
   refine((ih_f129 x16 x (i64.wrap (deep+1)) z v18 e19)).ego 0 rfl (by first|simp[h12,z14,↓e15,↓e17];done|simp_all) (by simp) (by first|simp[h12,z14,↓e15,↓e17];done|simp_all) ?_
   repeat first|refine cg ?_|simp -dsimp[h12,z14,↓e15,↓e17]
   revert hF;refine aN (fun h20 q21 hF=> ?_) (fun h20 q21 hF=> ?_)
   ·cases hF
    repeat first|refine cg ?_|simp -dsimp[h12,z14,↓e15,↓e17,h20,q21]
    refine lG _ (gR _) (hq _ ?_)
    repeat first|refine cg ?_|simp -dsimp[h12,z14,↓e15,↓e17,h20,q21]
   ·repeat first|refine cg ?_|simp -dsimp[h12,z14,↓e15,↓e17,h20,q21]
    revert hF;refine aS ?_ ?_<;>intro h22 q23 hF
    ·repeat first|refine cg ?_|simp -dsimp[h12,z14,↓e15,↓e17,h20,q21,h22]
     revert hF;refine aS ?_ ?_<;>intro h24 q25 hF
     ·have z26:((i:Int)=1):=auz
      repeat first|refine cg ?_|simp -dsimp[h12,z14,↓e15,↓e17,h20,q21,h22,eq_true h24,eq_true z26]
      have hF:=ob hF;obtain⟨v27,e28,hF⟩:=hF
      refine((C.f125 B hB1 hB2 vars v18.1 v27 e28)).lend (by first|simp -dsimp[h12,z14,↓e15,↓e17,h20,q21,h22,eq_true h24,eq_true z26];done|simp_all) (by simp -dsimp) ?_
      repeat first|refine cg ?_|simp -dsimp[h12,z14,↓e15,↓e17,h20,q21,h22,eq_true h24,eq_true z26]
      revert hF;refine aN (fun h29 q30 hF=> ?_) (fun h29 q30 hF=> ?_)
      ·cases hF
       repeat first|refine cg ?_|simp -dsimp[h12,z14,↓e15,↓e17,h20,q21,h22,eq_true h24,eq_true z26,h29,q30]
       refine lG _ (gR _) (hq _ ?_)
       repeat first|refine cg ?_|simp -dsimp[h12,z14,↓e15,↓e17,h20,q21,h22,eq_true h24,eq_true z26,h29,q30]
      ·have w31:i64.wrap ((i:Int)+1)=(i:Int)+1:=ZF (by omega) (by omega)
       repeat first|refine cg ?_|simp -dsimp[h12,z14,↓e15,↓e17,h20,q21,h22,eq_true h24,eq_true z26,h29,q30,w31]
       refine aG _ ?_ ((ih_f130 p deep v v18.2.2 vars (i+1) o hF) _ rfl _ hq)
       exact(gT (by simp) (by first|simp -dsimp[h12,z14,↓e15,↓e17,h20,q21,h22,eq_true h24,eq_true z26,h29,q30,w31];done|simp_all))
     ·have z26:¬((i:Int)=1):=auz
      have hF:=oc hF;obtain⟨c32,hF⟩:=hF
      have w33:i64.wrap ((i:Int)+1)=(i:Int)+1:=ZF (by omega) (by omega)
      repeat first|refine cg ?_|simp -dsimp[h12,z14,↓e15,↓e17,h20,q21,h22,h24,q25,z26,w33]
      refine aG _ ?_ ((ih_f130 p deep v v18.2.2 (vars++v18.1) (i+1) o hF) _ rfl _ hq)
      exact(gT (by simp) (by first|simp -dsimp[h12,z14,↓e15,↓e17,h20,q21,h22,h24,q25,z26,w33];done|simp_all))
    ·have hF:=oc hF;obtain⟨c34,hF⟩:=hF
     have w35:i64.wrap ((i:Int)+1)=(i:Int)+1:=ZF (by omega) (by omega)
     repeat first|refine cg ?_|simp -dsimp[h12,z14,↓e15,↓e17,h20,q21,h22,q23,w35]
     refine aG _ ?_ ((ih_f130 p deep v v18.2.2 (vars++v18.1) (i+1) o hF) _ rfl _ hq)
     exact(gT (by simp) (by first|simp -dsimp[h12,z14,↓e15,↓e17,h20,q21,h22,q23,w35];done|simp_all))
  ·have z14:¬((i:Int)<(p.kids.length:Int)):=auz
   cases hF
   repeat first|refine cg ?_|simp -dsimp[h12,q13,z14]
   refine lG _ (gT (by simp) (by first|simp -dsimp[h12,q13,z14];done|simp_all)) hq
 ·intro _f_f129 _f_f132 ih_f129 ih_f132 p deep v z98 vars99 i100 o hF
  intro c hc Q hq
  obtain rfl:c=_:=ZQ hc rfl
  refine kN fun hk hs=> ?_
  have b0:=hk 0
  simp -dsimp at b0
  have b12:=hk 12
  simp -dsimp at b12
  have b60:=hk 60
  simp -dsimp at b60
  have d2:=hs 2 _ rfl
  simp -dsimp[Blk.bnd]at d2
  have d4:=hs 4 _ rfl
  simp -dsimp[Blk.bnd]at d4
  clear hk hs
  refine eN ?_
  repeat first|refine cg ?_|simp -dsimp
  revert hF;refine aS ?_ ?_<;>intro h101 q102 hF
  ·have z103:((i100:Int)<(p.kids.length:Int)):=auz
   have hF:=ob hF;obtain⟨x104,e105,hF⟩:=hF
   have le105:=ZB e105
   repeat first|refine cg ?_|simp -dsimp[h101,z103,↓e105]
   refine ADraw.eff [134] [(0,0),(0,0),(0,0),(0,0),(0,0),(0,0),(0,0),(0,0),(0,0),(0,1),(1,1),(1,1),(1,1),(1,1),(1,1)] [1,1,1,1,1,1,1,1,1,1,1,1,1,1,1] follows (by kernel_rfl) (by kernel_rfl) (by kernel_rfl) ?_
   have hF:=ob hF;obtain⟨x106,e107,hF⟩:=hF
   have le107:=ZB e107
   repeat first|refine cg ?_|simp -dsimp[h101,z103,↓e105,↓e107]
   have hF:=ob hF;obtain⟨v108,e109,hF⟩:=hF
   refine((ih_f129 x106 x104 (i64.wrap (deep+1)) z98 v108 e109)).ego 0 rfl (by first|simp[h101,z103,↓e105,↓e107];done|simp_all) (by simp) (by first|simp[h101,z103,↓e105,↓e107];done|simp_all) ?_
   repeat first|refine cg ?_|simp -dsimp[h101,z103,↓e105,↓e107]
   revert hF;refine aN (fun h110 q111 hF=> ?_) (fun h110 q111 hF=> ?_)
   ·cases hF
    repeat first|refine cg ?_|simp -dsimp[h101,z103,↓e105,↓e107,h110,q111]
    refine lG _ (gR _) (hq _ ?_)
    repeat first|refine cg ?_|simp -dsimp[h101,z103,↓e105,↓e107,h110,q111]
   ·repeat first|refine cg ?_|simp -dsimp[h101,z103,↓e105,↓e107,h110,q111]
    revert hF;refine aS ?_ ?_<;>intro h112 q113 hF
    ·repeat first|refine cg ?_|simp -dsimp[h101,z103,↓e105,↓e107,h110,q111,h112]
     revert hF;refine aS ?_ ?_<;>intro h114 q115 hF
     ·have z116:((i100:Int)=1):=auz
      repeat first|refine cg ?_|simp -dsimp[h101,z103,↓e105,↓e107,h110,q111,h112,eq_true h114,eq_true z116]
      have hF:=ob hF;obtain⟨v117,e118,hF⟩:=hF
      refine((C.f125 B hB1 hB2 vars99 v108.1 v117 e118)).lend (by first|simp -dsimp[h101,z103,↓e105,↓e107,h110,q111,h112,eq_true h114,eq_true z116];done|simp_all) (by simp -dsimp) ?_
      repeat first|refine cg ?_|simp -dsimp[h101,z103,↓e105,↓e107,h110,q111,h112,eq_true h114,eq_true z116]
      revert hF;refine aN (fun h119 q120 hF=> ?_) (fun h119 q120 hF=> ?_)
      ·cases hF
       repeat first|refine cg ?_|simp -dsimp[h101,z103,↓e105,↓e107,h110,q111,h112,eq_true h114,eq_true z116,h119,q120]
       refine lG _ (gR _) (hq _ ?_)
       repeat first|refine cg ?_|simp -dsimp[h101,z103,↓e105,↓e107,h110,q111,h112,eq_true h114,eq_true z116,h119,q120]
      ·have w121:i64.wrap ((i100:Int)+1)=(i100:Int)+1:=ZF (by omega) (by omega)
       repeat first|refine cg ?_|simp -dsimp[h101,z103,↓e105,↓e107,h110,q111,h112,eq_true h114,eq_true z116,h119,q120,w121]
       refine aG _ ?_ ((ih_f132 p deep v v108.2.2 vars99 (i100+1) o hF) _ rfl _ hq)
       exact(gT (by simp) (by first|simp -dsimp[h101,z103,↓e105,↓e107,h110,q111,h112,eq_true h114,eq_true z116,h119,q120,w121];done|simp_all))
     ·have z116:¬((i100:Int)=1):=auz
      have hF:=oc hF;obtain⟨c122,hF⟩:=hF
      have w123:i64.wrap ((i100:Int)+1)=(i100:Int)+1:=ZF (by omega) (by omega)
      repeat first|refine cg ?_|simp -dsimp[h101,z103,↓e105,↓e107,h110,q111,h112,h114,q115,z116,w123]
      refine aG _ ?_ ((ih_f132 p deep v v108.2.2 (vars99++v108.1) (i100+1) o hF) _ rfl _ hq)
      exact(gT (by simp) (by first|simp -dsimp[h101,z103,↓e105,↓e107,h110,q111,h112,h114,q115,z116,w123];done|simp_all))
    ·have hF:=oc hF;obtain⟨c124,hF⟩:=hF
     have w125:i64.wrap ((i100:Int)+1)=(i100:Int)+1:=ZF (by omega) (by omega)
     repeat first|refine cg ?_|simp -dsimp[h101,z103,↓e105,↓e107,h110,q111,h112,q113,w125]
     refine aG _ ?_ ((ih_f132 p deep v v108.2.2 (vars99++v108.1) (i100+1) o hF) _ rfl _ hq)
     exact(gT (by simp) (by first|simp -dsimp[h101,z103,↓e105,↓e107,h110,q111,h112,q113,w125];done|simp_all))
  ·have z103:¬((i100:Int)<(p.kids.length:Int)):=auz
   cases hF
   repeat first|refine cg ?_|simp -dsimp[h101,q102,z103]
   refine lG _ (gT (by simp) (by first|simp -dsimp[h101,q102,z103];done|simp_all)) hq
theorem C.f133 (w:List Vl.Data)(t:Ty)(p:Pattern)(r:(List VarType)×Bool)(hF:F.f133 w t p=some r):PureCall Tryz.prog B 96 [am Vl.Data.c w,.agg [li t.data,li t.index],.agg [li p.op,li p.ctor,li p.n,li p.m,li p.var,am Pattern.c p.kids]] (.tup [am VarType.c r.1,.lit (.bool r.2)]):=by
 unfold F.f133 at hF
 refine pE Tryz.func96 (by kernel_rfl) rfl Tryz.ntmps96 (by simp) (by simp) ?_
 repeat first|refine cg ?_|simp -dsimp
 have hF:=ob hF;obtain⟨v,e1,hF⟩:=hF
 refine(((CC.f129 B hB1 hB2 w).1 t p 1 0 v e1)).go 2 rfl (by simp) (by simp) (by simp) ?_
 cases hF
 repeat first|refine cg ?_|simp -dsimp
theorem C.f134 (w:List Vl.Data)(t:Ty)(p:Pattern)(r:Bool)(hF:F.f134 w t p=some r):PureCall Tryz.prog B 50 [am Vl.Data.c w,.agg [li t.data,li t.index],.agg [li p.op,li p.ctor,li p.n,li p.m,li p.var,am Pattern.c p.kids]] (.lit (.bool r)):=by
 unfold F.f134 at hF
 refine pE Tryz.func50 (by kernel_rfl) rfl Tryz.ntmps50 (by simp) (by simp) ?_
 repeat first|refine cg ?_|simp -dsimp
 have hF:=ob hF;obtain⟨v,e1,hF⟩:=hF
 refine((C.f133 B hB1 hB2 w t p v e1)).goW (by simp) (by simp) ?_
 cases hF
 repeat first|refine cg ?_|simp -dsimp
theorem C.f135 (w:List Vl.Data)(t:Ty)(p:Pattern)(r:Bool)(hF:F.f135 w t p=some r):PureCall Tryz.prog B 16 [am Vl.Data.c w,.agg [li t.data,li t.index],.agg [li p.op,li p.ctor,li p.n,li p.m,li p.var,am Pattern.c p.kids]] (.lit (.bool r)):=by
 unfold F.f135 at hF
 refine pE Tryz.func16 (by kernel_rfl) rfl Tryz.ntmps16 (by simp) (by simp) ?_
 repeat first|refine cg ?_|simp -dsimp
 have hF:=ob hF;obtain⟨v,e1,hF⟩:=hF
 refine((C.f106 B hB1 hB2 w t v e1)).goW (by simp) (by simp) ?_
 repeat first|refine cg ?_|simp -dsimp
 revert hF;refine aS (fun h2 q3 hF=> ?_) (fun h2 q3 hF=> ?_)
 ·repeat first|refine cg ?_|simp -dsimp[h2]
  have hF:=ob hF;obtain⟨v4,e5,hF⟩:=hF
  refine((C.f134 B hB1 hB2 w t p v4 e5)).goW (by simp[h2]) (by simp) ?_
  cases hF
  repeat first|refine cg ?_|simp -dsimp[h2]
 ·cases hF
  repeat first|refine cg ?_|simp -dsimp[h2,q3]
theorem C.f136 (w:List Vl.Data)(t:Ty)(p:Pattern)(r:List Ty)(hF:F.f136 w t p=some r):PureCall Tryz.prog B 71 [am Vl.Data.c w,.agg [li t.data,li t.index],.agg [li p.op,li p.ctor,li p.n,li p.m,li p.var,am Pattern.c p.kids]] (am Ty.c r):=by
 unfold F.f136 at hF
 refine pE Tryz.func71 (by kernel_rfl) rfl Tryz.ntmps71 (by simp) (by simp) ?_
 repeat first|refine cg ?_|simp -dsimp
 have hF:=ob hF;obtain⟨v,e1,hF⟩:=hF
 refine((C.f117 B hB1 hB2 w t p v e1)).goW (by simp) (by simp) ?_
 cases hF
 repeat first|refine cg ?_|simp -dsimp
theorem C.f137  (r:Pattern)(hF:F.f137=some r):PureCall Tryz.prog B 75 [] (.agg [li r.op,li r.ctor,li r.n,li r.m,li r.var,am Pattern.c r.kids]):=by
 unfold F.f137 at hF
 refine pE Tryz.func75 (by kernel_rfl) rfl Tryz.ntmps75 (by simp) (by simp) ?_
 cases hF
 repeat first|refine cg ?_|simp -dsimp
theorem C.f138 (n:Int)(m:Int)(r:Pattern)(hF:F.f138 n m=some r):PureCall Tryz.prog B 72 [li n,li m] (.agg [li r.op,li r.ctor,li r.n,li r.m,li r.var,am Pattern.c r.kids]):=by
 unfold F.f138 at hF
 refine pE Tryz.func72 (by kernel_rfl) rfl Tryz.ntmps72 (by simp) (by simp) ?_
 repeat first|refine cg ?_|simp -dsimp
 revert hF;refine aS ?_ ?_<;>intro h1 q2 hF
 ·repeat first|refine cg ?_|simp -dsimp[eq_true h1]
  revert hF;refine aS ?_ ?_<;>intro h3 q4 hF
  ·repeat first|refine cg ?_|simp -dsimp[eq_true h3]
   have hF:=ob hF;obtain⟨v,e5,hF⟩:=hF
   refine((C.f137 B hB1 hB2 v e5)).goW (by simp_all) (by simp) ?_
   cases hF
   repeat first|refine cg ?_|simp -dsimp
  ·cases hF
   repeat first|refine cg ?_|simp -dsimp[h3,q4]
 ·cases hF
  repeat first|refine cg ?_|simp -dsimp[h1,q2]
theorem C.f139 (p:Pattern)(r:Bool)(hF:F.f139 p=some r):PureCall Tryz.prog B 125 [.agg [li p.op,li p.ctor,li p.n,li p.m,li p.var,am Pattern.c p.kids]] (.lit (.bool r)):=by
 unfold F.f139 at hF
 refine pE Tryz.func125 (by kernel_rfl) rfl Tryz.ntmps125 (by simp) (by simp) ?_
 cases hF
 repeat first|refine cg ?_|simp -dsimp
 all_goals(try first|omega|rfl)
theorem CC.f140 (s:List Pattern):(∀(i:Nat) (o:Lo Int Unit),F.f140 s i=some o->∀(c:Code),Zf [1,0,1,0,0] (ZL Tryz.f156)=some c->∀(Q:Exit->ASt->Prop),o.post (fun r=>∀st,ZAV Tryz.prog Tryz.f156 (fun r' _=>r'.le (li r)) .ret st->Q .ret st) (fun s=>Q (.exit 0) ⟨[],[]⟩)->ALoopU Tryz.prog B 0 19 (hold c .mk) ⟨[(0,am Pattern.c s),(1,.fn (.func 125) [] []),(7,li (s.length:Int)),(8,li (i:Int))],[]⟩ (hold Q .mk)):=by
 refine F.f140.partial_correctness s
  _
  ?_
 ·intro _f_f140 ih_f140 i o hF
  intro c hc Q hq
  obtain rfl:c=_:=ZQ hc rfl
  refine kN fun hk hs=> ?_
  have b0:=hk 0
  simp -dsimp at b0
  clear hk hs
  refine eN ?_
  repeat first|refine cg ?_|simp -dsimp
  revert hF;refine aS ?_ ?_<;>intro h1 q2 hF
  ·have z3:((i:Int)<(s.length:Int)):=auz
   have hF:=ob hF;obtain⟨x,e4,hF⟩:=hF
   have le4:=ZB e4
   repeat first|refine cg ?_|simp -dsimp[h1,z3,↓e4]
   have hF:=ob hF;obtain⟨v,e5,hF⟩:=hF
   refine((C.f139 B hB1 hB2 x v e5)).goW (by simp_all) (by simp) ?_
   repeat first|refine cg ?_|simp -dsimp
   revert hF;refine aS (fun h6 q7 hF=> ?_) (fun h6 q7 hF=> ?_)
   ·cases hF
    repeat first|refine cg ?_|simp -dsimp[h6]
    refine lG _ (gR _) (hq _ ?_)
    repeat first|refine cg ?_|simp -dsimp
   ·have w8:i64.wrap ((i:Int)+1)=(i:Int)+1:=ZF (by omega) (by omega)
    repeat first|refine cg ?_|simp -dsimp[q7,w8]
    refine aG _ ?_ ((ih_f140 (i+1) o hF) _ rfl _ hq)
    exact(gT (by simp) (by simp_all))
  ·have z3:¬((i:Int)<(s.length:Int)):=auz
   cases hF
   repeat first|refine cg ?_|simp -dsimp[h1,q2,z3]
   refine lG _ (gT (by simp) (by simp_all)) hq
theorem C.f141 (s:List Pattern)(r:Int)(hF:F.f141 s=some r):PureCall Tryz.prog B 156 [am Pattern.c s,.fn (.func 125) [] []] (li r):=by
 unfold F.f141 at hF
 refine pE Tryz.func156 (by kernel_rfl) rfl Tryz.ntmps156 (by simp) (by simp) ?_
 repeat first|refine cg ?_|simp -dsimp
 have hF:=ob hF;obtain⟨o',ho9,hF⟩:=hF
 refine ALoop.goU _ ?_ (((CC.f140 B hB1 hB2 s) 0 o' ho9) _ rfl _ ?_)
 ·exact(gT (by simp) (by simp -dsimp))
 rcases o' with r0|sx
 ·dsimp only at hF
  cases hF
  intro st h
  simpa using h
 ·dsimp only at hF
  cases hF
  repeat first|refine cg ?_|simp -dsimp
theorem C.f142 (s:List Pattern)(r:Bool)(hF:F.f142 s=some r):PureCall Tryz.prog B 124 [am Pattern.c s,.fn (.func 125) [] []] (.lit (.bool r)):=by
 unfold F.f142 at hF
 refine pE Tryz.func124 (by kernel_rfl) rfl Tryz.ntmps124 (by simp) (by simp) ?_
 repeat first|refine cg ?_|simp -dsimp
 have hF:=ob hF;obtain⟨v,e1,hF⟩:=hF
 refine((C.f141 B hB1 hB2 s v e1)).goW (by simp) (by simp) ?_
 cases hF
 repeat first|refine cg ?_|simp -dsimp
theorem C.f143 (list:List Pattern)(r:Bool)(hF:F.f143 list=some r):PureCall Tryz.prog B 73 [am Pattern.c list] (.lit (.bool r)):=by
 unfold F.f143 at hF
 refine pE Tryz.func73 (by kernel_rfl) rfl Tryz.ntmps73 (by simp) (by simp) ?_
 repeat first|refine cg ?_|simp -dsimp
 have hF:=ob hF;obtain⟨v,e1,hF⟩:=hF
 refine((C.f142 B hB1 hB2 list v e1)).goW (by simp) (by simp) ?_
 cases hF
 repeat first|refine cg ?_|simp -dsimp
theorem CC.f144  :(∀(a:Pattern) (b:Pattern) (r:Bool),F.f144 a b=some r->PureCall Tryz.prog B 12 [.agg [li a.op,li a.ctor,li a.n,li a.m,li a.var,am Pattern.c a.kids],.agg [li b.op,li b.ctor,li b.n,li b.m,li b.var,am Pattern.c b.kids]] (.lit (.bool r)))/\
  (∀(s1:List Pattern) (s2:List Pattern) (r:Bool),F.f145 s1 s2=some r->PureCall Tryz.prog B 41 [am Pattern.c s1,am Pattern.c s2,.fn (.func 12) [] []] (.lit (.bool r)))/\
  (∀(s1:List Pattern) (s2:List Pattern) (i:Nat) (o:Lo Bool Unit),F.f146 s1 s2 i=some o->∀(c:Code),Zf [1,1,0,1,0,0] (ZL Tryz.f41)=some c->∀(Q:Exit->ASt->Prop),o.post (fun r=>∀st,ZAV Tryz.prog Tryz.f41 (fun r' _=>r'.le (.lit (.bool r))) .ret st->Q .ret st) (fun s=>Q (.exit 0) ⟨[],[]⟩)->ALoopU Tryz.prog B 0 32 (hold c .mk) ⟨[(1,am Pattern.c s2),(2,.fn (.func 12) [] []),(15,am Pattern.c s1),(16,li (s1.length:Int)),(17,li (i:Int))],[]⟩ (hold Q .mk)):=by
 refine F.f144.mutual_partial_correctness 
  _ _ _
  ?_ ?_ ?_
 ·intro _f_f145 ih_f145 a b r hF
  refine pE Tryz.func12 (by kernel_rfl) rfl Tryz.ntmps12 (by simp) (by simp) ?_
  repeat first|refine cg ?_|simp -dsimp
  revert hF;refine aS ?_ ?_<;>intro h1 q2 hF
  ·repeat first|refine cg ?_|simp -dsimp[h1]
   revert hF;refine aS ?_ ?_<;>intro h3 q4 hF
   ·repeat first|refine cg ?_|simp -dsimp[h1,h3]
    revert hF;refine aS ?_ ?_<;>intro h5 q6 hF
    ·repeat first|refine cg ?_|simp -dsimp[h1,h3,h5]
     revert hF;refine aS ?_ ?_<;>intro h7 q8 hF
     ·repeat first|refine cg ?_|simp -dsimp[h1,h3,h5,h7]
      revert hF;refine aS ?_ ?_<;>intro h9 q10 hF
      ·repeat first|refine cg ?_|simp -dsimp[h1,h3,h5,h7,h9]
       have hF:=ob hF;obtain⟨v,e11,hF⟩:=hF
       refine((ih_f145 a.kids b.kids v e11)).goW (by simp[h1,h3,h5,h7,h9]) (by simp) ?_
       cases hF
       repeat first|refine cg ?_|simp -dsimp[h1,h3,h5,h7,h9]
      ·cases hF
       repeat first|refine cg ?_|simp -dsimp[h1,h3,h5,h7,h9,q10]
     ·cases hF
      repeat first|refine cg ?_|simp -dsimp[h1,h3,h5,h7,q8]
    ·cases hF
     repeat first|refine cg ?_|simp -dsimp[h1,h3,h5,q6]
   ·cases hF
    repeat first|refine cg ?_|simp -dsimp[h1,h3,q4]
  ·cases hF
   repeat first|refine cg ?_|simp -dsimp[h1,q2]
 ·intro _f_f146 ih_f146 s1 s2 r hF
  refine pE Tryz.func41 (by kernel_rfl) rfl Tryz.ntmps41 (by simp) (by simp) ?_
  repeat first|refine cg ?_|simp -dsimp
  revert hF;refine aN ?_ ?_<;>intro h1 q2 hF
  ·have z3:¬((s1.length:Int)=(s2.length:Int)):=auz
   cases hF
   repeat first|refine cg ?_|simp -dsimp[h1,q2,z3]
  ·have z3:((s1.length:Int)=(s2.length:Int)):=auz
   repeat first|refine cg ?_|simp -dsimp[h1,q2,z3]
   have hF:=ob hF;obtain⟨o',ho14,hF⟩:=hF
   refine ALoop.goU _ ?_ ((ih_f146 s1 s2 0 o' ho14) _ rfl _ ?_)
   ·exact(gT (by simp) (by simp -dsimp[h1,q2,z3]))
   rcases o' with r0|sx
   ·dsimp only at hF
    cases hF
    intro st h
    simpa using h
   ·dsimp only at hF
    cases hF
    repeat first|refine cg ?_|simp -dsimp
 ·intro _f_f144 _f_f146 ih_f144 ih_f146 s1 s2 i o hF
  intro c hc Q hq
  obtain rfl:c=_:=ZQ hc rfl
  refine kN fun hk hs=> ?_
  have b1:=hk 1
  simp -dsimp at b1
  have b15:=hk 15
  simp -dsimp at b15
  clear hk hs
  refine eN ?_
  repeat first|refine cg ?_|simp -dsimp
  revert hF;refine aS ?_ ?_<;>intro h4 q5 hF
  ·have z6:((i:Int)<(s1.length:Int)):=auz
   have hF:=ob hF;obtain⟨x,e7,hF⟩:=hF
   have le7:=ZB e7
   have hF:=ob hF;obtain⟨x8,e9,hF⟩:=hF
   have le9:=ZB e9
   repeat first|refine cg ?_|simp -dsimp[h4,z6,↓e7,↓e9]
   have hF:=ob hF;obtain⟨v,e10,hF⟩:=hF
   refine((ih_f144 x x8 v e10)).goW (by simp[h4,z6,↓e7,↓e9]) (by simp) ?_
   repeat first|refine cg ?_|simp -dsimp[h4,z6,↓e7,↓e9]
   revert hF;refine aN (fun h11 q12 hF=> ?_) (fun h11 q12 hF=> ?_)
   ·cases hF
    repeat first|refine cg ?_|simp -dsimp[h4,z6,↓e7,↓e9,h11,q12]
    refine lG _ (gR _) (hq _ ?_)
    repeat first|refine cg ?_|simp -dsimp[h4,z6,↓e7,↓e9,h11,q12]
   ·have w13:i64.wrap ((i:Int)+1)=(i:Int)+1:=ZF (by omega) (by omega)
    repeat first|refine cg ?_|simp -dsimp[h4,z6,↓e7,↓e9,h11,q12,w13]
    refine aG _ ?_ ((ih_f146 s1 s2 (i+1) o hF) _ rfl _ hq)
    exact(gT (by simp) (by simp -dsimp[h4,z6,↓e7,↓e9,h11,q12,w13]))
  ·have z6:¬((i:Int)<(s1.length:Int)):=auz
   cases hF
   repeat first|refine cg ?_|simp -dsimp[h4,q5,z6]
   refine lG _ (gT (by simp) (by simp -dsimp[h4,q5,z6])) hq
theorem CC.f147  :(∀(p:Pattern) (r:Bool),F.f147 p=some r->PureCall Tryz.prog B 126 [.agg [li p.op,li p.ctor,li p.n,li p.m,li p.var,am Pattern.c p.kids]] (.lit (.bool r)))/\
  (∀(s:List Pattern) (r:Bool),F.f148 s=some r->PureCall Tryz.prog B 124 [am Pattern.c s,.fn (.func 126) [] []] (.lit (.bool r)))/\
  (∀(s:List Pattern) (r:Int),F.f149 s=some r->PureCall Tryz.prog B 156 [am Pattern.c s,.fn (.func 126) [] []] (li r))/\
  (∀(s:List Pattern) (i:Nat) (o:Lo Int Unit),F.f150 s i=some o->∀(c:Code),Zf [1,0,1,0,0] (ZL Tryz.f156)=some c->∀(Q:Exit->ASt->Prop),o.post (fun r=>∀st,ZAV Tryz.prog Tryz.f156 (fun r' _=>r'.le (li r)) .ret st->Q .ret st) (fun s=>Q (.exit 0) ⟨[],[]⟩)->ALoopU Tryz.prog B 0 19 (hold c .mk) ⟨[(0,am Pattern.c s),(1,.fn (.func 126) [] []),(7,li (s.length:Int)),(8,li (i:Int))],[]⟩ (hold Q .mk)):=by
 refine F.f147.mutual_partial_correctness 
  _ _ _ _
  ?_ ?_ ?_ ?_
 ·intro _f_f148 ih_f148 p r hF
  refine pE Tryz.func126 (by kernel_rfl) rfl Tryz.ntmps126 (by simp) (by simp) ?_
  repeat first|refine cg ?_|simp -dsimp
  revert hF;refine aN ?_ ?_<;>intro h1 q2 hF
  ·repeat first|refine cg ?_|simp -dsimp[h1,q2]
   revert hF;refine aN ?_ ?_<;>intro h3 q4 hF
   ·repeat first|refine cg ?_|simp -dsimp[h1,q2,h3,q4]
    have hF:=ob hF;obtain⟨v,e5,hF⟩:=hF
    refine((ih_f148 p.kids v e5)).goW (by simp[h1,q2,h3,q4]) (by simp) ?_
    cases hF
    repeat first|refine cg ?_|simp -dsimp[h1,q2,h3,q4]
   ·cases hF
    repeat first|refine cg ?_|simp -dsimp[h1,q2,h3,q4]
  ·cases hF
   repeat first|refine cg ?_|simp -dsimp[h1,q2]
 ·intro _f_f149 ih_f149 s r hF
  refine pE Tryz.func124 (by kernel_rfl) rfl Tryz.ntmps124 (by simp) (by simp) ?_
  repeat first|refine cg ?_|simp -dsimp
  have hF:=ob hF;obtain⟨v,e1,hF⟩:=hF
  refine((ih_f149 s v e1)).goW (by simp) (by simp) ?_
  cases hF
  repeat first|refine cg ?_|simp -dsimp
 ·intro _f_f150 ih_f150 s r hF
  refine pE Tryz.func156 (by kernel_rfl) rfl Tryz.ntmps156 (by simp) (by simp) ?_
  repeat first|refine cg ?_|simp -dsimp
  have hF:=ob hF;obtain⟨o',ho9,hF⟩:=hF
  refine ALoop.goU _ ?_ ((ih_f150 s 0 o' ho9) _ rfl _ ?_)
  ·exact(gT (by simp) (by simp -dsimp))
  rcases o' with r0|sx
  ·dsimp only at hF
   cases hF
   intro st h
   simpa using h
  ·dsimp only at hF
   cases hF
   repeat first|refine cg ?_|simp -dsimp
 ·intro _f_f147 _f_f150 ih_f147 ih_f150 s i o hF
  intro c hc Q hq
  obtain rfl:c=_:=ZQ hc rfl
  refine kN fun hk hs=> ?_
  have b0:=hk 0
  simp -dsimp at b0
  clear hk hs
  refine eN ?_
  repeat first|refine cg ?_|simp -dsimp
  revert hF;refine aS ?_ ?_<;>intro h1 q2 hF
  ·have z3:((i:Int)<(s.length:Int)):=auz
   have hF:=ob hF;obtain⟨x,e4,hF⟩:=hF
   have le4:=ZB e4
   repeat first|refine cg ?_|simp -dsimp[h1,z3,↓e4]
   have hF:=ob hF;obtain⟨v,e5,hF⟩:=hF
   refine((ih_f147 x v e5)).goW (by simp[h1,z3,↓e4]) (by simp) ?_
   repeat first|refine cg ?_|simp -dsimp[h1,z3,↓e4]
   revert hF;refine aS (fun h6 q7 hF=> ?_) (fun h6 q7 hF=> ?_)
   ·cases hF
    repeat first|refine cg ?_|simp -dsimp[h1,z3,↓e4,h6]
    refine lG _ (gR _) (hq _ ?_)
    repeat first|refine cg ?_|simp -dsimp[h1,z3,↓e4,h6]
   ·have w8:i64.wrap ((i:Int)+1)=(i:Int)+1:=ZF (by omega) (by omega)
    repeat first|refine cg ?_|simp -dsimp[h1,z3,↓e4,h6,q7,w8]
    refine aG _ ?_ ((ih_f150 s (i+1) o hF) _ rfl _ hq)
    exact(gT (by simp) (by simp -dsimp[h1,z3,↓e4,h6,q7,w8]))
  ·have z3:¬((i:Int)<(s.length:Int)):=auz
   cases hF
   repeat first|refine cg ?_|simp -dsimp[h1,q2,z3]
   refine lG _ (gT (by simp) (by simp -dsimp[h1,q2,z3])) hq
theorem C.f151 (w:List Vl.Data)(t:Ty)(p:Pattern)(r:Pattern)(hF:F.f151 w t p=some r):PureCall Tryz.prog B 76 [am Vl.Data.c w,.agg [li t.data,li t.index],.agg [li p.op,li p.ctor,li p.n,li p.m,li p.var,am Pattern.c p.kids]] (.agg [li r.op,li r.ctor,li r.n,li r.m,li r.var,am Pattern.c r.kids]):=by
 unfold F.f151 at hF
 refine pE Tryz.func76 (by kernel_rfl) rfl Tryz.ntmps76 (by simp) (by simp) ?_
 repeat first|refine cg ?_|simp -dsimp
 refine ADraw.effL [(8,9)] 9 [] [(0,2),(0,2),(0,2),(0,2),(0,3),(0,3),(0,3),(0,3),(0,4),(0,4),(0,4),(0,4)] [0,2,0,0,0,2,0,0,1,1,1,1] follows (by kernel_rfl) (by kernel_rfl) (by kernel_rfl) (by kernel_rfl) (by intro d hd;cases hd;rfl) ?_
 have hF:=ob hF;obtain⟨x,e1,hF⟩:=hF
 have le1:=ZB e1
 have hF:=ob hF;obtain⟨x2,e3,hF⟩:=hF
 have le3:=ZB e3
 repeat first|refine cg ?_|simp -dsimp[↓e1,↓e3]
 have hF:=ob hF;obtain⟨v,e4,hF⟩:=hF
 refine(((CC.f144 B hB1 hB2).1 x x2 v e4)).goW (by simp[↓e1,↓e3]) (by simp) ?_
 repeat first|refine cg ?_|simp -dsimp[↓e1,↓e3]
 revert hF;refine aN (fun h5 q6 hF=> ?_) (fun h5 q6 hF=> ?_)
 ·repeat first|refine cg ?_|simp -dsimp[↓e1,↓e3,h5,q6]
  revert hF;refine aS ?_ ?_<;>intro h7 q8 hF
  ·cases hF
   repeat first|refine cg ?_|simp -dsimp[↓e1,↓e3,h5,q6,h7]
  ·repeat first|refine cg ?_|simp -dsimp[↓e1,↓e3,h5,q6,h7,q8]
   revert hF;refine aS ?_ ?_<;>intro h9 q10 hF
   ·repeat first|refine cg ?_|simp -dsimp[↓e1,↓e3,h5,q6,h7,q8,h9]
    revert hF;refine aS ?_ ?_<;>intro h11 q12 hF
    ·repeat first|refine cg ?_|simp -dsimp[↓e1,↓e3,h5,q6,h7,q8,h9,h11]
     revert hF;refine aS ?_ ?_<;>intro h13 q14 hF
     ·repeat first|refine cg ?_|simp -dsimp[↓e1,↓e3,h5,q6,h7,q8,h9,h11,h13]
      revert hF;refine aS ?_ ?_<;>intro h15 q16 hF
      ·repeat first|refine cg ?_|simp -dsimp[↓e1,↓e3,h5,q6,h7,q8,h9,h11,h13,h15]
       have hF:=ob hF;obtain⟨v17,e18,hF⟩:=hF
       refine((C.f138 B hB1 hB2 (if x2.n<x.n then x2.n else x.n) (if x2.m>x.m then x2.m else x.m) v17 e18)).goW (by simp[↓e1,↓e3,h5,q6,h7,q8,h9,h11,h13,h15]) (by simp) ?_
       cases hF
       repeat first|refine cg ?_|simp -dsimp[↓e1,↓e3,h5,q6,h7,q8,h9,h11,h13,h15]
      ·have n19:¬(x2.op=1):=by omega
       have n20:¬(x.op=4):=by omega
       cases hF
       repeat first|refine cg ?_|simp -dsimp[↓e1,↓e3,h5,q6,h7,q8,h9,h11,h13,h15,q16,n19,n20]
     ·have n21:¬(x2.op=1):=by omega
      have n22:¬(x.op=4):=by omega
      cases hF
      repeat first|refine cg ?_|simp -dsimp[↓e1,↓e3,h5,q6,h7,q8,h9,h11,h13,q14,n21,n22]
    ·repeat first|refine cg ?_|simp -dsimp[↓e1,↓e3,h5,q6,h7,q8,h9,h11,q12]
     revert hF;refine aS ?_ ?_<;>intro h23 q24 hF
     ·repeat first|refine cg ?_|simp -dsimp[↓e1,↓e3,h5,q6,h7,q8,h9,h11,q12,h23]
      have hF:=ob hF;obtain⟨v25,e26,hF⟩:=hF
      refine(((CC.f147 B hB1 hB2).1 x v25 e26)).goW (by simp[↓e1,↓e3,h5,q6,h7,q8,h9,h11,q12,h23]) (by simp) ?_
      repeat first|refine cg ?_|simp -dsimp[↓e1,↓e3,h5,q6,h7,q8,h9,h11,q12,h23]
      revert hF;refine aN (fun h27 q28 hF=> ?_) (fun h27 q28 hF=> ?_)
      ·repeat first|refine cg ?_|simp -dsimp[↓e1,↓e3,h5,q6,h7,q8,h9,h11,q12,h23,h27,q28]
       have hF:=ob hF;obtain⟨v29,e30,hF⟩:=hF
       refine((C.f137 B hB1 hB2 v29 e30)).goW (by simp[↓e1,↓e3,h5,q6,h7,q8,h9,h11,q12,h23,h27,q28]) (by simp) ?_
       cases hF
       repeat first|refine cg ?_|simp -dsimp[↓e1,↓e3,h5,q6,h7,q8,h9,h11,q12,h23,h27,q28]
      ·have n31:¬(x.op=4):=by omega
       cases hF
       repeat first|refine cg ?_|simp -dsimp[↓e1,↓e3,h5,q6,h7,q8,h9,h11,q12,h23,h27,q28,n31]
     ·have n32:¬(x.op=4):=by omega
      cases hF
      repeat first|refine cg ?_|simp -dsimp[↓e1,↓e3,h5,q6,h7,q8,h9,h11,q12,h23,q24,n32]
   ·repeat first|refine cg ?_|simp -dsimp[↓e1,↓e3,h5,q6,h7,q8,h9,q10]
    revert hF;refine aS ?_ ?_<;>intro h33 q34 hF
    ·repeat first|refine cg ?_|simp -dsimp[↓e1,↓e3,h5,q6,h7,q8,h9,q10,h33]
     have hF:=ob hF;obtain⟨v35,e36,hF⟩:=hF
     refine(((CC.f147 B hB1 hB2).1 x v35 e36)).goW (by simp[↓e1,↓e3,h5,q6,h7,q8,h9,q10,h33]) (by simp) ?_
     repeat first|refine cg ?_|simp -dsimp[↓e1,↓e3,h5,q6,h7,q8,h9,q10,h33]
     revert hF;refine aN (fun h37 q38 hF=> ?_) (fun h37 q38 hF=> ?_)
     ·repeat first|refine cg ?_|simp -dsimp[↓e1,↓e3,h5,q6,h7,q8,h9,q10,h33,h37,q38]
      have hF:=ob hF;obtain⟨v39,e40,hF⟩:=hF
      refine((C.f137 B hB1 hB2 v39 e40)).goW (by simp[↓e1,↓e3,h5,q6,h7,q8,h9,q10,h33,h37,q38]) (by simp) ?_
      cases hF
      repeat first|refine cg ?_|simp -dsimp[↓e1,↓e3,h5,q6,h7,q8,h9,q10,h33,h37,q38]
     ·repeat first|refine cg ?_|simp -dsimp[↓e1,↓e3,h5,q6,h7,q8,h9,q10,h33,h37,q38]
      revert hF;refine aS ?_ ?_<;>intro h41 q42 hF
      ·have n43:¬(x2.op=4):=by omega
       cases hF
       repeat first|refine cg ?_|simp -dsimp[↓e1,↓e3,h5,q6,h7,q8,h9,q10,h33,h37,q38,h41,n43]
      ·cases hF
       repeat first|refine cg ?_|simp -dsimp[↓e1,↓e3,h5,q6,h7,q8,h9,q10,h33,h37,q38,h41,q42]
    ·repeat first|refine cg ?_|simp -dsimp[↓e1,↓e3,h5,q6,h7,q8,h9,q10,h33,q34]
     revert hF;refine aS ?_ ?_<;>intro h44 q45 hF
     ·repeat first|refine cg ?_|simp -dsimp[↓e1,↓e3,h5,q6,h7,q8,h9,q10,h33,q34,h44]
      revert hF;refine aS ?_ ?_<;>intro h46 q47 hF
      ·repeat first|refine cg ?_|simp -dsimp[↓e1,↓e3,h5,q6,h7,q8,h9,q10,h33,q34,h44,h46]
       revert hF;refine aN ?_ ?_<;>intro h48 q49 hF
       ·repeat first|refine cg ?_|simp -dsimp[↓e1,↓e3,h5,q6,h7,q8,h9,q10,h33,q34,h44,h46,h48,q49]
        have hF:=ob hF;obtain⟨v50,e51,hF⟩:=hF
        refine((C.f143 B hB1 hB2 x.kids v50 e51)).goW (by simp[↓e1,↓e3,h5,q6,h7,q8,h9,q10,h33,q34,h44,h46,h48,q49]) (by simp) ?_
        repeat first|refine cg ?_|simp -dsimp[↓e1,↓e3,h5,q6,h7,q8,h9,q10,h33,q34,h44,h46,h48,q49]
        revert hF;refine aS (fun h52 q53 hF=> ?_) (fun h52 q53 hF=> ?_)
        ·repeat first|refine cg ?_|simp -dsimp[↓e1,↓e3,h5,q6,h7,q8,h9,q10,h33,q34,h44,h46,h48,q49,h52]
         have hF:=ob hF;obtain⟨v54,e55,hF⟩:=hF
         refine((C.f143 B hB1 hB2 x2.kids v54 e55)).goW (by simp[↓e1,↓e3,h5,q6,h7,q8,h9,q10,h33,q34,h44,h46,h48,q49,h52]) (by simp) ?_
         repeat first|refine cg ?_|simp -dsimp[↓e1,↓e3,h5,q6,h7,q8,h9,q10,h33,q34,h44,h46,h48,q49,h52]
         revert hF;refine aS (fun h56 q57 hF=> ?_) (fun h56 q57 hF=> ?_)
         ·repeat first|refine cg ?_|simp -dsimp[↓e1,↓e3,h5,q6,h7,q8,h9,q10,h33,q34,h44,h46,h48,q49,h52,h56]
          have hF:=ob hF;obtain⟨v58,e59,hF⟩:=hF
          refine((C.f110 B hB1 hB2 w t v58 e59)).goW (by simp[↓e1,↓e3,h5,q6,h7,q8,h9,q10,h33,q34,h44,h46,h48,q49,h52,h56]) (by simp) ?_
          repeat first|refine cg ?_|simp -dsimp[↓e1,↓e3,h5,q6,h7,q8,h9,q10,h33,q34,h44,h46,h48,q49,h52,h56]
          revert hF;refine aS ?_ ?_<;>intro h60 q61 hF
          ·have z62:((v58.length:Int)=2):=auz
           repeat first|refine cg ?_|simp -dsimp[↓e1,↓e3,h5,q6,h7,q8,h9,q10,h33,q34,h44,h46,h48,q49,h52,h56,h60,z62]
           have hF:=ob hF;obtain⟨v63,e64,hF⟩:=hF
           refine((C.f137 B hB1 hB2 v63 e64)).goW (by simp[↓e1,↓e3,h5,q6,h7,q8,h9,q10,h33,q34,h44,h46,h48,q49,h52,h56,h60,z62]) (by simp) ?_
           cases hF
           repeat first|refine cg ?_|simp -dsimp[↓e1,↓e3,h5,q6,h7,q8,h9,q10,h33,q34,h44,h46,h48,q49,h52,h56,h60,z62]
          ·have z62:¬((v58.length:Int)=2):=auz
           cases hF
           repeat first|refine cg ?_|simp -dsimp[↓e1,↓e3,h5,q6,h7,q8,h9,q10,h33,q34,h44,h46,h48,q49,h52,h56,h60,q61,z62]
         ·cases hF
          repeat first|refine cg ?_|simp -dsimp[↓e1,↓e3,h5,q6,h7,q8,h9,q10,h33,q34,h44,h46,h48,q49,h52,h56,q57]
        ·cases hF
         repeat first|refine cg ?_|simp -dsimp[↓e1,↓e3,h5,q6,h7,q8,h9,q10,h33,q34,h44,h46,h48,q49,h52,q53]
       ·cases hF
        repeat first|refine cg ?_|simp -dsimp[↓e1,↓e3,h5,q6,h7,q8,h9,q10,h33,q34,h44,h46,h48,q49]
      ·cases hF
       repeat first|refine cg ?_|simp -dsimp[↓e1,↓e3,h5,q6,h7,q8,h9,q10,h33,q34,h44,h46,q47]
     ·cases hF
      repeat first|refine cg ?_|simp -dsimp[↓e1,↓e3,h5,q6,h7,q8,h9,q10,h33,q34,h44,q45]
 ·cases hF
  repeat first|refine cg ?_|simp -dsimp[↓e1,↓e3,h5,q6]
theorem CC.f152 (w:List Vl.Data):(∀(t:Ty) (p:Pattern) (r:Pattern),F.f152 w t p=some r->PureCall Tryz.prog B 37 [am Vl.Data.c w,.agg [li t.data,li t.index],.agg [li p.op,li p.ctor,li p.n,li p.m,li p.var,am Pattern.c p.kids]] (.agg [li r.op,li r.ctor,li r.n,li r.m,li r.var,am Pattern.c r.kids]))/\
  (∀(t:Ty) (p:Pattern) (v:List Ty) (out:List Pattern) (i:Nat) (o:List Pattern),F.f153 w t p v out i=some o->∀(c:Code),Zf [1,1,1,1,0,1,0,0] (ZL Tryz.f37)=some c->∀(Q:Exit->ASt->Prop),(Q (.exit 0) ⟨[(0,am Vl.Data.c w),(4,.ptr 0 0),(5,.ptr 1 0),(6,.ptr 2 0),(8,.ptr 3 0)],[.cells [li t.data,li t.index],.cells [li p.op,li p.ctor,li p.n,li p.m,li p.var,am Pattern.c p.kids],.cells [li 0,li 0,li 0,li 0,li 0,.lit (.slice none 0 0)],.cells [li p.op,li p.ctor,li p.n,li p.m,li p.var,.own 4 (List.length (α:=Pattern) o)],.elems 6 (List.map Pattern.c o)]⟩)->ALoopU Tryz.prog B 0 78 (hold c .mk) ⟨[(0,am Vl.Data.c w),(4,.ptr 0 0),(5,.ptr 1 0),(6,.ptr 2 0),(7,am Ty.c v),(8,.ptr 3 0),(18,am Pattern.c p.kids),(19,li (p.kids.length:Int)),(20,li (i:Int))],[.cells [li t.data,li t.index],.cells [li p.op,li p.ctor,li p.n,li p.m,li p.var,am Pattern.c p.kids],.cells [li 0,li 0,li 0,li 0,li 0,.lit (.slice none 0 0)],.cells [li p.op,li p.ctor,li p.n,li p.m,li p.var,.own 4 (List.length (α:=Pattern) out)],.elems 6 (List.map Pattern.c out)]⟩ (hold Q .mk)):=by
 refine F.f152.mutual_partial_correctness w
  _ _
  ?_ ?_
 ·intro _f_f153 ih_f153 t p r hF
  refine pE Tryz.func37 (by kernel_rfl) rfl Tryz.ntmps37 (by simp) (by simp) ?_
  repeat first|refine cg ?_|simp -dsimp
  have hF:=ob hF;obtain⟨v,e1,hF⟩:=hF
  refine((C.f136 B hB1 hB2 w t p v e1)).goW (by simp) (by simp) ?_
  repeat first|refine cg ?_|simp -dsimp
  have hF:=ob hF;obtain⟨o',ho12,hF⟩:=hF
  refine ALoop.goU ⟨[(0,.arr (List.map Vl.Data.c w)),(4,.ptr 0 0),(5,.ptr 1 0),(6,.ptr 2 0),(7,.arr (List.map Ty.c v)),(8,.ptr 3 0),(18,.arr (List.map Pattern.c p.kids)),(19,.lit (.int .i64 (p.kids.length:Int))),(20,.lit (.int .i64 0))],[.cells [.lit (.int .i64 t.data),.lit (.int .i64 t.index)],.cells [.lit (.int .i64 p.op),.lit (.int .i64 p.ctor),.lit (.int .i64 p.n),.lit (.int .i64 p.m),.lit (.int .i64 p.var),.arr (List.map Pattern.c p.kids)],.cells [.lit (.int .i64 0),.lit (.int .i64 0),.lit (.int .i64 0),.lit (.int .i64 0),.lit (.int .i64 0),.lit (.slice none 0 0)],.cells [.lit (.int .i64 p.op),.lit (.int .i64 p.ctor),.lit (.int .i64 p.n),.lit (.int .i64 p.m),.lit (.int .i64 p.var),.own 4 (List.length (α:=Pattern) [])],.elems 6 (List.map Pattern.c [])]⟩ (by refine Gh.trans (Gh.nilCell 3 5 6 (by simp -dsimp;rfl) (by simp -dsimp)) ?_;exact(gT (by simp) (by simp -dsimp))) ?_
  refine(ih_f153 t p v [] 0 o' ho12) _ rfl _ ?_
  repeat first|refine cg ?_|simp -dsimp
  revert hF;refine aS ?_ ?_<;>intro h13 q14 hF
  ·repeat first|refine cg ?_|simp -dsimp[h13]
   have hF:=ob hF;obtain⟨v15,e16,hF⟩:=hF
   refine((C.f138 B hB1 hB2 p.n p.m v15 e16)).goW (by simp[h13]) (by simp) ?_
   cases hF
   repeat first|refine cg ?_|simp -dsimp[h13]
  ·repeat first|refine cg ?_|simp -dsimp[h13,q14]
   revert hF;refine aS ?_ ?_<;>intro h17 q18 hF
   ·repeat first|refine cg ?_|simp -dsimp[h13,q14,h17]
    have hF:=ob hF;obtain⟨v19,e20,hF⟩:=hF
    refine((C.f143 B hB1 hB2 o' v19 e20)).lend (by simp -dsimp[h13,q14,h17]) (by simp -dsimp) ?_
    repeat first|refine cg ?_|simp -dsimp[h13,q14,h17]
    revert hF;refine aS (fun h21 q22 hF=> ?_) (fun h21 q22 hF=> ?_)
    ·repeat first|refine cg ?_|simp -dsimp[h13,q14,h17,h21]
     have hF:=ob hF;obtain⟨v23,e24,hF⟩:=hF
     refine((C.f110 B hB1 hB2 w t v23 e24)).goW (by simp[h13,q14,h17,h21]) (by simp) ?_
     repeat first|refine cg ?_|simp -dsimp[h13,q14,h17,h21]
     revert hF;refine aS ?_ ?_<;>intro h25 q26 hF
     ·have z27:((v23.length:Int)=1):=auz
      repeat first|refine cg ?_|simp -dsimp[h13,q14,h17,h21,h25,z27]
      have hF:=ob hF;obtain⟨v28,e29,hF⟩:=hF
      refine((C.f137 B hB1 hB2 v28 e29)).goW (by simp[h13,q14,h17,h21,h25,z27]) (by simp) ?_
      cases hF
      repeat first|refine cg ?_|simp -dsimp[h13,q14,h17,h21,h25,z27]
     ·have z27:¬((v23.length:Int)=1):=auz
      cases hF
      repeat first|refine cg ?_|simp -dsimp[h13,q14,h17,h21,h25,q26,z27]
    ·cases hF
     repeat first|refine cg ?_|simp -dsimp[h13,q14,h17,h21,q22]
   ·repeat first|refine cg ?_|simp -dsimp[h13,q14,h17,q18]
    revert hF;refine aS ?_ ?_<;>intro h30 q31 hF
    ·have hF:=ob hF;obtain⟨x32,e33,hF⟩:=hF
     have le33:=ZB e33
     repeat first|refine cg ?_|simp -dsimp[h13,q14,h17,q18,h30,↓e33]
     revert hF;refine aS ?_ ?_<;>intro h34 q35 hF
     ·cases hF
      repeat first|refine cg ?_|simp -dsimp[h13,q14,h17,q18,h30,↓e33,h34]
     ·cases hF
      repeat first|refine cg ?_|simp -dsimp[h13,q14,h17,q18,h30,↓e33,h34,q35]
    ·repeat first|refine cg ?_|simp -dsimp[h13,q14,h17,q18,h30,q31]
     revert hF;refine aS ?_ ?_<;>intro h36 q37 hF
     ·repeat first|refine cg ?_|simp -dsimp[h13,q14,h17,q18,h30,q31,h36]
      have hF:=ob hF;obtain⟨v38,e39,hF⟩:=hF
      refine ACall.frz ?_ ((C.f151 B hB1 hB2 w t (⟨p.op,p.ctor,p.n,p.m,p.var,o'⟩:Pattern) v38 e39)).ent
      repeat first|refine cg ?_|simp -dsimp[h13,q14,h17,q18,h30,q31,h36]
      refine((C.f151 B hB1 hB2 w t (⟨p.op,p.ctor,p.n,p.m,p.var,o'⟩:Pattern) v38 e39)).goW (by simp[h13,q14,h17,q18,h30,q31,h36]) (by simp) ?_
      cases hF
      repeat first|refine cg ?_|simp -dsimp[h13,q14,h17,q18,h30,q31,h36]
     ·cases hF
      repeat first|refine cg ?_|simp -dsimp[h13,q14,h17,q18,h30,q31,h36,q37]
 ·intro _f_f152 _f_f153 ih_f152 ih_f153 t p v out i o hF
  intro c hc Q hq
  obtain rfl:c=_:=ZQ hc rfl
  refine kN fun hk hs=> ?_
  have b0:=hk 0
  simp -dsimp at b0
  have b7:=hk 7
  simp -dsimp at b7
  have b18:=hk 18
  simp -dsimp at b18
  have d1:=hs 1 _ rfl
  simp -dsimp[Blk.bnd]at d1
  have d4:=hs 4 _ rfl
  simp -dsimp[Blk.bnd]at d4
  clear hk hs
  refine eN ?_
  repeat first|refine cg ?_|simp -dsimp
  revert hF;refine aS ?_ ?_<;>intro h2 q3 hF
  ·have z4:((i:Int)<(p.kids.length:Int)):=auz
   have hF:=ob hF;obtain⟨x,e5,hF⟩:=hF
   have le5:=ZB e5
   repeat first|refine cg ?_|simp -dsimp[h2,z4,↓e5]
   refine ADraw.eff [] [(0,1),(0,1),(0,0),(0,0),(0,0),(0,0),(0,0),(0,0),(0,3),(0,3),(0,3),(2,2),(0,3)] [0,2,1,1,1,1,1,1,1,1,1,1,1] follows (by kernel_rfl) (by kernel_rfl) (by kernel_rfl) ?_
   have hF:=ob hF;obtain⟨x6,e7,hF⟩:=hF
   have le7:=ZB e7
   repeat first|refine cg ?_|simp -dsimp[h2,z4,↓e5,↓e7]
   have hF:=ob hF;obtain⟨v8,e9,hF⟩:=hF
   refine((ih_f152 x6 x v8 e9)).pgoW (by simp[h2,z4,↓e5,↓e7]) (by simp) ?_
   have hF:=oc hF;obtain⟨c10,hF⟩:=hF
   have w11:i64.wrap ((i:Int)+1)=(i:Int)+1:=ZF (by omega) (by omega)
   repeat first|refine cg ?_|simp -dsimp[h2,z4,↓e5,↓e7,w11]
   refine aG _ ?_ ((ih_f153 t p v (out++[v8]) (i+1) o hF) _ rfl _ hq)
   exact(gT (by simp) (by simp -dsimp[h2,z4,↓e5,↓e7,w11]))
  ·have z4:¬((i:Int)<(p.kids.length:Int)):=auz
   cases hF
   repeat first|refine cg ?_|simp -dsimp[h2,q3,z4]
   refine lG _ (gT (by simp) (by simp -dsimp[h2,q3,z4])) hq
theorem CC.f154  :(∀(p:Pattern) (r:Pattern),F.f154 p=some r->PureCall Tryz.prog B 36 [.agg [li p.op,li p.ctor,li p.n,li p.m,li p.var,am Pattern.c p.kids]] (.agg [li r.op,li r.ctor,li r.n,li r.m,li r.var,am Pattern.c r.kids]))/\
  (∀(p:Pattern) (out:List Pattern) (i:Nat) (o:List Pattern),F.f155 p out i=some o->∀(c:Code),Zf [1,1,1,0,1,0,0] (ZL Tryz.f36)=some c->∀(Q:Exit->ASt->Prop),(Q (.exit 0) ⟨[(1,.ptr 0 0),(2,.ptr 1 0)],[.cells [li p.op,li p.ctor,li p.n,li p.m,li p.var,.own 2 (List.length (α:=Pattern) o)],.cells [li 0,li 0,li 0,li 0,li 0,.lit (.slice none 0 0)],.elems 6 (List.map Pattern.c o)]⟩)->ALoopU Tryz.prog B 0 24 (hold c .mk) ⟨[(1,.ptr 0 0),(2,.ptr 1 0),(9,am Pattern.c p.kids),(10,li (p.kids.length:Int)),(11,li (i:Int))],[.cells [li p.op,li p.ctor,li p.n,li p.m,li p.var,.own 2 (List.length (α:=Pattern) out)],.cells [li 0,li 0,li 0,li 0,li 0,.lit (.slice none 0 0)],.elems 6 (List.map Pattern.c out)]⟩ (hold Q .mk)):=by
 refine F.f154.mutual_partial_correctness 
  _ _
  ?_ ?_
 ·intro _f_f155 ih_f155 p r hF
  refine pE Tryz.func36 (by kernel_rfl) rfl Tryz.ntmps36 (by simp) (by simp) ?_
  repeat first|refine cg ?_|simp -dsimp
  have hF:=ob hF;obtain⟨o',ho8,hF⟩:=hF
  refine ALoop.goU ⟨[(1,.ptr 0 0),(2,.ptr 1 0),(9,.arr (List.map Pattern.c p.kids)),(10,.lit (.int .i64 (p.kids.length:Int))),(11,.lit (.int .i64 0))],[.cells [.lit (.int .i64 p.op),.lit (.int .i64 p.ctor),.lit (.int .i64 p.n),.lit (.int .i64 p.m),.lit (.int .i64 p.var),.own 2 (List.length (α:=Pattern) [])],.cells [.lit (.int .i64 0),.lit (.int .i64 0),.lit (.int .i64 0),.lit (.int .i64 0),.lit (.int .i64 0),.lit (.slice none 0 0)],.elems 6 (List.map Pattern.c [])]⟩ (by refine Gh.trans (Gh.nilCell 0 5 6 (by simp -dsimp;rfl) (by simp -dsimp)) ?_;exact(gT (by simp) (by simp -dsimp))) ?_
  refine(ih_f155 p [] 0 o' ho8) _ rfl _ ?_
  cases hF
  repeat first|refine cg ?_|simp -dsimp
 ·intro _f_f154 _f_f155 ih_f154 ih_f155 p out i o hF
  intro c hc Q hq
  obtain rfl:c=_:=ZQ hc rfl
  refine kN fun hk hs=> ?_
  have b9:=hk 9
  simp -dsimp at b9
  have d2:=hs 2 _ rfl
  simp -dsimp[Blk.bnd]at d2
  clear hk hs
  refine eN ?_
  repeat first|refine cg ?_|simp -dsimp
  revert hF;refine aS ?_ ?_<;>intro h1 q2 hF
  ·have z3:((i:Int)<(p.kids.length:Int)):=auz
   have hF:=ob hF;obtain⟨x,e4,hF⟩:=hF
   have le4:=ZB e4
   repeat first|refine cg ?_|simp -dsimp[h1,z3,↓e4]
   refine ADraw.eff [] [(0,1),(0,1),(0,0),(0,3),(0,3),(0,3),(2,2),(0,3)] [0,2,1,1,1,1,1,1] follows (by kernel_rfl) (by kernel_rfl) (by kernel_rfl) ?_
   repeat first|refine cg ?_|simp -dsimp
   have hF:=ob hF;obtain⟨v,e5,hF⟩:=hF
   refine((ih_f154 x v e5)).pgoW (by simp_all) (by simp) ?_
   have hF:=oc hF;obtain⟨c6,hF⟩:=hF
   have w7:i64.wrap ((i:Int)+1)=(i:Int)+1:=ZF (by omega) (by omega)
   repeat first|refine cg ?_|simp -dsimp[w7]
   refine aG _ ?_ ((ih_f155 p (out++[v]) (i+1) o hF) _ rfl _ hq)
   exact(gT (by simp) (by simp_all))
  ·have z3:¬((i:Int)<(p.kids.length:Int)):=auz
   cases hF
   repeat first|refine cg ?_|simp -dsimp[h1,q2,z3]
   refine lG _ (gT (by simp) (by simp_all)) hq
theorem C.f156 (w:List Vl.Data)(t:Ty)(p:Pattern)(r:Pattern×Bool)(hF:F.f156 w t p=some r):PureCall Tryz.prog B 10 [am Vl.Data.c w,.agg [li t.data,li t.index],.agg [li p.op,li p.ctor,li p.n,li p.m,li p.var,am Pattern.c p.kids]] (.tup [.agg [li r.1.op,li r.1.ctor,li r.1.n,li r.1.m,li r.1.var,am Pattern.c r.1.kids],.lit (.bool r.2)]):=by
 unfold F.f156 at hF
 refine pE Tryz.func10 (by kernel_rfl) rfl Tryz.ntmps10 (by simp) (by simp) ?_
 repeat first|refine cg ?_|simp -dsimp
 have hF:=ob hF;obtain⟨v,e1,hF⟩:=hF
 refine((C.f135 B hB1 hB2 w t p v e1)).goW (by simp) (by simp) ?_
 repeat first|refine cg ?_|simp -dsimp
 revert hF;refine aN (fun h2 q3 hF=> ?_) (fun h2 q3 hF=> ?_)
 ·cases hF
  repeat first|refine cg ?_|simp -dsimp[h2,q3]
 ·repeat first|refine cg ?_|simp -dsimp
  have hF:=ob hF;obtain⟨v4,e5,hF⟩:=hF
  refine(((CC.f152 B hB1 hB2 w).1 t p v4 e5)).goW (by simp_all) (by simp) ?_
  repeat first|refine cg ?_|simp -dsimp
  have hF:=ob hF;obtain⟨v6,e7,hF⟩:=hF
  refine(((CC.f154 B hB1 hB2).1 v4 v6 e7)).goW (by simp_all) (by simp) ?_
  cases hF
  repeat first|refine cg ?_|simp -dsimp
theorem C.f157 (w:List Vl.Data)(t:Ty)(r:Bool)(hF:F.f157 w t=some r):PureCall Tryz.prog B 112 [am Vl.Data.c w,.agg [li t.data,li t.index]] (.lit (.bool r)):=by
 unfold F.f157 at hF
 refine pE Tryz.func112 (by kernel_rfl) rfl Tryz.ntmps112 (by simp) (by simp) ?_
 repeat first|refine cg ?_|simp -dsimp
 have hF:=ob hF;obtain⟨v,e1,hF⟩:=hF
 refine((C.f15 B hB1 hB2 (w.length:Int) t v e1)).goW (by simp) (by simp) ?_
 repeat first|refine cg ?_|simp -dsimp
 revert hF;refine aS (fun h2 q3 hF=> ?_) (fun h2 q3 hF=> ?_)
 ·cases hF
  repeat first|refine cg ?_|simp -dsimp[h2]
 ·cases hF
  repeat first|refine cg ?_|simp -dsimp[q3]
theorem C.f158 (w:List Vl.Data)(t:Ty)(r:Bool)(hF:F.f158 w t=some r):PureCall Tryz.prog B 59 [am Vl.Data.c w,.agg [li t.data,li t.index]] (.lit (.bool r)):=by
 unfold F.f158 at hF
 refine pE Tryz.func59 (by kernel_rfl) rfl Tryz.ntmps59 (by simp) (by simp) ?_
 repeat first|refine cg ?_|simp -dsimp
 have hF:=ob hF;obtain⟨v,e1,hF⟩:=hF
 refine((C.f24 B hB1 hB2 w v e1)).goW (by simp) (by simp) ?_
 repeat first|refine cg ?_|simp -dsimp
 revert hF;refine aS (fun h2 q3 hF=> ?_) (fun h2 q3 hF=> ?_)
 ·repeat first|refine cg ?_|simp -dsimp[h2]
  have hF:=ob hF;obtain⟨v4,e5,hF⟩:=hF
  refine((C.f157 B hB1 hB2 w t v4 e5)).goW (by simp[h2]) (by simp) ?_
  cases hF
  repeat first|refine cg ?_|simp -dsimp[h2]
 ·cases hF
  repeat first|refine cg ?_|simp -dsimp[h2,q3]
theorem C.f159 (w:List Vl.Data)(t:Ty)(p:Pattern)(r:Bool)(hF:F.f159 w t p=some r):PureCall Tryz.prog B 38 [am Vl.Data.c w,.agg [li t.data,li t.index],.agg [li p.op,li p.ctor,li p.n,li p.m,li p.var,am Pattern.c p.kids]] (.lit (.bool r)):=by
 unfold F.f159 at hF
 refine pE Tryz.func38 (by kernel_rfl) rfl Tryz.ntmps38 (by simp) (by simp) ?_
 repeat first|refine cg ?_|simp -dsimp
 have hF:=ob hF;obtain⟨v,e1,hF⟩:=hF
 refine((C.f158 B hB1 hB2 w t v e1)).goW (by simp) (by simp) ?_
 repeat first|refine cg ?_|simp -dsimp
 revert hF;refine aS (fun h2 q3 hF=> ?_) (fun h2 q3 hF=> ?_)
 ·repeat first|refine cg ?_|simp -dsimp[h2]
  have hF:=ob hF;obtain⟨v4,e5,hF⟩:=hF
  refine((C.f85 B hB1 hB2 w t p v4 e5)).goW (by simp[h2]) (by simp) ?_
  cases hF
  repeat first|refine cg ?_|simp -dsimp[h2]
 ·cases hF
  repeat first|refine cg ?_|simp -dsimp[h2,q3]
theorem C.f160  (r:Pattern)(hF:F.f160=some r):PureCall Tryz.prog B 83 [] (.agg [li r.op,li r.ctor,li r.n,li r.m,li r.var,am Pattern.c r.kids]):=by
 unfold F.f160 at hF
 refine pE Tryz.func83 (by kernel_rfl) rfl Tryz.ntmps83 (by simp) (by simp) ?_
 cases hF
 repeat first|refine cg ?_|simp -dsimp
theorem C.f161 (n:Int)(m:Int)(r:Pattern)(hF:F.f161 n m=some r):PureCall Tryz.prog B 77 [li n,li m] (.agg [li r.op,li r.ctor,li r.n,li r.m,li r.var,am Pattern.c r.kids]):=by
 unfold F.f161 at hF
 refine pE Tryz.func77 (by kernel_rfl) rfl Tryz.ntmps77 (by simp) (by simp) ?_
 repeat first|refine cg ?_|simp -dsimp
 revert hF;refine aS ?_ ?_<;>intro h1 q2 hF
 ·repeat first|refine cg ?_|simp -dsimp[eq_true h1]
  revert hF;refine aS ?_ ?_<;>intro h3 q4 hF
  ·repeat first|refine cg ?_|simp -dsimp[eq_true h3]
   have hF:=ob hF;obtain⟨v,e5,hF⟩:=hF
   refine((C.f160 B hB1 hB2 v e5)).goW (by simp_all) (by simp) ?_
   cases hF
   repeat first|refine cg ?_|simp -dsimp
  ·cases hF
   repeat first|refine cg ?_|simp -dsimp[h3,q4]
 ·cases hF
  repeat first|refine cg ?_|simp -dsimp[h1,q2]
theorem CC.f162  :(∀(a:Pattern) (b:Pattern) (r:Bool),F.f162 a b=some r->PureCall Tryz.prog B 127 [.agg [li a.op,li a.ctor,li a.n,li a.m,li a.var,am Pattern.c a.kids],.agg [li b.op,li b.ctor,li b.n,li b.m,li b.var,am Pattern.c b.kids]] (.lit (.bool r)))/\
  (∀(a:Pattern) (b:Pattern) (i:Nat) (o:Lo Bool Unit),F.f163 a b i=some o->∀(c:Code),Zf [1,1,0,1,0,0] (ZL Tryz.f127)=some c->∀(Q:Exit->ASt->Prop),o.post (fun r=>∀st,ZAV Tryz.prog Tryz.f127 (fun r' _=>r'.le (.lit (.bool r))) .ret st->Q .ret st) (fun s=>Q (.exit 0) ⟨[],[]⟩)->ALoopU Tryz.prog B 0 67 (hold c .mk) ⟨[(2,.ptr 0 0),(3,.ptr 1 0),(5,li (i:Int))],[.cells [li a.op,li a.ctor,li a.n,li a.m,li a.var,am Pattern.c a.kids],.cells [li b.op,li b.ctor,li b.n,li b.m,li b.var,am Pattern.c b.kids]]⟩ (hold Q .mk)):=by
 refine F.f162.mutual_partial_correctness 
  _ _
  ?_ ?_
 ·intro _f_f163 ih_f163 a b r hF
  refine pE Tryz.func127 (by kernel_rfl) rfl Tryz.ntmps127 (by simp) (by simp) ?_
  repeat first|refine cg ?_|simp -dsimp
  revert hF;refine aS ?_ ?_<;>intro h1 q2 hF
  ·repeat first|refine cg ?_|simp -dsimp[h1]
   revert hF;refine aS ?_ ?_<;>intro h3 q4 hF
   ·repeat first|refine cg ?_|simp -dsimp[h3]
    revert hF;refine aS ?_ ?_<;>intro h5 q6 hF
    ·repeat first|refine cg ?_|simp -dsimp[h5]
     revert hF;refine aS ?_ ?_<;>intro h7 q8 hF
     ·repeat first|refine cg ?_|simp -dsimp[h7]
      revert hF;refine aS ?_ ?_<;>intro h9 q10 hF
      ·repeat first|refine cg ?_|simp -dsimp[h9]
       revert hF;refine aN ?_ ?_<;>intro h11 q12 hF
       ·have z13:¬((a.kids.length:Int)=(b.kids.length:Int)):=auz
        cases hF
        repeat first|refine cg ?_|simp -dsimp[h11,q12,z13]
       ·have z13:((a.kids.length:Int)=(b.kids.length:Int)):=auz
        repeat first|refine cg ?_|simp -dsimp
        have hF:=ob hF;obtain⟨o',ho24,hF⟩:=hF
        refine ALoop.goU _ ?_ ((ih_f163 a b 0 o' ho24) _ rfl _ ?_)
        ·exact(gT (by simp) (by simp_all))
        rcases o' with r0|sx
        ·dsimp only at hF
         cases hF
         intro st h
         simpa using h
        ·dsimp only at hF
         cases hF
         repeat first|refine cg ?_|simp -dsimp
      ·cases hF
       repeat first|refine cg ?_|simp -dsimp[q10]
     ·cases hF
      repeat first|refine cg ?_|simp -dsimp[q8]
    ·cases hF
     repeat first|refine cg ?_|simp -dsimp[q6]
   ·cases hF
    repeat first|refine cg ?_|simp -dsimp[q4]
  ·cases hF
   repeat first|refine cg ?_|simp -dsimp[q2]
 ·intro _f_f162 _f_f163 ih_f162 ih_f163 a b i o hF
  intro c hc Q hq
  obtain rfl:c=_:=ZQ hc rfl
  refine kN fun hk hs=> ?_
  have d0:=hs 0 _ rfl
  simp -dsimp[Blk.bnd]at d0
  have d1:=hs 1 _ rfl
  simp -dsimp[Blk.bnd]at d1
  clear hk hs
  refine eN ?_
  repeat first|refine cg ?_|simp -dsimp
  revert hF;refine aS ?_ ?_<;>intro h14 q15 hF
  ·have z16:((i:Int)<(a.kids.length:Int)):=auz
   repeat first|refine cg ?_|simp -dsimp[h14,z16]
   refine ADraw.simple follows (by kernel_rfl) (by kernel_rfl) ?_
   have hF:=ob hF;obtain⟨x,e17,hF⟩:=hF
   have le17:=ZB e17
   have hF:=ob hF;obtain⟨x18,e19,hF⟩:=hF
   have le19:=ZB e19
   repeat first|refine cg ?_|simp -dsimp[↓e17,↓e19]
   have hF:=ob hF;obtain⟨v,e20,hF⟩:=hF
   refine((ih_f162 x x18 v e20)).pgoW (by simp_all) (by simp) ?_
   repeat first|refine cg ?_|simp -dsimp
   revert hF;refine aN (fun h21 q22 hF=> ?_) (fun h21 q22 hF=> ?_)
   ·cases hF
    repeat first|refine cg ?_|simp -dsimp[h21,q22]
    refine lG _ (gR _) (hq _ ?_)
    repeat first|refine cg ?_|simp -dsimp
   ·have w23:i64.wrap ((i:Int)+1)=(i:Int)+1:=ZF (by omega) (by omega)
    repeat first|refine cg ?_|simp -dsimp[w23]
    refine aG _ ?_ ((ih_f163 a b (i+1) o hF) _ rfl _ hq)
    exact(gT (by simp) (by simp_all))
  ·have z16:¬((i:Int)<(a.kids.length:Int)):=auz
   cases hF
   repeat first|refine cg ?_|simp -dsimp[h14,q15,z16]
   refine lG _ (gT (by simp) (by simp_all)) hq
theorem C.f164 (p:Pattern)(r:Bool)(hF:F.f164 p=some r):PureCall Tryz.prog B 79 [.agg [li p.op,li p.ctor,li p.n,li p.m,li p.var,am Pattern.c p.kids]] (.lit (.bool r)):=by
 unfold F.f164 at hF
 refine pE Tryz.func79 (by kernel_rfl) rfl Tryz.ntmps79 (by simp) (by simp) ?_
 cases hF
 repeat first|refine cg ?_|simp -dsimp
theorem CC.f165 (p:Pattern):(∀(i:Nat) (o:Lo Bool Unit),F.f165 p i=some o->∀(c:Code),Zf [1,0,1,0,0] (ZL Tryz.f82)=some c->∀(Q:Exit->ASt->Prop),o.post (fun r=>∀st,ZAV Tryz.prog Tryz.f82 (fun r' _=>r'.le (.lit (.bool r))) .ret st->Q .ret st) (fun s=>Q (.exit 0) ⟨[],[]⟩)->ALoopU Tryz.prog B 0 18 (hold c .mk) ⟨[(1,.ptr 0 0),(3,li (i:Int))],[.cells [li p.op,li p.ctor,li p.n,li p.m,li p.var,am Pattern.c p.kids]]⟩ (hold Q .mk)):=by
 refine F.f165.partial_correctness p
  _
  ?_
 ·intro _f_f165 ih_f165 i o hF
  intro c hc Q hq
  obtain rfl:c=_:=ZQ hc rfl
  refine kN fun hk hs=> ?_
  have d0:=hs 0 _ rfl
  simp -dsimp[Blk.bnd]at d0
  clear hk hs
  refine eN ?_
  repeat first|refine cg ?_|simp -dsimp
  revert hF;refine aS ?_ ?_<;>intro h1 q2 hF
  ·have z3:((i:Int)<(p.kids.length:Int)):=auz
   have hF:=ob hF;obtain⟨x,e4,hF⟩:=hF
   have le4:=ZB e4
   repeat first|refine cg ?_|simp -dsimp[h1,z3,↓e4]
   have hF:=ob hF;obtain⟨v,e5,hF⟩:=hF
   refine((C.f164 B hB1 hB2 x v e5)).goW (by simp_all) (by simp) ?_
   repeat first|refine cg ?_|simp -dsimp
   revert hF;refine aN (fun h6 q7 hF=> ?_) (fun h6 q7 hF=> ?_)
   ·cases hF
    repeat first|refine cg ?_|simp -dsimp[h6,q7]
    refine lG _ (gR _) (hq _ ?_)
    repeat first|refine cg ?_|simp -dsimp
   ·have w8:i64.wrap ((i:Int)+1)=(i:Int)+1:=ZF (by omega) (by omega)
    repeat first|refine cg ?_|simp -dsimp[w8]
    refine aG _ ?_ ((ih_f165 (i+1) o hF) _ rfl _ hq)
    exact(gT (by simp) (by simp_all))
  ·have z3:¬((i:Int)<(p.kids.length:Int)):=auz
   cases hF
   repeat first|refine cg ?_|simp -dsimp[h1,q2,z3]
   refine lG _ (gT (by simp) (by simp_all)) hq
theorem C.f166 (p:Pattern)(r:Bool)(hF:F.f166 p=some r):PureCall Tryz.prog B 82 [.agg [li p.op,li p.ctor,li p.n,li p.m,li p.var,am Pattern.c p.kids]] (.lit (.bool r)):=by
 unfold F.f166 at hF
 refine pE Tryz.func82 (by kernel_rfl) rfl Tryz.ntmps82 (by simp) (by simp) ?_
 repeat first|refine cg ?_|simp -dsimp
 have hF:=ob hF;obtain⟨o',ho9,hF⟩:=hF
 refine ALoop.goU _ ?_ (((CC.f165 B hB1 hB2 p) 0 o' ho9) _ rfl _ ?_)
 ·exact(gT (by simp) (by simp -dsimp))
 rcases o' with r0|sx
 ·dsimp only at hF
  cases hF
  intro st h
  simpa using h
 ·dsimp only at hF
  cases hF
  repeat first|refine cg ?_|simp -dsimp
theorem C.f167 (w:List Vl.Data)(t:Ty)(a:Pattern)(b:Pattern)(r:Pattern)(hF:F.f167 w t a b=some r):PureCall Tryz.prog B 78 [am Vl.Data.c w,.agg [li t.data,li t.index],.agg [li a.op,li a.ctor,li a.n,li a.m,li a.var,am Pattern.c a.kids],.agg [li b.op,li b.ctor,li b.n,li b.m,li b.var,am Pattern.c b.kids]] (.agg [li r.op,li r.ctor,li r.n,li r.m,li r.var,am Pattern.c r.kids]):=by
 unfold F.f167 at hF
 refine pE Tryz.func78 (by kernel_rfl) rfl Tryz.ntmps78 (by simp) (by simp) ?_
 repeat first|refine cg ?_|simp -dsimp
 have hF:=ob hF;obtain⟨v,e1,hF⟩:=hF
 refine(((CC.f162 B hB1 hB2).1 a b v e1)).goW (by simp) (by simp) ?_
 repeat first|refine cg ?_|simp -dsimp
 revert hF;refine aN (fun h2 q3 hF=> ?_) (fun h2 q3 hF=> ?_)
 ·repeat first|refine cg ?_|simp -dsimp[h2,q3]
  have hF:=ob hF;obtain⟨v4,e5,hF⟩:=hF
  refine((C.f164 B hB1 hB2 a v4 e5)).goW (by simp[h2,q3]) (by simp) ?_
  repeat first|refine cg ?_|simp -dsimp[h2,q3]
  revert hF;refine aS (fun h6 q7 hF=> ?_) (fun h6 q7 hF=> ?_)
  ·cases hF
   repeat first|refine cg ?_|simp -dsimp[h2,q3,h6]
  ·repeat first|refine cg ?_|simp -dsimp[h2,q3,h6,q7]
   revert hF;refine aS ?_ ?_<;>intro h8 q9 hF
   ·repeat first|refine cg ?_|simp -dsimp[h2,q3,h6,q7,h8]
    revert hF;refine aS ?_ ?_<;>intro h10 q11 hF
    ·repeat first|refine cg ?_|simp -dsimp[h2,q3,h6,q7,h8,h10]
     revert hF;refine aS ?_ ?_<;>intro h12 q13 hF
     ·repeat first|refine cg ?_|simp -dsimp[h2,q3,h6,q7,h8,h10,h12]
      revert hF;refine aS ?_ ?_<;>intro h14 q15 hF
      ·repeat first|refine cg ?_|simp -dsimp[h2,q3,h6,q7,h8,h10,h12,h14]
       revert hF;refine aS ?_ ?_<;>intro h16 q17 hF
       ·repeat first|refine cg ?_|simp -dsimp[h2,q3,h6,q7,h8,h10,h12,h14,h16]
        revert hF;refine aS ?_ ?_<;>intro h18 q19 hF
        ·repeat first|refine cg ?_|simp -dsimp[h2,q3,h6,q7,h8,h10,h12,h14,h16,h18]
         have hF:=ob hF;obtain⟨v20,e21,hF⟩:=hF
         refine((C.f161 B hB1 hB2 b.n b.m v20 e21)).goW (by simp[h2,q3,h6,q7,h8,h10,h12,h14,h16,h18]) (by simp) ?_
         cases hF
         repeat first|refine cg ?_|simp -dsimp[h2,q3,h6,q7,h8,h10,h12,h14,h16,h18]
        ·repeat first|refine cg ?_|simp -dsimp[h2,q3,h6,q7,h8,h10,h12,h14,h16,h18,q19]
         have hF:=ob hF;obtain⟨v22,e23,hF⟩:=hF
         refine((C.f161 B hB1 hB2 b.n a.m v22 e23)).goW (by simp[h2,q3,h6,q7,h8,h10,h12,h14,h16,h18,q19]) (by simp) ?_
         cases hF
         repeat first|refine cg ?_|simp -dsimp[h2,q3,h6,q7,h8,h10,h12,h14,h16,h18,q19]
       ·repeat first|refine cg ?_|simp -dsimp[h2,q3,h6,q7,h8,h10,h12,h14,h16,q17]
        revert hF;refine aS ?_ ?_<;>intro h24 q25 hF
        ·repeat first|refine cg ?_|simp -dsimp[h2,q3,h6,q7,h8,h10,h12,h14,h16,q17,h24]
         have hF:=ob hF;obtain⟨v26,e27,hF⟩:=hF
         refine((C.f161 B hB1 hB2 a.n b.m v26 e27)).goW (by simp[h2,q3,h6,q7,h8,h10,h12,h14,h16,q17,h24]) (by simp) ?_
         cases hF
         repeat first|refine cg ?_|simp -dsimp[h2,q3,h6,q7,h8,h10,h12,h14,h16,q17,h24]
        ·repeat first|refine cg ?_|simp -dsimp[h2,q3,h6,q7,h8,h10,h12,h14,h16,q17,h24,q25]
         have hF:=ob hF;obtain⟨v28,e29,hF⟩:=hF
         refine((C.f161 B hB1 hB2 a.n a.m v28 e29)).goW (by simp[h2,q3,h6,q7,h8,h10,h12,h14,h16,q17,h24,q25]) (by simp) ?_
         cases hF
         repeat first|refine cg ?_|simp -dsimp[h2,q3,h6,q7,h8,h10,h12,h14,h16,q17,h24,q25]
      ·repeat first|refine cg ?_|simp -dsimp[h2,q3,h6,q7,h8,h10,h12,h14,q15]
       have hF:=ob hF;obtain⟨v30,e31,hF⟩:=hF
       refine((C.f164 B hB1 hB2 b v30 e31)).goW (by simp[h2,q3,h6,q7,h8,h10,h12,h14,q15]) (by simp) ?_
       repeat first|refine cg ?_|simp -dsimp[h2,q3,h6,q7,h8,h10,h12,h14,q15]
       revert hF;refine aS (fun h32 q33 hF=> ?_) (fun h32 q33 hF=> ?_)
       ·repeat first|refine cg ?_|simp -dsimp[h2,q3,h6,q7,h8,h10,h12,h14,q15,h32]
        have hF:=ob hF;obtain⟨v34,e35,hF⟩:=hF
        refine ACall.nilArg 0 3 (by simp) ?_
        repeat first|refine cg ?_|simp -dsimp[h2,q3,h6,q7,h8,h10,h12,h14,q15,h32]
        refine(((CC.f74 B hB1 hB2 w).1 [] t a v34 e35)).go (pl [4]) (by simp) (by simp) (ZCD _ rfl (by decide)) (by intro i hi hi';simp at hi hi';first|omega|(subst hi';simp[pl])) (by simp[h2,q3,h6,q7,h8,h10,h12,h14,q15,h32]) (by simp[h2,q3,h6,q7,h8,h10,h12,h14,q15,h32]) ?_
        repeat first|refine cg ?_|simp -dsimp[h2,q3,h6,q7,h8,h10,h12,h14,q15,h32]
        revert hF;refine aS ?_ ?_<;>intro h36 q37 hF
        ·have z38:((v34.length:Int)=0):=auz
         cases hF
         repeat first|refine cg ?_|simp -dsimp[h2,q3,h6,q7,h8,h10,h12,h14,q15,h32,h36,z38]
        ·have z38:¬((v34.length:Int)=0):=auz
         have n39:¬(a.op=4):=by omega
         cases hF
         repeat first|refine cg ?_|simp -dsimp[h2,q3,h6,q7,h8,h10,h12,h14,q15,h32,h36,q37,z38,n39]
       ·have n40:¬(a.op=4):=by omega
        cases hF
        repeat first|refine cg ?_|simp -dsimp[h2,q3,h6,q7,h8,h10,h12,h14,q15,h32,q33,n40]
     ·repeat first|refine cg ?_|simp -dsimp[h2,q3,h6,q7,h8,h10,h12,q13]
      have hF:=ob hF;obtain⟨v41,e42,hF⟩:=hF
      refine((C.f164 B hB1 hB2 b v41 e42)).goW (by simp[h2,q3,h6,q7,h8,h10,h12,q13]) (by simp) ?_
      repeat first|refine cg ?_|simp -dsimp[h2,q3,h6,q7,h8,h10,h12,q13]
      revert hF;refine aS (fun h43 q44 hF=> ?_) (fun h43 q44 hF=> ?_)
      ·repeat first|refine cg ?_|simp -dsimp[h2,q3,h6,q7,h8,h10,h12,q13,h43]
       have hF:=ob hF;obtain⟨v45,e46,hF⟩:=hF
       refine ACall.nilArg 0 3 (by simp) ?_
       repeat first|refine cg ?_|simp -dsimp[h2,q3,h6,q7,h8,h10,h12,q13,h43]
       refine(((CC.f74 B hB1 hB2 w).1 [] t a v45 e46)).go (pl [4]) (by simp) (by simp) (ZCD _ rfl (by decide)) (by intro i hi hi';simp at hi hi';first|omega|(subst hi';simp[pl])) (by simp[h2,q3,h6,q7,h8,h10,h12,q13,h43]) (by simp[h2,q3,h6,q7,h8,h10,h12,q13,h43]) ?_
       repeat first|refine cg ?_|simp -dsimp[h2,q3,h6,q7,h8,h10,h12,q13,h43]
       revert hF;refine aS ?_ ?_<;>intro h47 q48 hF
       ·have z49:((v45.length:Int)=0):=auz
        cases hF
        repeat first|refine cg ?_|simp -dsimp[h2,q3,h6,q7,h8,h10,h12,q13,h43,h47,z49]
       ·have z49:¬((v45.length:Int)=0):=auz
        have n50:¬(a.op=4):=by omega
        cases hF
        repeat first|refine cg ?_|simp -dsimp[h2,q3,h6,q7,h8,h10,h12,q13,h43,h47,q48,z49,n50]
      ·have n51:¬(a.op=4):=by omega
       cases hF
       repeat first|refine cg ?_|simp -dsimp[h2,q3,h6,q7,h8,h10,h12,q13,h43,q44,n51]
    ·repeat first|refine cg ?_|simp -dsimp[h2,q3,h6,q7,h8,h10,q11]
     have hF:=ob hF;obtain⟨v52,e53,hF⟩:=hF
     refine((C.f164 B hB1 hB2 b v52 e53)).goW (by simp[h2,q3,h6,q7,h8,h10,q11]) (by simp) ?_
     repeat first|refine cg ?_|simp -dsimp[h2,q3,h6,q7,h8,h10,q11]
     revert hF;refine aS (fun h54 q55 hF=> ?_) (fun h54 q55 hF=> ?_)
     ·repeat first|refine cg ?_|simp -dsimp[h2,q3,h6,q7,h8,h10,q11,h54]
      have hF:=ob hF;obtain⟨v56,e57,hF⟩:=hF
      refine ACall.nilArg 0 3 (by simp) ?_
      repeat first|refine cg ?_|simp -dsimp[h2,q3,h6,q7,h8,h10,q11,h54]
      refine(((CC.f74 B hB1 hB2 w).1 [] t a v56 e57)).go (pl [4]) (by simp) (by simp) (ZCD _ rfl (by decide)) (by intro i hi hi';simp at hi hi';first|omega|(subst hi';simp[pl])) (by simp[h2,q3,h6,q7,h8,h10,q11,h54]) (by simp[h2,q3,h6,q7,h8,h10,q11,h54]) ?_
      repeat first|refine cg ?_|simp -dsimp[h2,q3,h6,q7,h8,h10,q11,h54]
      revert hF;refine aS ?_ ?_<;>intro h58 q59 hF
      ·have z60:((v56.length:Int)=0):=auz
       cases hF
       repeat first|refine cg ?_|simp -dsimp[h2,q3,h6,q7,h8,h10,q11,h54,h58,z60]
      ·have z60:¬((v56.length:Int)=0):=auz
       have n61:¬(a.op=4):=by omega
       cases hF
       repeat first|refine cg ?_|simp -dsimp[h2,q3,h6,q7,h8,h10,q11,h54,h58,q59,z60,n61]
     ·have n62:¬(a.op=4):=by omega
      cases hF
      repeat first|refine cg ?_|simp -dsimp[h2,q3,h6,q7,h8,h10,q11,h54,q55,n62]
   ·repeat first|refine cg ?_|simp -dsimp[h2,q3,h6,q7,h8,q9]
    have hF:=ob hF;obtain⟨v63,e64,hF⟩:=hF
    refine((C.f164 B hB1 hB2 b v63 e64)).goW (by simp[h2,q3,h6,q7,h8,q9]) (by simp) ?_
    repeat first|refine cg ?_|simp -dsimp[h2,q3,h6,q7,h8,q9]
    revert hF;refine aS (fun h65 q66 hF=> ?_) (fun h65 q66 hF=> ?_)
    ·repeat first|refine cg ?_|simp -dsimp[h2,q3,h6,q7,h8,q9,h65]
     have hF:=ob hF;obtain⟨v67,e68,hF⟩:=hF
     refine ACall.nilArg 0 3 (by simp) ?_
     repeat first|refine cg ?_|simp -dsimp[h2,q3,h6,q7,h8,q9,h65]
     refine(((CC.f74 B hB1 hB2 w).1 [] t a v67 e68)).go (pl [4]) (by simp) (by simp) (ZCD _ rfl (by decide)) (by intro i hi hi';simp at hi hi';first|omega|(subst hi';simp[pl])) (by simp[h2,q3,h6,q7,h8,q9,h65]) (by simp[h2,q3,h6,q7,h8,q9,h65]) ?_
     repeat first|refine cg ?_|simp -dsimp[h2,q3,h6,q7,h8,q9,h65]
     revert hF;refine aS ?_ ?_<;>intro h69 q70 hF
     ·have z71:((v67.length:Int)=0):=auz
      cases hF
      repeat first|refine cg ?_|simp -dsimp[h2,q3,h6,q7,h8,q9,h65,h69,z71]
     ·have z71:¬((v67.length:Int)=0):=auz
      repeat first|refine cg ?_|simp -dsimp[h2,q3,h6,q7,h8,q9,h65,h69,q70,z71]
      revert hF;refine aS ?_ ?_<;>intro h72 q73 hF
      ·repeat first|refine cg ?_|simp -dsimp[h2,q3,h6,q7,h8,q9,h65,h69,q70,z71,h72]
       revert hF;refine aS ?_ ?_<;>intro h74 q75 hF
       ·repeat first|refine cg ?_|simp -dsimp[h2,q3,h6,q7,h8,q9,h65,h69,q70,z71,h72,h74]
        have hF:=ob hF;obtain⟨v76,e77,hF⟩:=hF
        refine((C.f166 B hB1 hB2 a v76 e77)).goW (by simp[h2,q3,h6,q7,h8,q9,h65,h69,q70,z71,h72,h74]) (by simp) ?_
        repeat first|refine cg ?_|simp -dsimp[h2,q3,h6,q7,h8,q9,h65,h69,q70,z71,h72,h74]
        revert hF;refine aS (fun h78 q79 hF=> ?_) (fun h78 q79 hF=> ?_)
        ·repeat first|refine cg ?_|simp -dsimp[h2,q3,h6,q7,h8,q9,h65,h69,q70,z71,h72,h74,h78]
         have hF:=ob hF;obtain⟨v80,e81,hF⟩:=hF
         refine((C.f166 B hB1 hB2 b v80 e81)).goW (by simp[h2,q3,h6,q7,h8,q9,h65,h69,q70,z71,h72,h74,h78]) (by simp) ?_
         repeat first|refine cg ?_|simp -dsimp[h2,q3,h6,q7,h8,q9,h65,h69,q70,z71,h72,h74,h78]
         revert hF;refine aS (fun h82 q83 hF=> ?_) (fun h82 q83 hF=> ?_)
         ·repeat first|refine cg ?_|simp -dsimp[h2,q3,h6,q7,h8,q9,h65,h69,q70,z71,h72,h74,h78,h82]
          revert hF;refine aN ?_ ?_<;>intro h84 q85 hF
          ·repeat first|refine cg ?_|simp -dsimp[h2,q3,h6,q7,h8,q9,h65,h69,q70,z71,h72,h74,h78,h82,h84,q85]
           have hF:=ob hF;obtain⟨v86,e87,hF⟩:=hF
           refine((C.f42 B hB1 hB2 w t v86 e87)).goW (by simp[h2,q3,h6,q7,h8,q9,h65,h69,q70,z71,h72,h74,h78,h82,h84,q85]) (by simp) ?_
           repeat first|refine cg ?_|simp -dsimp[h2,q3,h6,q7,h8,q9,h65,h69,q70,z71,h72,h74,h78,h82,h84,q85]
           revert hF;refine aS ?_ ?_<;>intro h88 q89 hF
           ·have z90:((v86.length:Int)=2):=auz
            repeat first|refine cg ?_|simp -dsimp[h2,q3,h6,q7,h8,q9,h65,h69,q70,z71,h72,h74,h78,h82,h84,q85,h88,z90]
            have hF:=ob hF;obtain⟨v91,e92,hF⟩:=hF
            refine((C.f160 B hB1 hB2 v91 e92)).goW (by simp[h2,q3,h6,q7,h8,q9,h65,h69,q70,z71,h72,h74,h78,h82,h84,q85,h88,z90]) (by simp) ?_
            cases hF
            repeat first|refine cg ?_|simp -dsimp[h2,q3,h6,q7,h8,q9,h65,h69,q70,z71,h72,h74,h78,h82,h84,q85,h88,z90]
           ·have z90:¬((v86.length:Int)=2):=auz
            cases hF
            repeat first|refine cg ?_|simp -dsimp[h2,q3,h6,q7,h8,q9,h65,h69,q70,z71,h72,h74,h78,h82,h84,q85,h88,q89,z90]
          ·cases hF
           repeat first|refine cg ?_|simp -dsimp[h2,q3,h6,q7,h8,q9,h65,h69,q70,z71,h72,h74,h78,h82,h84,q85]
         ·cases hF
          repeat first|refine cg ?_|simp -dsimp[h2,q3,h6,q7,h8,q9,h65,h69,q70,z71,h72,h74,h78,h82,q83]
        ·cases hF
         repeat first|refine cg ?_|simp -dsimp[h2,q3,h6,q7,h8,q9,h65,h69,q70,z71,h72,h74,h78,q79]
       ·cases hF
        repeat first|refine cg ?_|simp -dsimp[h2,q3,h6,q7,h8,q9,h65,h69,q70,z71,h72,h74,q75]
      ·cases hF
       repeat first|refine cg ?_|simp -dsimp[h2,q3,h6,q7,h8,q9,h65,h69,q70,z71,h72,q73]
    ·repeat first|refine cg ?_|simp -dsimp[h2,q3,h6,q7,h8,q9,h65,q66]
     revert hF;refine aS ?_ ?_<;>intro h93 q94 hF
     ·repeat first|refine cg ?_|simp -dsimp[h2,q3,h6,q7,h8,q9,h65,q66,h93]
      revert hF;refine aS ?_ ?_<;>intro h95 q96 hF
      ·repeat first|refine cg ?_|simp -dsimp[h2,q3,h6,q7,h8,q9,h65,q66,h93,h95]
       have hF:=ob hF;obtain⟨v97,e98,hF⟩:=hF
       refine((C.f166 B hB1 hB2 a v97 e98)).goW (by simp[h2,q3,h6,q7,h8,q9,h65,q66,h93,h95]) (by simp) ?_
       repeat first|refine cg ?_|simp -dsimp[h2,q3,h6,q7,h8,q9,h65,q66,h93,h95]
       revert hF;refine aS (fun h99 q100 hF=> ?_) (fun h99 q100 hF=> ?_)
       ·repeat first|refine cg ?_|simp -dsimp[h2,q3,h6,q7,h8,q9,h65,q66,h93,h95,h99]
        have hF:=ob hF;obtain⟨v101,e102,hF⟩:=hF
        refine((C.f166 B hB1 hB2 b v101 e102)).goW (by simp[h2,q3,h6,q7,h8,q9,h65,q66,h93,h95,h99]) (by simp) ?_
        repeat first|refine cg ?_|simp -dsimp[h2,q3,h6,q7,h8,q9,h65,q66,h93,h95,h99]
        revert hF;refine aS (fun h103 q104 hF=> ?_) (fun h103 q104 hF=> ?_)
        ·repeat first|refine cg ?_|simp -dsimp[h2,q3,h6,q7,h8,q9,h65,q66,h93,h95,h99,h103]
         revert hF;refine aN ?_ ?_<;>intro h105 q106 hF
         ·repeat first|refine cg ?_|simp -dsimp[h2,q3,h6,q7,h8,q9,h65,q66,h93,h95,h99,h103,h105,q106]
          have hF:=ob hF;obtain⟨v107,e108,hF⟩:=hF
          refine((C.f42 B hB1 hB2 w t v107 e108)).goW (by simp[h2,q3,h6,q7,h8,q9,h65,q66,h93,h95,h99,h103,h105,q106]) (by simp) ?_
          repeat first|refine cg ?_|simp -dsimp[h2,q3,h6,q7,h8,q9,h65,q66,h93,h95,h99,h103,h105,q106]
          revert hF;refine aS ?_ ?_<;>intro h109 q110 hF
          ·have z111:((v107.length:Int)=2):=auz
           repeat first|refine cg ?_|simp -dsimp[h2,q3,h6,q7,h8,q9,h65,q66,h93,h95,h99,h103,h105,q106,h109,z111]
           have hF:=ob hF;obtain⟨v112,e113,hF⟩:=hF
           refine((C.f160 B hB1 hB2 v112 e113)).goW (by simp[h2,q3,h6,q7,h8,q9,h65,q66,h93,h95,h99,h103,h105,q106,h109,z111]) (by simp) ?_
           cases hF
           repeat first|refine cg ?_|simp -dsimp[h2,q3,h6,q7,h8,q9,h65,q66,h93,h95,h99,h103,h105,q106,h109,z111]
          ·have z111:¬((v107.length:Int)=2):=auz
           cases hF
           repeat first|refine cg ?_|simp -dsimp[h2,q3,h6,q7,h8,q9,h65,q66,h93,h95,h99,h103,h105,q106,h109,q110,z111]
         ·cases hF
          repeat first|refine cg ?_|simp -dsimp[h2,q3,h6,q7,h8,q9,h65,q66,h93,h95,h99,h103,h105,q106]
        ·cases hF
         repeat first|refine cg ?_|simp -dsimp[h2,q3,h6,q7,h8,q9,h65,q66,h93,h95,h99,h103,q104]
       ·cases hF
        repeat first|refine cg ?_|simp -dsimp[h2,q3,h6,q7,h8,q9,h65,q66,h93,h95,h99,q100]
      ·cases hF
       repeat first|refine cg ?_|simp -dsimp[h2,q3,h6,q7,h8,q9,h65,q66,h93,h95,q96]
     ·cases hF
      repeat first|refine cg ?_|simp -dsimp[h2,q3,h6,q7,h8,q9,h65,q66,h93,q94]
 ·cases hF
  repeat first|refine cg ?_|simp -dsimp[h2,q3]
theorem CC.f168 (w:List Vl.Data):(∀(t:Ty) (p:Pattern) (r:Pattern),F.f168 w t p=some r->PureCall Tryz.prog B 40 [am Vl.Data.c w,.agg [li t.data,li t.index],.agg [li p.op,li p.ctor,li p.n,li p.m,li p.var,am Pattern.c p.kids]] (.agg [li r.op,li r.ctor,li r.n,li r.m,li r.var,am Pattern.c r.kids]))/\
  (∀(t:Ty) (p:Pattern) (v27:List Ty) (out:List Pattern) (i:Nat) (o:List Pattern),F.f169 w t p v27 out i=some o->∀(c:Code),Zf [1,0,1,0,1,1,1,1,1,1,1,0,1,1,0,1,0,0] (ZL Tryz.f40)=some c->∀(Q:Exit->ASt->Prop),(Q (.exit 1) ⟨[(0,am Vl.Data.c w),(4,.ptr 0 0),(6,.ptr 2 0),(8,.ptr 3 0)],[.cells [li t.data,li t.index],.dead,.cells [li 0,li 0,li 0,li 0,li 0,.lit (.slice none 0 0)],.cells [li 4,li p.ctor,li 0,li 0,li 0,.own 4 (List.length (α:=Pattern) o)],.elems 6 (List.map Pattern.c o)]⟩)->ALoopU Tryz.prog B 0 102 (hold c .mk) ⟨[(0,am Vl.Data.c w),(4,.ptr 0 0),(5,.ptr 1 0),(6,.ptr 2 0),(8,.ptr 3 0),(9,am Ty.c v27),(10,li (i:Int))],[.cells [li t.data,li t.index],.cells [li p.op,li p.ctor,li p.n,li p.m,li p.var,am Pattern.c p.kids],.cells [li 0,li 0,li 0,li 0,li 0,.lit (.slice none 0 0)],.cells [li 4,li p.ctor,li 0,li 0,li 0,.own 4 (List.length (α:=Pattern) out)],.elems 6 (List.map Pattern.c out)]⟩ (hold Q .mk)):=by
 refine F.f168.mutual_partial_correctness w
  _ _
  ?_ ?_
 ·intro _f_f168 _f_f169 ih_f168 ih_f169 t p r hF
  refine pE Tryz.func40 (by kernel_rfl) rfl Tryz.ntmps40 (by simp) (by simp) ?_
  repeat first|refine cg ?_|simp -dsimp
  revert hF;refine aS ?_ ?_<;>intro h1 q2 hF
  ·repeat first|refine cg ?_|simp -dsimp[h1]
   have hF:=ob hF;obtain⟨v,e3,hF⟩:=hF
   refine((C.f161 B hB1 hB2 p.n p.m v e3)).goW (by simp[h1]) (by simp) ?_
   cases hF
   repeat first|refine cg ?_|simp -dsimp[h1]
  ·repeat first|refine cg ?_|simp -dsimp[h1,q2]
   revert hF;refine aS ?_ ?_<;>intro h4 q5 hF
   ·repeat first|refine cg ?_|simp -dsimp[h1,q2,h4]
    refine ADraw.eff [] [(0,0),(0,0),(0,0),(0,0),(0,0),(0,0),(0,0),(0,0),(0,1),(0,0),(0,0),(0,0),(0,0),(0,0),(0,0),(0,1),(0,1),(0,1)] [1,1,1,1,1,1,1,1,1,1,1,1,1,1,1,1,1,1] follows (by kernel_rfl) (by kernel_rfl) (by kernel_rfl) ?_
    have hF:=ob hF;obtain⟨x,e6,hF⟩:=hF
    have le6:=ZB e6
    repeat first|refine cg ?_|simp -dsimp[h1,q2,h4,↓e6]
    have hF:=ob hF;obtain⟨v7,e8,hF⟩:=hF
    refine((ih_f168 t x v7 e8)).pgoW (by simp[h1,q2,h4,↓e6]) (by simp) ?_
    have hF:=ob hF;obtain⟨x9,e10,hF⟩:=hF
    have le10:=ZB e10
    repeat first|refine cg ?_|simp -dsimp[h1,q2,h4,↓e6,↓e10]
    have hF:=ob hF;obtain⟨v11,e12,hF⟩:=hF
    refine((ih_f168 t x9 v11 e12)).pgoW (by simp[h1,q2,h4,↓e6,↓e10]) (by simp) ?_
    repeat first|refine cg ?_|simp -dsimp[h1,q2,h4,↓e6,↓e10]
    have hF:=ob hF;obtain⟨v13,e14,hF⟩:=hF
    refine((C.f167 B hB1 hB2 w t v7 v11 v13 e14)).pgoW (by simp[h1,q2,h4,↓e6,↓e10]) (by simp) ?_
    cases hF
    repeat first|refine cg ?_|simp -dsimp[h1,q2,h4,↓e6,↓e10]
   ·repeat first|refine cg ?_|simp -dsimp[h1,q2,h4,q5]
    revert hF;refine aS ?_ ?_<;>intro h15 q16 hF
    ·repeat first|refine cg ?_|simp -dsimp[h1,q2,h4,q5,h15]
     refine ADraw.eff [] [(0,1),(0,1),(0,1),(0,1),(0,1),(0,1),(0,2),(0,2),(0,2)] [1,2,0,2,0,0,1,1,1] follows (by kernel_rfl) (by kernel_rfl) (by kernel_rfl) ?_
     have hF:=ob hF;obtain⟨x17,e18,hF⟩:=hF
     have le18:=ZB e18
     repeat first|refine cg ?_|simp -dsimp[h1,q2,h4,q5,h15,↓e18]
     have hF:=ob hF;obtain⟨v19,e20,hF⟩:=hF
     refine((ih_f168 t x17 v19 e20)).pgoW (by simp[h1,q2,h4,q5,h15,↓e18]) (by simp) ?_
     repeat first|refine cg ?_|simp -dsimp[h1,q2,h4,q5,h15,↓e18]
     have hF:=ob hF;obtain⟨v21,e22,hF⟩:=hF
     refine((C.f164 B hB1 hB2 v19 v21 e22)).goW (by simp[h1,q2,h4,q5,h15,↓e18]) (by simp) ?_
     repeat first|refine cg ?_|simp -dsimp[h1,q2,h4,q5,h15,↓e18]
     revert hF;refine aS (fun h23 q24 hF=> ?_) (fun h23 q24 hF=> ?_)
     ·cases hF
      repeat first|refine cg ?_|simp -dsimp[h1,q2,h4,q5,h15,↓e18,h23]
     ·cases hF
      repeat first|refine cg ?_|simp -dsimp[h1,q2,h4,q5,h15,↓e18,h23,q24]
    ·repeat first|refine cg ?_|simp -dsimp[h1,q2,h4,q5,h15,q16]
     revert hF;refine aS ?_ ?_<;>intro h25 q26 hF
     ·repeat first|refine cg ?_|simp -dsimp[h1,q2,h4,q5,h15,q16,h25]
      have hF:=ob hF;obtain⟨v27,e28,hF⟩:=hF
      refine((C.f45 B hB1 hB2 w t p.ctor v27 e28)).goW (by simp[h1,q2,h4,q5,h15,q16,h25]) (by simp) ?_
      repeat first|refine cg ?_|simp -dsimp[h1,q2,h4,q5,h15,q16,h25]
      have hF:=ob hF;obtain⟨o',ho40,hF⟩:=hF
      refine ALoop.goU ⟨[(0,.arr (List.map Vl.Data.c w)),(4,.ptr 0 0),(5,.ptr 1 0),(6,.ptr 2 0),(8,.ptr 3 0),(9,.arr (List.map Ty.c v27)),(10,.lit (.int .i64 0))],[.cells [.lit (.int .i64 t.data),.lit (.int .i64 t.index)],.cells [.lit (.int .i64 p.op),.lit (.int .i64 p.ctor),.lit (.int .i64 p.n),.lit (.int .i64 p.m),.lit (.int .i64 p.var),.arr (List.map Pattern.c p.kids)],.cells [.lit (.int .i64 0),.lit (.int .i64 0),.lit (.int .i64 0),.lit (.int .i64 0),.lit (.int .i64 0),.lit (.slice none 0 0)],.cells [.lit (.int .i64 4),.lit (.int .i64 p.ctor),.lit (.int .i64 0),.lit (.int .i64 0),.lit (.int .i64 0),.own 4 (List.length (α:=Pattern) [])],.elems 6 (List.map Pattern.c [])]⟩ (by refine Gh.trans (Gh.nilCell 3 5 6 (by simp -dsimp;rfl) (by simp -dsimp)) ?_;exact(gT (by simp) (by simp -dsimp[h1,q2,h4,q5,h15,q16,h25]))) ?_
      refine(ih_f169 t p v27 [] 0 o' ho40) _ rfl _ ?_
      repeat first|refine cg ?_|simp -dsimp
      have hF:=ob hF;obtain⟨v41,e42,hF⟩:=hF
      refine((C.f42 B hB1 hB2 w t v41 e42)).goW (by simp) (by simp) ?_
      repeat first|refine cg ?_|simp -dsimp
      revert hF;refine aS ?_ ?_<;>intro h43 q44 hF
      ·have z45:((v41.length:Int)=1):=auz
       repeat first|refine cg ?_|simp -dsimp[h43,z45]
       have hF:=ob hF;obtain⟨v46,e47,hF⟩:=hF
       refine((C.f166 B hB1 hB2 (⟨4,p.ctor,0,0,0,o'⟩:Pattern) v46 e47)).lend (by simp -dsimp[h43,z45]) (by simp -dsimp) ?_
       repeat first|refine cg ?_|simp -dsimp[h43,z45]
       revert hF;refine aS (fun h48 q49 hF=> ?_) (fun h48 q49 hF=> ?_)
       ·repeat first|refine cg ?_|simp -dsimp[h43,z45,h48]
        have hF:=ob hF;obtain⟨v50,e51,hF⟩:=hF
        refine((C.f160 B hB1 hB2 v50 e51)).goW (by simp[h43,z45,h48]) (by simp) ?_
        cases hF
        repeat first|refine cg ?_|simp -dsimp[h43,z45,h48]
       ·cases hF
        repeat first|refine cg ?_|simp -dsimp[h43,z45,h48,q49]
      ·have z45:¬((v41.length:Int)=1):=auz
       cases hF
       repeat first|refine cg ?_|simp -dsimp[h43,q44,z45]
     ·cases hF
      repeat first|refine cg ?_|simp -dsimp[h1,q2,h4,q5,h15,q16,h25,q26]
 ·intro _f_f168 _f_f169 ih_f168 ih_f169 t p v27 out i o hF
  intro c hc Q hq
  obtain rfl:c=_:=ZQ hc rfl
  refine kN fun hk hs=> ?_
  have b0:=hk 0
  simp -dsimp at b0
  have b9:=hk 9
  simp -dsimp at b9
  have d1:=hs 1 _ rfl
  simp -dsimp[Blk.bnd]at d1
  have d4:=hs 4 _ rfl
  simp -dsimp[Blk.bnd]at d4
  clear hk hs
  refine eN ?_
  repeat first|refine cg ?_|simp -dsimp
  revert hF;refine aS ?_ ?_<;>intro h29 q30 hF
  ·have z31:((i:Int)<(v27.length:Int)):=auz
   repeat first|refine cg ?_|simp -dsimp[h29,z31]
   refine ADraw.eff [] [(0,1),(0,1),(0,0),(0,0),(0,0),(0,0),(0,0),(0,0),(0,0),(0,0),(0,0),(0,0),(0,3),(0,3),(0,3),(2,2),(0,3)] [0,2,1,1,1,1,1,1,1,1,1,1,1,1,1,1,1] follows (by kernel_rfl) (by kernel_rfl) (by kernel_rfl) ?_
   have hF:=ob hF;obtain⟨x32,e33,hF⟩:=hF
   have le33:=ZB e33
   have hF:=ob hF;obtain⟨x34,e35,hF⟩:=hF
   have le35:=ZB e35
   repeat first|refine cg ?_|simp -dsimp[h29,z31,↓e33,↓e35]
   have hF:=ob hF;obtain⟨v36,e37,hF⟩:=hF
   refine((ih_f168 x32 x34 v36 e37)).pgoW (by simp[h29,z31,↓e33,↓e35]) (by simp) ?_
   have hF:=oc hF;obtain⟨c38,hF⟩:=hF
   have w39:i64.wrap ((i:Int)+1)=(i:Int)+1:=ZF (by omega) (by omega)
   repeat first|refine cg ?_|simp -dsimp[h29,z31,↓e33,↓e35,w39]
   refine aG _ ?_ ((ih_f169 t p v27 (out++[v36]) (i+1) o hF) _ rfl _ hq)
   exact(gT (by simp) (by simp -dsimp[h29,z31,↓e33,↓e35,w39]))
  ·have z31:¬((i:Int)<(v27.length:Int)):=auz
   cases hF
   repeat first|refine cg ?_|simp -dsimp[h29,q30,z31]
   refine lG _ (gT (by simp) (by simp -dsimp[h29,q30,z31])) hq
theorem CC.f170  :(∀(p:Pattern) (r:Pattern),F.f170 p=some r->PureCall Tryz.prog B 39 [.agg [li p.op,li p.ctor,li p.n,li p.m,li p.var,am Pattern.c p.kids]] (.agg [li r.op,li r.ctor,li r.n,li r.m,li r.var,am Pattern.c r.kids]))/\
  (∀(p:Pattern) (out:List Pattern) (i:Nat) (o:List Pattern),F.f171 p out i=some o->∀(c:Code),Zf [1,1,1,0,1,0,0] (ZL Tryz.f39)=some c->∀(Q:Exit->ASt->Prop),(Q (.exit 0) ⟨[(2,.ptr 1 0),(3,.ptr 2 0)],[.dead,.cells [li 0,li 0,li 0,li 0,li 0,.lit (.slice none 0 0)],.cells [li p.op,li p.ctor,li p.n,li p.m,li p.var,.own 3 (List.length (α:=Pattern) o)],.elems 6 (List.map Pattern.c o)]⟩)->ALoopU Tryz.prog B 0 26 (hold c .mk) ⟨[(1,.ptr 0 0),(2,.ptr 1 0),(3,.ptr 2 0),(4,li (i:Int))],[.cells [li p.op,li p.ctor,li p.n,li p.m,li p.var,am Pattern.c p.kids],.cells [li 0,li 0,li 0,li 0,li 0,.lit (.slice none 0 0)],.cells [li p.op,li p.ctor,li p.n,li p.m,li p.var,.own 3 (List.length (α:=Pattern) out)],.elems 6 (List.map Pattern.c out)]⟩ (hold Q .mk)):=by
 refine F.f170.mutual_partial_correctness 
  _ _
  ?_ ?_
 ·intro _f_f171 ih_f171 p r hF
  refine pE Tryz.func39 (by kernel_rfl) rfl Tryz.ntmps39 (by simp) (by simp) ?_
  repeat first|refine cg ?_|simp -dsimp
  have hF:=ob hF;obtain⟨o',ho8,hF⟩:=hF
  refine ALoop.goU ⟨[(1,.ptr 0 0),(2,.ptr 1 0),(3,.ptr 2 0),(4,.lit (.int .i64 0))],[.cells [.lit (.int .i64 p.op),.lit (.int .i64 p.ctor),.lit (.int .i64 p.n),.lit (.int .i64 p.m),.lit (.int .i64 p.var),.arr (List.map Pattern.c p.kids)],.cells [.lit (.int .i64 0),.lit (.int .i64 0),.lit (.int .i64 0),.lit (.int .i64 0),.lit (.int .i64 0),.lit (.slice none 0 0)],.cells [.lit (.int .i64 p.op),.lit (.int .i64 p.ctor),.lit (.int .i64 p.n),.lit (.int .i64 p.m),.lit (.int .i64 p.var),.own 3 (List.length (α:=Pattern) [])],.elems 6 (List.map Pattern.c [])]⟩ (by refine Gh.trans (Gh.nilCell 2 5 6 (by simp -dsimp;rfl) (by simp -dsimp)) ?_;exact(gT (by simp) (by simp -dsimp))) ?_
  refine(ih_f171 p [] 0 o' ho8) _ rfl _ ?_
  cases hF
  repeat first|refine cg ?_|simp -dsimp
 ·intro _f_f170 _f_f171 ih_f170 ih_f171 p out i o hF
  intro c hc Q hq
  obtain rfl:c=_:=ZQ hc rfl
  refine kN fun hk hs=> ?_
  have d0:=hs 0 _ rfl
  simp -dsimp[Blk.bnd]at d0
  have d3:=hs 3 _ rfl
  simp -dsimp[Blk.bnd]at d3
  clear hk hs
  refine eN ?_
  repeat first|refine cg ?_|simp -dsimp
  revert hF;refine aS ?_ ?_<;>intro h1 q2 hF
  ·have z3:((i:Int)<(p.kids.length:Int)):=auz
   repeat first|refine cg ?_|simp -dsimp[h1,z3]
   refine ADraw.eff [] [(0,1),(0,1),(0,0),(0,0),(0,0),(0,0),(0,0),(0,3),(0,3),(0,3),(2,2),(0,3)] [0,2,1,1,1,1,1,1,1,1,1,1] follows (by kernel_rfl) (by kernel_rfl) (by kernel_rfl) ?_
   have hF:=ob hF;obtain⟨x,e4,hF⟩:=hF
   have le4:=ZB e4
   repeat first|refine cg ?_|simp -dsimp[↓e4]
   have hF:=ob hF;obtain⟨v,e5,hF⟩:=hF
   refine((ih_f170 x v e5)).pgoW (by simp_all) (by simp) ?_
   have hF:=oc hF;obtain⟨c6,hF⟩:=hF
   have w7:i64.wrap ((i:Int)+1)=(i:Int)+1:=ZF (by omega) (by omega)
   repeat first|refine cg ?_|simp -dsimp[w7]
   refine aG _ ?_ ((ih_f171 p (out++[v]) (i+1) o hF) _ rfl _ hq)
   exact(gT (by simp) (by simp_all))
  ·have z3:¬((i:Int)<(p.kids.length:Int)):=auz
   cases hF
   repeat first|refine cg ?_|simp -dsimp[h1,q2,z3]
   refine lG _ (gT (by simp) (by simp_all)) hq
theorem C.f172 (w:List Vl.Data)(t:Ty)(p:Pattern)(r:Pattern×Bool)(hF:F.f172 w t p=some r):PureCall Tryz.prog B 11 [am Vl.Data.c w,.agg [li t.data,li t.index],.agg [li p.op,li p.ctor,li p.n,li p.m,li p.var,am Pattern.c p.kids]] (.tup [.agg [li r.1.op,li r.1.ctor,li r.1.n,li r.1.m,li r.1.var,am Pattern.c r.1.kids],.lit (.bool r.2)]):=by
 unfold F.f172 at hF
 refine pE Tryz.func11 (by kernel_rfl) rfl Tryz.ntmps11 (by simp) (by simp) ?_
 repeat first|refine cg ?_|simp -dsimp
 have hF:=ob hF;obtain⟨v,e1,hF⟩:=hF
 refine((C.f159 B hB1 hB2 w t p v e1)).goW (by simp) (by simp) ?_
 repeat first|refine cg ?_|simp -dsimp
 revert hF;refine aN (fun h2 q3 hF=> ?_) (fun h2 q3 hF=> ?_)
 ·cases hF
  repeat first|refine cg ?_|simp -dsimp[h2,q3]
 ·repeat first|refine cg ?_|simp -dsimp
  have hF:=ob hF;obtain⟨v4,e5,hF⟩:=hF
  refine(((CC.f168 B hB1 hB2 w).1 t p v4 e5)).goW (by simp_all) (by simp) ?_
  repeat first|refine cg ?_|simp -dsimp
  have hF:=ob hF;obtain⟨v6,e7,hF⟩:=hF
  refine(((CC.f170 B hB1 hB2).1 v4 v6 e7)).goW (by simp_all) (by simp) ?_
  cases hF
  repeat first|refine cg ?_|simp -dsimp
theorem CC.f173 (w:List Vl.Data):(∀(t:Ty) (depth:Int) (r:Int),F.f173 w t depth=some r->PureCall Tryz.prog B 44 [am Vl.Data.c w,.agg [li t.data,li t.index],li depth] (li r))/\
  (∀(t:Ty) (depth:Int) (v:List Int) (i:Nat) (sum:Int) (o:Int),F.f174 w t depth v i sum=some o->∀(c:Code),Zf [1,1,1,1,0,1,0,0] (ZL Tryz.f44)=some c->∀(Q:Exit->ASt->Prop),(Q (.exit 0) ⟨[(7,li o)],[]⟩)->ALoopU Tryz.prog B 0 50 (hold c .mk) ⟨[(0,am Vl.Data.c w),(2,li depth),(4,.ptr 0 0),(7,li sum),(20,am cI v),(21,li (v.length:Int)),(22,li (i:Int))],[.cells [li t.data,li t.index]]⟩ (hold Q .mk))/\
  (∀(t:Ty) (depth:Int) (v:List Int) (i:Nat) (sum:Int) (v10:List Ty) (n:Int) (i12:Nat) (o:Int),F.f175 w t depth v i sum v10 n i12=some o->∀(c:Code),Zf [1,1,1,1,0,1,0,0,1,1,0,0,1,1,0,1,0,0] (ZL Tryz.f44)=some c->∀(Q:Exit->ASt->Prop),(Q (.exit 2) ⟨[(0,am Vl.Data.c w),(2,li depth),(4,.ptr 0 0),(7,li sum),(10,li o),(20,am cI v),(21,li (v.length:Int)),(22,li (i:Int))],[.cells [li t.data,li t.index]]⟩)->ALoopU Tryz.prog B 0 50 (hold c .mk) ⟨[(0,am Vl.Data.c w),(2,li depth),(4,.ptr 0 0),(7,li sum),(10,li n),(20,am cI v),(21,li (v.length:Int)),(22,li (i:Int)),(29,am Ty.c v10),(30,li (v10.length:Int)),(31,li (i12:Int))],[.cells [li t.data,li t.index]]⟩ (hold Q .mk)):=by
 refine F.f173.mutual_partial_correctness w
  _ _ _
  ?_ ?_ ?_
 ·intro _f_f174 ih_f174 t depth r hF
  refine pE Tryz.func44 (by kernel_rfl) rfl Tryz.ntmps44 (by simp) (by simp) ?_
  repeat first|refine cg ?_|simp -dsimp
  revert hF;refine aS ?_ ?_<;>intro h1 q2 hF
  ·cases hF
   repeat first|refine cg ?_|simp -dsimp[eq_true h1]
   all_goals(try first|omega|rfl)
  ·repeat first|refine cg ?_|simp -dsimp[h1,q2]
   revert hF;refine aS ?_ ?_<;>intro h3 q4 hF
   ·cases hF
    repeat first|refine cg ?_|simp -dsimp[h1,q2,h3]
    all_goals(try first|omega|rfl)
   ·repeat first|refine cg ?_|simp -dsimp[h1,q2,h3,q4]
    have hF:=ob hF;obtain⟨v,e5,hF⟩:=hF
    refine((C.f110 B hB1 hB2 w t v e5)).goW (by first|simp[h1,q2,h3,q4];done|simp_all) (by simp) ?_
    repeat first|refine cg ?_|simp -dsimp[h1,q2,h3,q4]
    have hF:=ob hF;obtain⟨o'25,ho24,hF⟩:=hF
    refine ALoop.goU _ ?_ ((ih_f174 t depth v 0 0 o'25 ho24) _ rfl _ ?_)
    ·exact(gT (by simp) (by first|simp -dsimp[h1,q2,h3,q4];done|simp_all))
    cases hF
    repeat first|refine cg ?_|simp -dsimp
    all_goals(try first|omega|rfl)
 ·intro _f_f174 _f_f175 ih_f174 ih_f175 t depth v i sum o hF
  intro c hc Q hq
  obtain rfl:c=_:=ZQ hc rfl
  refine kN fun hk hs=> ?_
  have b0:=hk 0
  simp -dsimp at b0
  have b20:=hk 20
  simp -dsimp at b20
  clear hk hs
  refine eN ?_
  repeat first|refine cg ?_|simp -dsimp
  revert hF;refine aS ?_ ?_<;>intro h6 q7 hF
  ·have z8:((i:Int)<(v.length:Int)):=auz
   have hF:=ob hF;obtain⟨x,e9,hF⟩:=hF
   have le9:=ZB e9
   repeat first|refine cg ?_|simp -dsimp[h6,z8,↓e9]
   have hF:=ob hF;obtain⟨v10,e11,hF⟩:=hF
   refine((C.f116 B hB1 hB2 w t x v10 e11)).goW (by first|simp[h6,z8,↓e9];done|simp_all) (by simp) ?_
   repeat first|refine cg ?_|simp -dsimp[h6,z8,↓e9]
   have hF:=ob hF;obtain⟨o',ho21,hF⟩:=hF
   refine ALoop.goU _ ?_ ((ih_f175 t depth v i sum v10 1 0 o' ho21) _ rfl _ ?_)
   ·exact(gT (by simp) (by first|simp -dsimp[h6,z8,↓e9];done|simp_all))
   have hF:=oc hF;obtain⟨c22,hF⟩:=hF
   have w23:i64.wrap ((i:Int)+1)=(i:Int)+1:=ZF (by omega) (by omega)
   repeat first|refine cg ?_|simp -dsimp[w23]
   refine aG _ ?_ ((ih_f174 t depth v (i+1) (if 401<i64.wrap (sum+o')then 401 else i64.wrap (sum+o')) o hF) _ rfl _ hq)
   exact(gT (by simp) (by first|simp -dsimp[w23];done|simp_all))
  ·have z8:¬((i:Int)<(v.length:Int)):=auz
   cases hF
   repeat first|refine cg ?_|simp -dsimp[h6,q7,z8]
   refine lG _ (gT (by simp) (by first|simp -dsimp[h6,q7,z8];done|simp_all)) hq
 ·intro _f_f173 _f_f175 ih_f173 ih_f175 t depth v i sum v10 n i12 o hF
  intro c hc Q hq
  obtain rfl:c=_:=ZQ hc rfl
  refine kN fun hk hs=> ?_
  have b0:=hk 0
  simp -dsimp at b0
  have b20:=hk 20
  simp -dsimp at b20
  have b29:=hk 29
  simp -dsimp at b29
  clear hk hs
  refine eN ?_
  repeat first|refine cg ?_|simp -dsimp
  revert hF;refine aS ?_ ?_<;>intro h13 q14 hF
  ·have z15:((i12:Int)<(v10.length:Int)):=auz
   have hF:=ob hF;obtain⟨x16,e17,hF⟩:=hF
   have le17:=ZB e17
   repeat first|refine cg ?_|simp -dsimp[h13,z15,↓e17]
   have hF:=ob hF;obtain⟨v18,e19,hF⟩:=hF
   refine((ih_f173 x16 (i64.wrap (depth-1)) v18 e19)).goW (by first|simp[h13,z15,↓e17];done|simp_all) (by simp) ?_
   have w20:i64.wrap ((i12:Int)+1)=(i12:Int)+1:=ZF (by omega) (by omega)
   repeat first|refine cg ?_|simp -dsimp[h13,z15,↓e17,w20]
   refine aG _ ?_ ((ih_f175 t depth v i sum v10 (if 401<i64.wrap (n*v18)then 401 else i64.wrap (n*v18)) (i12+1) o hF) _ rfl _ hq)
   exact(gT (by simp) (by first|simp -dsimp[h13,z15,↓e17,w20];done|simp_all))
  ·have z15:¬((i12:Int)<(v10.length:Int)):=auz
   cases hF
   repeat first|refine cg ?_|simp -dsimp[h13,q14,z15]
   refine lG _ (gT (by simp) (by first|simp -dsimp[h13,q14,z15];done|simp_all)) hq
theorem C.f176 (n:Int)(r:Vl.Value)(hF:F.f176 n=some r):PureCall Tryz.prog B 87 [li n] (.agg [li r.ctor,li r.n,am Vl.Value.c r.kids]):=by
 unfold F.f176 at hF
 refine pE Tryz.func87 (by kernel_rfl) rfl Tryz.ntmps87 (by simp) (by simp) ?_
 cases hF
 repeat first|refine cg ?_|simp -dsimp
theorem C.f177 (arg:Ty)(a1:List Vl.Data)(a2:Int)(r:Bool)(hF:F.f177 arg a1 a2=some r):PureCall Tryz.prog B 89 [.agg [li arg.data,li arg.index],.rptr [am Vl.Data.c a1] 0,.rptr [li a2] 0] (.lit (.bool r)):=by
 unfold F.f177 at hF
 refine pE Tryz.func89 (by kernel_rfl) rfl Tryz.ntmps89 (by simp) (by simp) ?_
 repeat first|refine cg ?_|simp -dsimp
 have hF:=ob hF;obtain⟨v,e1,hF⟩:=hF
 refine(((CC.f173 B hB1 hB2 a1).1 arg (i64.wrap (a2-1)) v e1)).goW (by simp) (by simp) ?_
 cases hF
 repeat first|refine cg ?_|simp -dsimp
theorem CC.f178 (s:List Ty)(k0:List Vl.Data)(k1:Int):(∀(i:Nat) (o:Lo Int Unit),F.f178 s k0 k1 i=some o->∀(c:Code),Zf [1,0,1,0,0] (ZL Tryz.f131)=some c->∀(Q:Exit->ASt->Prop),o.post (fun r=>∀st,ZAV Tryz.prog Tryz.f131 (fun r' _=>r'.le (li r)) .ret st->Q .ret st) (fun s=>Q (.exit 0) ⟨[],[]⟩)->ALoopU Tryz.prog B 0 19 (hold c .mk) ⟨[(0,am Ty.c s),(1,.fn (.func 89) [] [.rptr [am Vl.Data.c k0] 0,.rptr [li k1] 0]),(7,li (s.length:Int)),(8,li (i:Int))],[]⟩ (hold Q .mk)):=by
 refine F.f178.partial_correctness s k0 k1
  _
  ?_
 ·intro _f_f178 ih_f178 i o hF
  intro c hc Q hq
  obtain rfl:c=_:=ZQ hc rfl
  refine kN fun hk hs=> ?_
  have b0:=hk 0
  simp -dsimp at b0
  clear hk hs
  refine eN ?_
  repeat first|refine cg ?_|simp -dsimp
  revert hF;refine aS ?_ ?_<;>intro h1 q2 hF
  ·have z3:((i:Int)<(s.length:Int)):=auz
   have hF:=ob hF;obtain⟨x,e4,hF⟩:=hF
   have le4:=ZB e4
   repeat first|refine cg ?_|simp -dsimp[h1,z3,↓e4]
   have hF:=ob hF;obtain⟨v,e5,hF⟩:=hF
   refine((C.f177 B hB1 hB2 x k0 k1 v e5)).goW (by simp_all) (by simp) ?_
   repeat first|refine cg ?_|simp -dsimp
   revert hF;refine aS (fun h6 q7 hF=> ?_) (fun h6 q7 hF=> ?_)
   ·cases hF
    repeat first|refine cg ?_|simp -dsimp[h6]
    refine lG _ (gR _) (hq _ ?_)
    repeat first|refine cg ?_|simp -dsimp
   ·have w8:i64.wrap ((i:Int)+1)=(i:Int)+1:=ZF (by omega) (by omega)
    repeat first|refine cg ?_|simp -dsimp[q7,w8]
    refine aG _ ?_ ((ih_f178 (i+1) o hF) _ rfl _ hq)
    exact(gT (by simp) (by simp_all))
  ·have z3:¬((i:Int)<(s.length:Int)):=auz
   cases hF
   repeat first|refine cg ?_|simp -dsimp[h1,q2,z3]
   refine lG _ (gT (by simp) (by simp_all)) hq
theorem C.f179 (s:List Ty)(k0:List Vl.Data)(k1:Int)(r:Int)(hF:F.f179 s k0 k1=some r):PureCall Tryz.prog B 131 [am Ty.c s,.fn (.func 89) [] [.rptr [am Vl.Data.c k0] 0,.rptr [li k1] 0]] (li r):=by
 unfold F.f179 at hF
 refine pE Tryz.func131 (by kernel_rfl) rfl Tryz.ntmps131 (by simp) (by simp) ?_
 repeat first|refine cg ?_|simp -dsimp
 have hF:=ob hF;obtain⟨o',ho9,hF⟩:=hF
 refine ALoop.goU _ ?_ (((CC.f178 B hB1 hB2 s k0 k1) 0 o' ho9) _ rfl _ ?_)
 ·exact(gT (by simp) (by simp -dsimp))
 rcases o' with r0|sx
 ·dsimp only at hF
  cases hF
  intro st h
  simpa using h
 ·dsimp only at hF
  cases hF
  repeat first|refine cg ?_|simp -dsimp
theorem C.f180 (s:List Ty)(k0:List Vl.Data)(k1:Int)(r:Bool)(hF:F.f180 s k0 k1=some r):PureCall Tryz.prog B 88 [am Ty.c s,.fn (.func 89) [] [.rptr [am Vl.Data.c k0] 0,.rptr [li k1] 0]] (.lit (.bool r)):=by
 unfold F.f180 at hF
 refine pE Tryz.func88 (by kernel_rfl) rfl Tryz.ntmps88 (by simp) (by simp) ?_
 repeat first|refine cg ?_|simp -dsimp
 have hF:=ob hF;obtain⟨v,e1,hF⟩:=hF
 refine((C.f179 B hB1 hB2 s k0 k1 v e1)).goW (by simp) (by simp) ?_
 cases hF
 repeat first|refine cg ?_|simp -dsimp
theorem C.f181 (s:List Vl.Value)(r:List Vl.Value)(hF:F.f181 s=some r):BCall Tryz.prog B 90 [] [am Vl.Value.c s] (.own 0 (List.length (α:=Vl.Value) r)) [.elems 3 (List.map Vl.Value.c r)]:=by
 unfold F.f181 at hF
 have hF:=oc hF;obtain⟨c1,hF⟩:=hF
 cases hF
 cases s with
 |nil=>
  refine BCall.empty1 fun a c=> ?_
  cases a
  ·refine BCall.ofNil 3 (by simp) (by simp) ?_
   refine pE Tryz.func90 (by kernel_rfl) rfl Tryz.ntmps90 (by simp) (by simp) ?_
   repeat first|refine cg ?_|simp -dsimp
  ·refine BCall.enter Tryz.func90 (by kernel_rfl) rfl Tryz.ntmps90 (by simp) rfl (by simp) (by simp) (by simp) (by simp) (by simp) (gR _) ?_
   repeat first|refine cg ?_|simp -dsimp
 |cons x xs=>
  have c1:xs.length+1<=67108864:=by simpa using c1
  refine BCall.enter Tryz.func90 (by kernel_rfl) rfl Tryz.ntmps90 (by simp) rfl (by simp) (by simp) (by simp) (by simp) (by simp) (gR _) ?_
  repeat first|refine cg ?_|simp -dsimp
theorem CC.f182  :(∀(i:Nat) (out:List Vl.Value) (o:List Vl.Value),F.f182 i out=some o->∀(c:Code),Zf [1,1,1,0,1,0,0,1,0,0] (ZL Tryz.f45)=some c->∀(Q:Exit->ASt->Prop),(Q (.exit 0) ⟨[(7,.own 3 (List.length (α:=Vl.Value) o))],[.dead,.dead,.dead,.elems 3 (List.map Vl.Value.c o)]⟩)->ALoopU Tryz.prog B 0 97 (hold c .mk) ⟨[(7,.own 3 (List.length (α:=Vl.Value) out)),(26,li (i:Int))],[.dead,.dead,.dead,.elems 3 (List.map Vl.Value.c out)]⟩ (hold Q .mk)):=by
 refine F.f182.partial_correctness 
  _
  ?_
 ·intro _f_f182 ih_f182 i out o hF
  intro c hc Q hq
  obtain rfl:c=_:=ZQ hc rfl
  refine kN fun hk hs=> ?_
  have d3:=hs 3 _ rfl
  simp -dsimp[Blk.bnd]at d3
  clear hk hs
  refine eN ?_
  repeat first|refine cg ?_|simp -dsimp
  revert hF;refine aS ?_ ?_<;>intro h5 q6 hF
  ·have z7:((i:Int)<10):=auz
   repeat first|refine cg ?_|simp -dsimp[h5,z7]
   have hF:=ob hF;obtain⟨v,e8,hF⟩:=hF
   refine((C.f176 B hB1 hB2 (i:Int) v e8)).goW (by simp_all) (by simp) ?_
   have hF:=oc hF;obtain⟨c9,hF⟩:=hF
   have hF:=oc hF;obtain⟨c10,hF⟩:=hF
   have w11:i64.wrap ((i:Int)+1)=(i:Int)+1:=ZF (by omega) (by omega)
   repeat first|refine cg ?_|simp -dsimp[w11]
   refine aG _ ?_ ((ih_f182 (i+1) (out++[v]) o hF) _ rfl _ hq)
   exact(gT (by simp) (by simp_all))
  ·have z7:¬((i:Int)<10):=auz
   cases hF
   repeat first|refine cg ?_|simp -dsimp[h5,q6,z7]
   refine lG _ (gT (by simp) (by simp_all)) hq
theorem CC.f183 (w:List Vl.Data)(t:Ty)(depth:Int)(v13:List Int)(i15:Nat)(out16:List Vl.Value)(x:Int)(v21:List Ty)(list:List Vl.Value)(i28:Nat)(v34:List Vl.Value)(i36:Nat)(x40:Vl.Value):(∀(more42:List Vl.Value) (i43:Nat) (o:List Vl.Value),F.f183 w t depth v13 i15 out16 x v21 list i28 v34 i36 x40 more42 i43=some o->∀(c:Code),Zf [1,1,1,1,0,1,0,0,1,1,0,0,1,1,1,1,0,1,0,0,1,1,0,0,1,1,1,0,1,0,0,1,1,0,0,1,1,0,0] (ZL Tryz.f45)=some c->∀(Q:Exit->ASt->Prop),(Q (.exit 8) ⟨[(3,.ptr 0 0),(4,.ptr 1 0),(5,.ptr 2 0),(7,.own 3 (List.length (α:=Vl.Value) out16)),(10,li x),(15,am Vl.Value.c v34),(16,.own 6 (List.length (α:=Vl.Value) o)),(38,am cI v13),(39,li (v13.length:Int)),(40,li (i15:Int)),(54,am Ty.c v21),(55,li (v21.length:Int)),(56,li (i28:Int)),(65,am Vl.Value.c list),(66,li (list.length:Int)),(67,li (i36:Int))],[.cells [am Vl.Data.c w],.cells [li t.data,li t.index],.cells [li depth],.elems 3 (List.map Vl.Value.c out16),.dead,.dead,.elems 3 (List.map Vl.Value.c o)]⟩)->ALoopU Tryz.prog B 0 97 (hold c .mk) ⟨[(3,.ptr 0 0),(4,.ptr 1 0),(5,.ptr 2 0),(7,.own 3 (List.length (α:=Vl.Value) out16)),(10,li x),(15,am Vl.Value.c v34),(16,.own 6 (List.length (α:=Vl.Value) more42)),(18,.ptr 7 0),(38,am cI v13),(39,li (v13.length:Int)),(40,li (i15:Int)),(54,am Ty.c v21),(55,li (v21.length:Int)),(56,li (i28:Int)),(65,am Vl.Value.c list),(66,li (list.length:Int)),(67,li (i36:Int)),(71,am Vl.Value.c v34),(72,li (v34.length:Int)),(73,li (i43:Int))],[.cells [am Vl.Data.c w],.cells [li t.data,li t.index],.cells [li depth],.elems 3 (List.map Vl.Value.c out16),.dead,.dead,.elems 3 (List.map Vl.Value.c more42),.cells [li x40.ctor,li x40.n,am Vl.Value.c x40.kids]]⟩ (hold Q .mk)):=by
 refine F.f183.partial_correctness w t depth v13 i15 out16 x v21 list i28 v34 i36 x40
  _
  ?_
 ·intro _f_f183 ih_f183 more42 i43 o hF
  intro c hc Q hq
  obtain rfl:c=_:=ZQ hc rfl
  refine kN fun hk hs=> ?_
  have b15:=hk 15
  simp -dsimp at b15
  have b38:=hk 38
  simp -dsimp at b38
  have b54:=hk 54
  simp -dsimp at b54
  have b65:=hk 65
  simp -dsimp at b65
  have b71:=hk 71
  simp -dsimp at b71
  have d0:=hs 0 _ rfl
  simp -dsimp[Blk.bnd]at d0
  have d3:=hs 3 _ rfl
  simp -dsimp[Blk.bnd]at d3
  have d6:=hs 6 _ rfl
  simp -dsimp[Blk.bnd]at d6
  have d7:=hs 7 _ rfl
  simp -dsimp[Blk.bnd]at d7
  clear hk hs
  refine eN ?_
  repeat first|refine cg ?_|simp -dsimp
  revert hF;refine aS ?_ ?_<;>intro h44 q45 hF
  ·have z46:((i43:Int)<(v34.length:Int)):=auz
   have hF:=ob hF;obtain⟨x47,e48,hF⟩:=hF
   have le48:=ZB e48
   repeat first|refine cg ?_|simp -dsimp[h44,z46,↓e48]
   refine ADraw.opn ?_
   refine ADraw.split [] [(4,6)] [(6,4)] 4 6 rfl rfl (by kernel_rfl) ?_ ?_
   ·refine ADraw.effP [(4,6)] [0,1,2,3,4,5,6,7,8,9,10,11] [90,1000058] [(0,5),(0,3),(0,0),(0,0),(0,6),(0,1),(0,6),(0,6),(0,6),(0,6),(0,6),(6,6)] [1,1,1,1,1,2,1,1,1,1,1,1] follows (by kernel_rfl) (by kernel_rfl) (by kernel_rfl) (by kernel_rfl) ?_
    repeat first|refine cg ?_|simp -dsimp
    have hF:=ob hF;obtain⟨v49,e50,hF⟩:=hF
    refine((C.f181 B hB1 hB2 x40.kids v49 e50)).ego (pl [9]) (by simp) (by simp) (by intro i j hi;simp at hi) (by intro i hi hi';simp at hi hi';first|omega|(subst hi';simp[pl])) (by simp_all) (by simp_all) ?_
    have hF:=oc hF;obtain⟨c51,hF⟩:=hF
    have hF:=oc hF;obtain⟨c52,hF⟩:=hF
    have w53:i64.wrap ((i43:Int)+1)=(i43:Int)+1:=ZF (by omega) (by omega)
    repeat first|refine cg ?_|simp -dsimp[w53]
    refine aG _ ?_ ((ih_f183 (more42++[(⟨x,0,v49++[x47]⟩:Vl.Value)]) (i43+1) o hF) _ rfl _ hq)
    exact(gT (by simp) (by simp_all))
   ·refine ADraw.effP [(6,4)] [0,1,2,3,5,6,4,7,8,9,10,11] [90,1000058] [(0,5),(0,3),(0,1),(0,1),(0,0),(0,6),(0,6),(0,6),(0,6),(0,6),(0,6),(6,6)] [1,1,0,2,1,1,1,1,1,1,1,1] follows (by kernel_rfl) (by kernel_rfl) (by kernel_rfl) (by kernel_rfl) ?_
    repeat first|refine cg ?_|simp -dsimp
    have hF:=ob hF;obtain⟨v49,e50,hF⟩:=hF
    refine((C.f181 B hB1 hB2 x40.kids v49 e50)).ego (pl [10]) (by simp) (by simp) (by intro i j hi;simp at hi) (by intro i hi hi';simp at hi hi';first|omega|(subst hi';simp[pl])) (by simp_all) (by simp_all) ?_
    have hF:=oc hF;obtain⟨c51,hF⟩:=hF
    have hF:=oc hF;obtain⟨c52,hF⟩:=hF
    have w53:i64.wrap ((i43:Int)+1)=(i43:Int)+1:=ZF (by omega) (by omega)
    repeat first|refine cg ?_|simp -dsimp[w53]
    refine aG _ ?_ ((ih_f183 (more42++[(⟨x,0,v49++[x47]⟩:Vl.Value)]) (i43+1) o hF) _ rfl _ hq)
    exact(gT (by simp) (by simp_all))
  ·have z46:¬((i43:Int)<(v34.length:Int)):=auz
   cases hF
   repeat first|refine cg ?_|simp -dsimp[h44,q45,z46]
   refine lG _ (gT (by simp) (by simp_all)) hq
theorem CC.f184 (w:List Vl.Data)(t:Ty)(depth:Int)(v13:List Int)(i15:Nat)(out16:List Vl.Value)(x:Int)(v21:List Ty)(list:List Vl.Value)(i28:Nat)(v34:List Vl.Value):(∀(more:List Vl.Value) (i36:Nat) (o:List Vl.Value),F.f184 w t depth v13 i15 out16 x v21 list i28 v34 more i36=some o->∀(c:Code),Zf [1,1,1,1,0,1,0,0,1,1,0,0,1,1,1,1,0,1,0,0,1,1,0,0,1,1,1,0,1,0,0] (ZL Tryz.f45)=some c->∀(Q:Exit->ASt->Prop),(Q (.exit 6) ⟨[(3,.ptr 0 0),(4,.ptr 1 0),(5,.ptr 2 0),(7,.own 3 (List.length (α:=Vl.Value) out16)),(10,li x),(16,.own 6 (List.length (α:=Vl.Value) o)),(38,am cI v13),(39,li (v13.length:Int)),(40,li (i15:Int)),(54,am Ty.c v21),(55,li (v21.length:Int)),(56,li (i28:Int))],[.cells [am Vl.Data.c w],.cells [li t.data,li t.index],.cells [li depth],.elems 3 (List.map Vl.Value.c out16),.dead,.dead,.elems 3 (List.map Vl.Value.c o)]⟩)->ALoopU Tryz.prog B 0 97 (hold c .mk) ⟨[(3,.ptr 0 0),(4,.ptr 1 0),(5,.ptr 2 0),(7,.own 3 (List.length (α:=Vl.Value) out16)),(10,li x),(15,am Vl.Value.c v34),(16,.own 6 (List.length (α:=Vl.Value) more)),(38,am cI v13),(39,li (v13.length:Int)),(40,li (i15:Int)),(54,am Ty.c v21),(55,li (v21.length:Int)),(56,li (i28:Int)),(65,am Vl.Value.c list),(66,li (list.length:Int)),(67,li (i36:Int))],[.cells [am Vl.Data.c w],.cells [li t.data,li t.index],.cells [li depth],.elems 3 (List.map Vl.Value.c out16),.dead,.dead,.elems 3 (List.map Vl.Value.c more)]⟩ (hold Q .mk)):=by
 refine F.f184.partial_correctness w t depth v13 i15 out16 x v21 list i28 v34
  _
  ?_
 ·intro _f_f184 ih_f184 more i36 o hF
  intro c hc Q hq
  obtain rfl:c=_:=ZQ hc rfl
  refine kN fun hk hs=> ?_
  have b15:=hk 15
  simp -dsimp at b15
  have b38:=hk 38
  simp -dsimp at b38
  have b54:=hk 54
  simp -dsimp at b54
  have b65:=hk 65
  simp -dsimp at b65
  have d0:=hs 0 _ rfl
  simp -dsimp[Blk.bnd]at d0
  have d3:=hs 3 _ rfl
  simp -dsimp[Blk.bnd]at d3
  have d6:=hs 6 _ rfl
  simp -dsimp[Blk.bnd]at d6
  clear hk hs
  refine eN ?_
  repeat first|refine cg ?_|simp -dsimp
  revert hF;refine aS ?_ ?_<;>intro h37 q38 hF
  ·have z39:((i36:Int)<(list.length:Int)):=auz
   have hF:=ob hF;obtain⟨x40,e41,hF⟩:=hF
   have le41:=ZB e41
   repeat first|refine cg ?_|simp -dsimp[h37,z39,↓e41]
   have hF:=ob hF;obtain⟨o'55,ho54,hF⟩:=hF
   refine ALoop.goU _ ?_ (((CC.f183 B hB1 hB2 w t depth v13 i15 out16 x v21 list i28 v34 i36 x40) more 0 o'55 ho54) _ rfl _ ?_)
   ·exact(gT (by simp) (by simp_all))
   have hF:=oc hF;obtain⟨c56,hF⟩:=hF
   have w57:i64.wrap ((i36:Int)+1)=(i36:Int)+1:=ZF (by omega) (by omega)
   repeat first|refine cg ?_|simp -dsimp[w57]
   refine aG _ ?_ ((ih_f184 o'55 (i36+1) o hF) _ rfl _ hq)
   exact(gT (by simp) (by simp_all))
  ·have z39:¬((i36:Int)<(list.length:Int)):=auz
   cases hF
   repeat first|refine cg ?_|simp -dsimp[h37,q38,z39]
   refine lG _ (gT (by simp) (by simp_all)) hq
theorem CC.f185 (w:List Vl.Data):(∀(t:Ty) (depth:Int) (r:List Vl.Value),F.f185 w t depth=some r->PureCall Tryz.prog B 45 [am Vl.Data.c w,.agg [li t.data,li t.index],li depth] (am Vl.Value.c r))/\
  (∀(t:Ty) (depth:Int) (v13:List Int) (i15:Nat) (out16:List Vl.Value) (o:List Vl.Value),F.f186 w t depth v13 i15 out16=some o->∀(c:Code),Zf [1,1,1,1,0,1,0,0] (ZL Tryz.f45)=some c->∀(Q:Exit->ASt->Prop),(Q (.exit 2) ⟨[(7,.own 3 (List.length (α:=Vl.Value) o))],[.dead,.dead,.dead,.elems 3 (List.map Vl.Value.c o)]⟩)->ALoopU Tryz.prog B 0 97 (hold c .mk) ⟨[(3,.ptr 0 0),(4,.ptr 1 0),(5,.ptr 2 0),(7,.own 3 (List.length (α:=Vl.Value) out16)),(38,am cI v13),(39,li (v13.length:Int)),(40,li (i15:Int))],[.cells [am Vl.Data.c w],.cells [li t.data,li t.index],.cells [li depth],.elems 3 (List.map Vl.Value.c out16)]⟩ (hold Q .mk))/\
  (∀(t:Ty) (depth:Int) (v13:List Int) (i15:Nat) (out16:List Vl.Value) (x:Int) (v21:List Ty) (list:List Vl.Value) (i28:Nat) (o:List Vl.Value),F.f187 w t depth v13 i15 out16 x v21 list i28=some o->∀(c:Code),Zf [1,1,1,1,0,1,0,0,1,1,0,0,1,1,1,1,0,1,0,0] (ZL Tryz.f45)=some c->∀(Q:Exit->ASt->Prop),(Q (.exit 4) ⟨[(3,.ptr 0 0),(4,.ptr 1 0),(5,.ptr 2 0),(7,.own 3 (List.length (α:=Vl.Value) out16)),(12,am Vl.Value.c o),(38,am cI v13),(39,li (v13.length:Int)),(40,li (i15:Int))],[.cells [am Vl.Data.c w],.cells [li t.data,li t.index],.cells [li depth],.elems 3 (List.map Vl.Value.c out16)]⟩)->ALoopU Tryz.prog B 0 97 (hold c .mk) ⟨[(3,.ptr 0 0),(4,.ptr 1 0),(5,.ptr 2 0),(7,.own 3 (List.length (α:=Vl.Value) out16)),(10,li x),(12,am Vl.Value.c list),(38,am cI v13),(39,li (v13.length:Int)),(40,li (i15:Int)),(54,am Ty.c v21),(55,li (v21.length:Int)),(56,li (i28:Int))],[.cells [am Vl.Data.c w],.cells [li t.data,li t.index],.cells [li depth],.elems 3 (List.map Vl.Value.c out16),.dead]⟩ (hold Q .mk)):=by
 refine F.f185.mutual_partial_correctness w
  _ _ _
  ?_ ?_ ?_
 ·intro _f_f186 ih_f186 t depth r hF
  refine pE Tryz.func45 (by kernel_rfl) rfl Tryz.ntmps45 (by simp) (by simp) ?_
  repeat first|refine cg ?_|simp -dsimp
  revert hF;refine aS ?_ ?_<;>intro h1 q2 hF
  ·cases hF
   repeat first|refine cg ?_|simp -dsimp[eq_true h1]
   all_goals(try first|omega|rfl)
  ·repeat first|refine cg ?_|simp -dsimp[h1,q2]
   revert hF;refine aS ?_ ?_<;>intro h3 q4 hF
   ·repeat first|refine cg ?_|simp -dsimp[h1,q2,h3]
    have hF:=ob hF;obtain⟨o',ho12,hF⟩:=hF
    refine ALoop.goU ⟨[(7,.own 3 (List.length (α:=Vl.Value) [])),(26,.lit (.int .i64 0))],[.dead,.dead,.dead,.elems 3 (List.map Vl.Value.c [])]⟩ (by refine Gh.trans (Gh.nil 7 3 (by simp -dsimp)) ?_;exact(gT (by simp) (by first|simp -dsimp[h1,q2,h3];done|simp_all))) ?_
    refine((CC.f182 B hB1 hB2) 0 [] o' ho12) _ rfl _ ?_
    cases hF
    repeat first|refine cg ?_|simp -dsimp
    all_goals(try first|omega|rfl)
   ·repeat first|refine cg ?_|simp -dsimp[h1,q2,h3,q4]
    have hF:=ob hF;obtain⟨v13,e14,hF⟩:=hF
    refine((C.f110 B hB1 hB2 w t v13 e14)).goW (by first|simp[h1,q2,h3,q4];done|simp_all) (by simp) ?_
    repeat first|refine cg ?_|simp -dsimp[h1,q2,h3,q4]
    have hF:=ob hF;obtain⟨o'68,ho67,hF⟩:=hF
    refine ALoop.goU ⟨[(3,.ptr 0 0),(4,.ptr 1 0),(5,.ptr 2 0),(7,.own 3 (List.length (α:=Vl.Value) [])),(38,.arr (List.map cI v13)),(39,.lit (.int .i64 (v13.length:Int))),(40,.lit (.int .i64 0))],[.cells [.arr (List.map Vl.Data.c w)],.cells [.lit (.int .i64 t.data),.lit (.int .i64 t.index)],.cells [.lit (.int .i64 depth)],.elems 3 (List.map Vl.Value.c [])]⟩ (by refine Gh.trans (Gh.nil 7 3 (by simp -dsimp)) ?_;exact(gT (by simp) (by first|simp -dsimp[h1,q2,h3,q4];done|simp_all))) ?_
    refine(ih_f186 t depth v13 0 [] o'68 ho67) _ rfl _ ?_
    cases hF
    repeat first|refine cg ?_|simp -dsimp
    all_goals(try first|omega|rfl)
 ·intro _f_f186 _f_f187 ih_f186 ih_f187 t depth v13 i15 out16 o hF
  intro c hc Q hq
  obtain rfl:c=_:=ZQ hc rfl
  refine kN fun hk hs=> ?_
  have b38:=hk 38
  simp -dsimp at b38
  have d0:=hs 0 _ rfl
  simp -dsimp[Blk.bnd]at d0
  have d3:=hs 3 _ rfl
  simp -dsimp[Blk.bnd]at d3
  clear hk hs
  refine eN ?_
  repeat first|refine cg ?_|simp -dsimp
  revert hF;refine aS ?_ ?_<;>intro h17 q18 hF
  ·have z19:((i15:Int)<(v13.length:Int)):=auz
   have hF:=ob hF;obtain⟨x,e20,hF⟩:=hF
   have le20:=ZB e20
   repeat first|refine cg ?_|simp -dsimp[h17,z19,↓e20]
   have hF:=ob hF;obtain⟨v21,e22,hF⟩:=hF
   refine((C.f116 B hB1 hB2 w t x v21 e22)).goW (by first|simp[h17,z19,↓e20];done|simp_all) (by simp) ?_
   repeat first|refine cg ?_|simp -dsimp[h17,z19,↓e20]
   have hF:=ob hF;obtain⟨v23,e24,hF⟩:=hF
   refine((C.f180 B hB1 hB2 v21 w depth v23 e24)).lend (by first|simp -dsimp[h17,z19,↓e20];done|simp_all) (by simp -dsimp) ?_
   repeat first|refine cg ?_|simp -dsimp[h17,z19,↓e20]
   revert hF;refine aS (fun h25 q26 hF=> ?_) (fun h25 q26 hF=> ?_)
   ·have w27:i64.wrap ((i15:Int)+1)=(i15:Int)+1:=ZF (by omega) (by omega)
    repeat first|refine cg ?_|simp -dsimp[h17,z19,↓e20,h25,w27]
    refine aG _ ?_ ((ih_f186 t depth v13 (i15+1) out16 o hF) _ rfl _ hq)
    exact(gT (by simp) (by first|simp -dsimp[h17,z19,↓e20,h25,w27];done|simp_all))
   ·repeat first|refine cg ?_|simp -dsimp[h17,z19,↓e20,h25,q26]
    have hF:=ob hF;obtain⟨o'63,ho62,hF⟩:=hF
    refine ALoop.goU ⟨[(3,.ptr 0 0),(4,.ptr 1 0),(5,.ptr 2 0),(7,.own 3 (List.length (α:=Vl.Value) out16)),(10,.lit (.int .i64 x)),(12,.arr (List.map Vl.Value.c [(⟨x,0,[]⟩:Vl.Value)])),(38,.arr (List.map cI v13)),(39,.lit (.int .i64 (v13.length:Int))),(40,.lit (.int .i64 (i15:Int))),(54,.arr (List.map Ty.c v21)),(55,.lit (.int .i64 (v21.length:Int))),(56,.lit (.int .i64 0))],[.cells [.arr (List.map Vl.Data.c w)],.cells [.lit (.int .i64 t.data),.lit (.int .i64 t.index)],.cells [.lit (.int .i64 depth)],.elems 3 (List.map Vl.Value.c out16),.dead]⟩ (by refine Gh.trans (Gh.frzSlot 12 (l:=4) (n:=List.length (α:=Vl.Value) [(⟨x,0,[]⟩:Vl.Value)]) (sz:=3) (es:=List.map Vl.Value.c [(⟨x,0,[]⟩:Vl.Value)]) (by simp) (by simp) (by simp) (by simp)) ?_;exact(gT (by simp) (by first|simp -dsimp[h17,z19,↓e20,h25,q26];done|simp_all))) ?_
    refine(ih_f187 t depth v13 i15 out16 x v21 [(⟨x,0,[]⟩:Vl.Value)] 0 o'63 ho62) _ rfl _ ?_
    have hF:=oc hF;obtain⟨c64,hF⟩:=hF
    have hF:=oc hF;obtain⟨c65,hF⟩:=hF
    have w66:i64.wrap ((i15:Int)+1)=(i15:Int)+1:=ZF (by omega) (by omega)
    repeat first|refine cg ?_|simp -dsimp[w66]
    refine aG _ ?_ ((ih_f186 t depth v13 (i15+1) (out16++o'63) o hF) _ rfl _ hq)
    exact(gT (by simp) (by first|simp -dsimp[w66];done|simp_all))
  ·have z19:¬((i15:Int)<(v13.length:Int)):=auz
   cases hF
   repeat first|refine cg ?_|simp -dsimp[h17,q18,z19]
   refine lG _ (gT (by simp) (by first|simp -dsimp[h17,q18,z19];done|simp_all)) hq
 ·intro _f_f185 _f_f187 ih_f185 ih_f187 t depth v13 i15 out16 x v21 list i28 o hF
  intro c hc Q hq
  obtain rfl:c=_:=ZQ hc rfl
  refine kN fun hk hs=> ?_
  have b12:=hk 12
  simp -dsimp at b12
  have b38:=hk 38
  simp -dsimp at b38
  have b54:=hk 54
  simp -dsimp at b54
  have d0:=hs 0 _ rfl
  simp -dsimp[Blk.bnd]at d0
  have d3:=hs 3 _ rfl
  simp -dsimp[Blk.bnd]at d3
  clear hk hs
  refine eN ?_
  repeat first|refine cg ?_|simp -dsimp
  revert hF;refine aS ?_ ?_<;>intro h29 q30 hF
  ·have z31:((i28:Int)<(v21.length:Int)):=auz
   have hF:=ob hF;obtain⟨x32,e33,hF⟩:=hF
   have le33:=ZB e33
   repeat first|refine cg ?_|simp -dsimp[h29,z31,↓e33]
   have hF:=ob hF;obtain⟨v34,e35,hF⟩:=hF
   refine((ih_f185 x32 (i64.wrap (depth-1)) v34 e35)).goW (by first|simp[h29,z31,↓e33];done|simp_all) (by simp) ?_
   repeat first|refine cg ?_|simp -dsimp[h29,z31,↓e33]
   have hF:=ob hF;obtain⟨o'59,ho58,hF⟩:=hF
   refine ALoop.goU ⟨[(3,.ptr 0 0),(4,.ptr 1 0),(5,.ptr 2 0),(7,.own 3 (List.length (α:=Vl.Value) out16)),(10,.lit (.int .i64 x)),(15,.arr (List.map Vl.Value.c v34)),(16,.own 6 (List.length (α:=Vl.Value) [])),(38,.arr (List.map cI v13)),(39,.lit (.int .i64 (v13.length:Int))),(40,.lit (.int .i64 (i15:Int))),(54,.arr (List.map Ty.c v21)),(55,.lit (.int .i64 (v21.length:Int))),(56,.lit (.int .i64 (i28:Int))),(65,.arr (List.map Vl.Value.c list)),(66,.lit (.int .i64 (list.length:Int))),(67,.lit (.int .i64 0))],[.cells [.arr (List.map Vl.Data.c w)],.cells [.lit (.int .i64 t.data),.lit (.int .i64 t.index)],.cells [.lit (.int .i64 depth)],.elems 3 (List.map Vl.Value.c out16),.dead,.dead,.elems 3 (List.map Vl.Value.c [])]⟩ (by refine Gh.trans (Gh.nil 16 3 (by simp -dsimp)) ?_;exact(gT (by simp) (by first|simp -dsimp[h29,z31,↓e33];done|simp_all))) ?_
   refine((CC.f184 B hB1 hB2 w t depth v13 i15 out16 x v21 list i28 v34) [] 0 o'59 ho58) _ rfl _ ?_
   have hF:=oc hF;obtain⟨c60,hF⟩:=hF
   have w61:i64.wrap ((i28:Int)+1)=(i28:Int)+1:=ZF (by omega) (by omega)
   repeat first|refine cg ?_|simp -dsimp[w61]
   refine aG ⟨[(3,.ptr 0 0),(4,.ptr 1 0),(5,.ptr 2 0),(7,.own 3 (List.length (α:=Vl.Value) out16)),(10,.lit (.int .i64 x)),(12,.arr (List.map Vl.Value.c o'59)),(38,.arr (List.map cI v13)),(39,.lit (.int .i64 (v13.length:Int))),(40,.lit (.int .i64 (i15:Int))),(54,.arr (List.map Ty.c v21)),(55,.lit (.int .i64 (v21.length:Int))),(56,.lit (.int .i64 ((i28+1):Int)))],[.cells [.arr (List.map Vl.Data.c w)],.cells [.lit (.int .i64 t.data),.lit (.int .i64 t.index)],.cells [.lit (.int .i64 depth)],.elems 3 (List.map Vl.Value.c out16),.dead]⟩ (by refine Gh.trans (Gh.frzSlot 12 (l:=6) (n:=List.length (α:=Vl.Value) o'59) (sz:=3) (es:=List.map Vl.Value.c o'59) (by simp) (by simp) (by simp) (by simp)) ?_;exact(gT (by simp) (by first|simp -dsimp[w61];done|simp_all))) ?_
   exact(ih_f187 t depth v13 i15 out16 x v21 o'59 (i28+1) o hF) _ rfl _ hq
  ·have z31:¬((i28:Int)<(v21.length:Int)):=auz
   cases hF
   repeat first|refine cg ?_|simp -dsimp[h29,q30,z31]
   refine lG _ (gT (by simp) (by first|simp -dsimp[h29,q30,z31];done|simp_all)) hq
theorem CC.f188  :(∀(v:Vl.Value) (r:Vl.Value),F.f188 v=some r->PureCall Tryz.prog B 46 [.agg [li v.ctor,li v.n,am Vl.Value.c v.kids]] (.agg [li r.ctor,li r.n,am Vl.Value.c r.kids]))/\
  (∀(v:Vl.Value) (out:List Vl.Value) (i:Nat) (o:List Vl.Value),F.f189 v out i=some o->∀(c:Code),Zf [1,1,0,1,0,0] (ZL Tryz.f46)=some c->∀(Q:Exit->ASt->Prop),(Q (.exit 0) ⟨[(2,.ptr 1 0),(3,.ptr 2 0)],[.dead,.cells [li 0,li 0,.lit (.slice none 0 0)],.cells [li v.ctor,li v.n,.own 3 (List.length (α:=Vl.Value) o)],.elems 3 (List.map Vl.Value.c o)]⟩)->ALoopU Tryz.prog B 0 27 (hold c .mk) ⟨[(2,.ptr 1 0),(3,.ptr 2 0),(12,am Vl.Value.c v.kids),(13,li (v.kids.length:Int)),(14,li (i:Int))],[.dead,.cells [li 0,li 0,.lit (.slice none 0 0)],.cells [li v.ctor,li v.n,.own 3 (List.length (α:=Vl.Value) out)],.elems 3 (List.map Vl.Value.c out)]⟩ (hold Q .mk)):=by
 refine F.f188.mutual_partial_correctness 
  _ _
  ?_ ?_
 ·intro _f_f189 ih_f189 v r hF
  refine pE Tryz.func46 (by kernel_rfl) rfl Tryz.ntmps46 (by simp) (by simp) ?_
  repeat first|refine cg ?_|simp -dsimp
  have hF:=ob hF;obtain⟨o',ho9,hF⟩:=hF
  refine ALoop.goU ⟨[(2,.ptr 1 0),(3,.ptr 2 0),(12,.arr (List.map Vl.Value.c v.kids)),(13,.lit (.int .i64 (v.kids.length:Int))),(14,.lit (.int .i64 0))],[.dead,.cells [.lit (.int .i64 0),.lit (.int .i64 0),.lit (.slice none 0 0)],.cells [.lit (.int .i64 v.ctor),.lit (.int .i64 v.n),.own 3 (List.length (α:=Vl.Value) [])],.elems 3 (List.map Vl.Value.c [])]⟩ (by refine Gh.trans (Gh.nilCell 2 2 3 (by simp -dsimp;rfl) (by simp -dsimp)) ?_;exact(gT (by simp) (by simp -dsimp))) ?_
  refine(ih_f189 v [] 0 o' ho9) _ rfl _ ?_
  cases hF
  repeat first|refine cg ?_|simp -dsimp
 ·intro _f_f188 _f_f189 ih_f188 ih_f189 v out i o hF
  intro c hc Q hq
  obtain rfl:c=_:=ZQ hc rfl
  refine kN fun hk hs=> ?_
  have b12:=hk 12
  simp -dsimp at b12
  have d3:=hs 3 _ rfl
  simp -dsimp[Blk.bnd]at d3
  clear hk hs
  refine eN ?_
  repeat first|refine cg ?_|simp -dsimp
  revert hF;refine aS ?_ ?_<;>intro h1 q2 hF
  ·have z3:((i:Int)<(v.kids.length:Int)):=auz
   have hF:=ob hF;obtain⟨x,e4,hF⟩:=hF
   have le4:=ZB e4
   repeat first|refine cg ?_|simp -dsimp[h1,z3,↓e4]
   refine ADraw.eff [] [(0,1),(0,1),(0,0),(0,3),(0,3),(0,3),(2,2),(0,3)] [0,2,1,1,1,1,1,1] follows (by kernel_rfl) (by kernel_rfl) (by kernel_rfl) ?_
   repeat first|refine cg ?_|simp -dsimp
   have hF:=ob hF;obtain⟨v5,e6,hF⟩:=hF
   refine((ih_f188 x v5 e6)).pgoW (by simp_all) (by simp) ?_
   have hF:=oc hF;obtain⟨c7,hF⟩:=hF
   have w8:i64.wrap ((i:Int)+1)=(i:Int)+1:=ZF (by omega) (by omega)
   repeat first|refine cg ?_|simp -dsimp[w8]
   refine aG _ ?_ ((ih_f189 v (out++[v5]) (i+1) o hF) _ rfl _ hq)
   exact(gT (by simp) (by simp_all))
  ·have z3:¬((i:Int)<(v.kids.length:Int)):=auz
   cases hF
   repeat first|refine cg ?_|simp -dsimp[h1,q2,z3]
   refine lG _ (gT (by simp) (by simp_all)) hq
end Go.Proofs.YtoiccjladkadgaaGreat
