/- A part of the proof. -/
import Derived.Test.YtkgcopogpmckdaaGreatProg
import Derived.Test.YtkgcopogpmckdaaGreatSharedTestsF
import Derived.Test.YtkgcopogpmckdaaGreatSharedTestsC2
namespace Go.Proofs.YtkgcopogpmckdaaGreat
open Go Go.Proofs Go.Vl
open Go.IntKind (i64)
set_option linter.all false
set_option maxRecDepth 100000
set_option maxHeartbeats 4000000
set_option synthInstance.maxSize 100000
set_option synthInstance.maxHeartbeats 4000000
attribute [local irreducible] GhK ECallA ZHC aL aLg ZLA ZIF ZFP ZD3 ZG4 ZCA MutCall BCall chk abr ACall ALoop ALoopU ADraw Again Leave ZDU PCall ZAh awp ZGY PureCall hold
variable (B : Nat) (hB1 : 67108864 <= B) (hB2 : B <= 9223372036854775807)
include hB1 hB2
theorem CC.f182  :(∀(x:Tree) (most:Int) (r:Int),F.f182 x most=some r->PureCall Tryz.prog B 60 [.agg [li x.op,li x.clause,am PathBind.c x.binds,am cI x.path,am Branch.c x.branches,am Tree.c x.els],li most] (li r))/\
  (∀(x:Tree) (most:Int) (n11:Int) (i12:Nat) (o:Int),F.f184 x most n11 i12=some o->∀(c:Code),ZY [1,1,1,0,1,0,0] (ZJ Tryz.f60)=some c->∀(Q:Exit->ASt->Prop),(Q (.exit 2) ⟨[(5,li o)],[]⟩)->ALoopU Tryz.prog B 0 56 (hold c .mk) ⟨[(1,li most),(2,.ptr 0 0),(5,li n11),(7,li (i12:Int))],[.cells [li x.op,li x.clause,am PathBind.c x.binds,am cI x.path,am Branch.c x.branches,am Tree.c x.els]]⟩ (hold Q .mk))/\
  (∀(x:Tree) (most:Int) (n:Int) (i:Nat) (o:Int),F.f183 x most n i=some o->∀(c:Code),ZY [1,1,0,1,0,0] (ZJ Tryz.f60)=some c->∀(Q:Exit->ASt->Prop),(Q (.exit 0) ⟨[(1,li most),(2,.ptr 0 0),(5,li o)],[.cells [li x.op,li x.clause,am PathBind.c x.binds,am cI x.path,am Branch.c x.branches,am Tree.c x.els]]⟩)->ALoopU Tryz.prog B 0 56 (hold c .mk) ⟨[(1,li most),(2,.ptr 0 0),(5,li n),(6,li (i:Int))],[.cells [li x.op,li x.clause,am PathBind.c x.binds,am cI x.path,am Branch.c x.branches,am Tree.c x.els]]⟩ (hold Q .mk)):=by
 refine F.f182.mutual_partial_correctness 
  _ _ _
  ?_ ?_ ?_
 ·intro _f_f184 _f_f183 ih_f184 ih_f183 x most r hF
  refine PureCall.enterLe Tryz.func60 (by kernel_rfl) rfl Tryz.ntmps60 (by simp) (by simp) ?_
  repeat first|refine cg ?_|simp -dsimp
  have hF:=ob hF;obtain⟨o',ho10,hF⟩:=hF
  refine ALoop.goU _ ?_ ((ih_f183 x most 1 0 o' ho10) _ rfl _ ?_)
  ·exact(Gh.to3 (by simp) (by simp -dsimp))
  repeat first|refine cg ?_|simp -dsimp
  have hF:=ob hF;obtain⟨o'24,ho23,hF⟩:=hF
  refine ALoop.goU _ ?_ ((ih_f184 x most o' 0 o'24 ho23) _ rfl _ ?_)
  ·exact(Gh.to3 (by simp) (by simp -dsimp))
  cases hF
  repeat first|refine cg ?_|simp -dsimp
 ·intro _f_f182 _f_f184 ih_f182 ih_f184 x most n11 i12 o hF
  intro c hc Q hq
  obtain rfl:c=_:=ZL hc rfl
  refine ALoopU.know fun hk hs=> ?_
  have d0:=hs 0 _ rfl
  simp -dsimp[Blk.bnd]at d0
  clear hk hs
  refine ALoopU.enter ?_
  repeat first|refine cg ?_|simp -dsimp
  revert hF;refine abr.sp ?_ ?_<;>intro h13 q14 hF
  ·have z15:((i12:Int)<(x.els.length:Int)):=auz
   repeat first|refine cg ?_|simp -dsimp[h13,z15]
   revert hF;refine abr.sp ?_ ?_<;>intro h16 q17 hF
   ·have hF:=ob hF;obtain⟨x18,e19,hF⟩:=hF
    have le19:=ZB e19
    repeat first|refine cg ?_|simp -dsimp[h16,↓e19]
    have hF:=ob hF;obtain⟨v20,e21,hF⟩:=hF
    refine((ih_f182 x18 (i64.wrap (most-n11)) v20 e21)).goW (by simp_all) (by simp) ?_
    have w22:i64.wrap ((i12:Int)+1)=(i12:Int)+1:=ZG (by omega) (by omega)
    repeat first|refine cg ?_|simp -dsimp[w22]
    refine Again.go _ ?_ ((ih_f184 x most (i64.wrap (n11+v20)) (i12+1) o hF) _ rfl _ hq)
    exact(Gh.to3 (by simp) (by simp_all))
   ·cases hF
    repeat first|refine cg ?_|simp -dsimp[h16,q17]
    refine Leave.go _ (Gh.to3 (by simp) (by simp_all)) hq
  ·have z15:¬((i12:Int)<(x.els.length:Int)):=auz
   cases hF
   repeat first|refine cg ?_|simp -dsimp[h13,q14,z15]
   refine Leave.go _ (Gh.to3 (by simp) (by simp_all)) hq
 ·intro _f_f182 _f_f183 ih_f182 ih_f183 x most n i o hF
  intro c hc Q hq
  obtain rfl:c=_:=ZL hc rfl
  refine ALoopU.know fun hk hs=> ?_
  have d0:=hs 0 _ rfl
  simp -dsimp[Blk.bnd]at d0
  clear hk hs
  refine ALoopU.enter ?_
  repeat first|refine cg ?_|simp -dsimp
  revert hF;refine abr.sp ?_ ?_<;>intro h1 q2 hF
  ·have z3:((i:Int)<(x.branches.length:Int)):=auz
   repeat first|refine cg ?_|simp -dsimp[h1,z3]
   revert hF;refine abr.sp ?_ ?_<;>intro h4 q5 hF
   ·have hF:=ob hF;obtain⟨x6,e7,hF⟩:=hF
    have le7:=ZB e7
    repeat first|refine cg ?_|simp -dsimp[h4,↓e7]
    have hF:=ob hF;obtain⟨v,e8,hF⟩:=hF
    refine((ih_f182 x6.tree (i64.wrap (most-n)) v e8)).goW (by simp_all) (by simp) ?_
    have w9:i64.wrap ((i:Int)+1)=(i:Int)+1:=ZG (by omega) (by omega)
    repeat first|refine cg ?_|simp -dsimp[w9]
    refine Again.go _ ?_ ((ih_f183 x most (i64.wrap (n+v)) (i+1) o hF) _ rfl _ hq)
    exact(Gh.to3 (by simp) (by simp_all))
   ·cases hF
    repeat first|refine cg ?_|simp -dsimp[h4,q5]
    refine Leave.go _ (Gh.to3 (by simp) (by simp_all)) hq
  ·have z3:¬((i:Int)<(x.branches.length:Int)):=auz
   cases hF
   repeat first|refine cg ?_|simp -dsimp[h1,q2,z3]
   refine Leave.go _ (Gh.to3 (by simp) (by simp_all)) hq
theorem CC.f185  :(∀(x:Tree) (r:Bool),F.f185 x=some r->PureCall Tryz.prog B 61 [.agg [li x.op,li x.clause,am PathBind.c x.binds,am cI x.path,am Branch.c x.branches,am Tree.c x.els]] (.lit (.bool r)))/\
  (∀(x:Tree) (i:Nat) (o:Lo Bool Unit),F.f186 x i=some o->∀(c:Code),ZY [1,1,0,1,0,0] (ZJ Tryz.f61)=some c->∀(Q:Exit->ASt->Prop),o.post (fun r=>∀st,ZAh Tryz.prog Tryz.f61 (fun r' _=>r'.le (.lit (.bool r))) .ret st->Q .ret st) (fun s=>Q (.exit 0) ⟨[(1,.ptr 0 0)],[.cells [li x.op,li x.clause,am PathBind.c x.binds,am cI x.path,am Branch.c x.branches,am Tree.c x.els]]⟩)->ALoopU Tryz.prog B 0 50 (hold c .mk) ⟨[(1,.ptr 0 0),(3,li (i:Int))],[.cells [li x.op,li x.clause,am PathBind.c x.binds,am cI x.path,am Branch.c x.branches,am Tree.c x.els]]⟩ (hold Q .mk)):=by
 refine F.f185.mutual_partial_correctness 
  _ _
  ?_ ?_
 ·intro _f_f185 _f_f186 ih_f185 ih_f186 x r hF
  refine PureCall.enterLe Tryz.func61 (by kernel_rfl) rfl Tryz.ntmps61 (by simp) (by simp) ?_
  repeat first|refine cg ?_|simp -dsimp
  revert hF;refine abr.ns ?_ ?_<;>intro h1 q2 hF
  ·repeat first|refine cg ?_|simp -dsimp[h1,q2]
   revert hF;refine abr.ns ?_ ?_<;>intro h3 q4 hF
   ·repeat first|refine cg ?_|simp -dsimp[h1,q2,h3,q4]
    revert hF;refine abr.ns ?_ ?_<;>intro h5 q6 hF
    ·have z7:¬(1<(x.els.length:Int)):=auz
     repeat first|refine cg ?_|simp -dsimp[h1,q2,h3,q4,h5,q6,z7]
     revert hF;refine abr.sp ?_ ?_<;>intro h8 q9 hF
     ·have z10:(10<(x.branches.length:Int)):=auz
      cases hF
      repeat first|refine cg ?_|simp -dsimp[h1,q2,h3,q4,h5,q6,z7,h8,z10]
     ·have z10:¬(10<(x.branches.length:Int)):=auz
      repeat first|refine cg ?_|simp -dsimp[h1,q2,h3,q4,h5,q6,z7,h8,q9,z10]
      have hF:=ob hF;obtain⟨o',ho20,hF⟩:=hF
      refine ALoop.goU _ ?_ ((ih_f186 x 0 o' ho20) _ rfl _ ?_)
      ·exact(Gh.to3 (by simp) (by simp -dsimp[h1,q2,h3,q4,h5,q6,z7,h8,q9,z10]))
      rcases o' with r0|sx
      ·dsimp only at hF
       cases hF
       intro st h
       simpa using h
      ·dsimp only at hF
       repeat first|refine cg ?_|simp -dsimp
       revert hF;refine abr.ns ?_ ?_<;>intro h21 q22 hF
       ·have z23:¬((x.els.length:Int)=0):=auz
        have hF:=ob hF;obtain⟨x24,e25,hF⟩:=hF
        have le25:=ZB e25
        repeat first|refine cg ?_|simp -dsimp[h21,q22,z23,↓e25]
        have hF:=ob hF;obtain⟨v26,e27,hF⟩:=hF
        refine((ih_f185 x24 v26 e27)).goW (by simp[h21,q22,z23,↓e25]) (by simp) ?_
        cases hF
        repeat first|refine cg ?_|simp -dsimp[h21,q22,z23,↓e25]
       ·have z23:((x.els.length:Int)=0):=auz
        cases hF
        repeat first|refine cg ?_|simp -dsimp[h21,q22,z23]
    ·have z7:(1<(x.els.length:Int)):=auz
     cases hF
     repeat first|refine cg ?_|simp -dsimp[h1,q2,h3,q4,h5,q6,z7]
   ·cases hF
    repeat first|refine cg ?_|simp -dsimp[h1,q2,h3,q4]
  ·cases hF
   repeat first|refine cg ?_|simp -dsimp[h1,q2]
 ·intro _f_f185 _f_f186 ih_f185 ih_f186 x i o hF
  intro c hc Q hq
  obtain rfl:c=_:=ZL hc rfl
  refine ALoopU.know fun hk hs=> ?_
  have d0:=hs 0 _ rfl
  simp -dsimp[Blk.bnd]at d0
  clear hk hs
  refine ALoopU.enter ?_
  repeat first|refine cg ?_|simp -dsimp
  revert hF;refine abr.sp ?_ ?_<;>intro h11 q12 hF
  ·have z13:((i:Int)<(x.branches.length:Int)):=auz
   have hF:=ob hF;obtain⟨x14,e15,hF⟩:=hF
   have le15:=ZB e15
   repeat first|refine cg ?_|simp -dsimp[h11,z13,↓e15]
   have hF:=ob hF;obtain⟨v,e16,hF⟩:=hF
   refine((ih_f185 x14.tree v e16)).goW (by simp[h11,z13,↓e15]) (by simp) ?_
   repeat first|refine cg ?_|simp -dsimp[h11,z13,↓e15]
   revert hF;refine abr.ns (fun h17 q18 hF=> ?_) (fun h17 q18 hF=> ?_)
   ·cases hF
    repeat first|refine cg ?_|simp -dsimp[h11,z13,↓e15,h17,q18]
    refine Leave.go _ (Gh.refl _) (hq _ ?_)
    repeat first|refine cg ?_|simp -dsimp[h11,z13,↓e15,h17,q18]
   ·have w19:i64.wrap ((i:Int)+1)=(i:Int)+1:=ZG (by omega) (by omega)
    repeat first|refine cg ?_|simp -dsimp[h11,z13,↓e15,h17,q18,w19]
    refine Again.go _ ?_ ((ih_f186 x (i+1) o hF) _ rfl _ hq)
    exact(Gh.to3 (by simp) (by simp -dsimp[h11,z13,↓e15,h17,q18,w19]))
  ·have z13:¬((i:Int)<(x.branches.length:Int)):=auz
   cases hF
   repeat first|refine cg ?_|simp -dsimp[h11,q12,z13]
   refine Leave.go _ (Gh.to3 (by simp) (by simp -dsimp[h11,q12,z13])) hq
theorem CC.f187 (list:List PathBind):(∀(out:List PathBind) (i:Nat) (o:List PathBind),F.f187 list out i=some o->∀(c:Code),ZY [1,1,0,1,0,0] (ZJ Tryz.f117)=some c->∀(Q:Exit->ASt->Prop),(Q (.exit 0) ⟨[(3,.own 0 (List.length (α:=PathBind) o))],[.elems 2 (List.map PathBind.c o)]⟩)->ALoopU Tryz.prog B 0 29 (hold c .mk) ⟨[(0,am PathBind.c list),(3,.own 0 (List.length (α:=PathBind) out)),(4,li (i:Int))],[.elems 2 (List.map PathBind.c out)]⟩ (hold Q .mk)):=by
 refine F.f187.partial_correctness list
  _
  ?_
 ·intro _f_f187 ih_f187 out i o hF
  intro c hc Q hq
  obtain rfl:c=_:=ZL hc rfl
  refine ALoopU.know fun hk hs=> ?_
  have b0:=hk 0
  simp -dsimp at b0
  have d0:=hs 0 _ rfl
  simp -dsimp[Blk.bnd]at d0
  clear hk hs
  refine ALoopU.enter ?_
  repeat first|refine cg ?_|simp -dsimp
  revert hF;refine abr.sp ?_ ?_<;>intro h1 q2 hF
  ·have z3:((i:Int)<(list.length:Int)):=auz
   repeat first|refine cg ?_|simp -dsimp[h1,z3]
   refine ADraw.eff [1000104] [(0,4),(0,2),(0,2),(0,2),(0,2),(0,2),(0,5),(0,1),(0,1),(0,1),(0,1),(0,1),(0,5),(0,5),(0,5),(0,5),(5,5)] [1,1,1,0,0,0,1,1,1,0,0,0,1,1,1,1,1] follows (by kernel_rfl) (by kernel_rfl) (by kernel_rfl) ?_
   have hF:=ob hF;obtain⟨x,e4,hF⟩:=hF
   have le4:=ZB e4
   have hF:=oc hF;obtain⟨c5,hF⟩:=hF
   have hF:=oc hF;obtain⟨c6,hF⟩:=hF
   have w7:i64.wrap ((i:Int)+1)=(i:Int)+1:=ZG (by omega) (by omega)
   repeat first|refine cg ?_|simp -dsimp[↓e4,w7]
   refine Again.go _ ?_ ((ih_f187 (out++[x]) (i+1) o hF) _ rfl _ hq)
   exact(Gh.to3 (by simp) (by simp_all))
  ·have z3:¬((i:Int)<(list.length:Int)):=auz
   cases hF
   repeat first|refine cg ?_|simp -dsimp[h1,q2,z3]
   refine Leave.go _ (Gh.to3 (by simp) (by simp_all)) hq
theorem C.f188 (list:List PathBind)(r:List PathBind)(hF:F.f188 list=some r):PureCall Tryz.prog B 117 [am PathBind.c list] (am PathBind.c r):=by
 unfold F.f188 at hF
 refine PureCall.enterLe Tryz.func117 (by kernel_rfl) rfl Tryz.ntmps117 (by simp) (by simp) ?_
 repeat first|refine cg ?_|simp -dsimp
 have hF:=ob hF;obtain⟨o',ho8,hF⟩:=hF
 refine ALoop.goU _ ?_ (((CC.f187 B hB1 hB2 list) [] 0 o' ho8) _ rfl _ ?_)
 ·exact(Gh.to3 (by simp) (by simp -dsimp))
 cases hF
 repeat first|refine cg ?_|simp -dsimp
theorem C.f189  (r:Int)(hF:F.f189=some r):PureCall Tryz.prog B 118 [] (li r):=by
 unfold F.f189 at hF
 refine PureCall.enterLe Tryz.func118 (by kernel_rfl) rfl Tryz.ntmps118 (by simp) (by simp) ?_
 cases hF
 repeat first|refine cg ?_|simp -dsimp
theorem CC.f190 (a:List Int)(b:List Int):(∀(i:Nat) (o:Lo Bool Unit),F.f190 a b i=some o->∀(c:Code),ZY [1,1,0,1,0,0] (ZJ Tryz.f162)=some c->∀(Q:Exit->ASt->Prop),o.post (fun r=>∀st,ZAh Tryz.prog Tryz.f162 (fun r' _=>r'.le (.lit (.bool r))) .ret st->Q .ret st) (fun s=>Q (.exit 0) ⟨[],[]⟩)->ALoopU Tryz.prog B 0 26 (hold c .mk) ⟨[(0,am cI a),(1,am cI b),(5,li (i:Int))],[]⟩ (hold Q .mk)):=by
 refine F.f190.partial_correctness a b
  _
  ?_
 ·intro _f_f190 ih_f190 i o hF
  intro c hc Q hq
  obtain rfl:c=_:=ZL hc rfl
  refine ALoopU.know fun hk hs=> ?_
  have b0:=hk 0
  simp -dsimp at b0
  have b1:=hk 1
  simp -dsimp at b1
  clear hk hs
  refine ALoopU.enter ?_
  repeat first|refine cg ?_|simp -dsimp
  revert hF;refine abr.sp ?_ ?_<;>intro h4 q5 hF
  ·have z6:((i:Int)<(a.length:Int)):=auz
   repeat first|refine cg ?_|simp -dsimp[h4,z6]
   refine ADraw.simple follows (by kernel_rfl) (by kernel_rfl) ?_
   have hF:=ob hF;obtain⟨x,e7,hF⟩:=hF
   have le7:=ZB e7
   have hF:=ob hF;obtain⟨x8,e9,hF⟩:=hF
   have le9:=ZB e9
   repeat first|refine cg ?_|simp -dsimp[↓e7,↓e9]
   revert hF;refine abr.ns ?_ ?_<;>intro h10 q11 hF
   ·cases hF
    repeat first|refine cg ?_|simp -dsimp[h10,q11]
    refine Leave.go _ (Gh.refl _) (hq _ ?_)
    repeat first|refine cg ?_|simp -dsimp
   ·have w12:i64.wrap ((i:Int)+1)=(i:Int)+1:=ZG (by omega) (by omega)
    repeat first|refine cg ?_|simp -dsimp[w12]
    refine Again.go _ ?_ ((ih_f190 (i+1) o hF) _ rfl _ hq)
    exact(Gh.to3 (by simp) (by simp_all))
  ·have z6:¬((i:Int)<(a.length:Int)):=auz
   cases hF
   repeat first|refine cg ?_|simp -dsimp[h4,q5,z6]
   refine Leave.go _ (Gh.to3 (by simp) (by simp_all)) hq
theorem C.f191 (a:List Int)(b:List Int)(r:Bool)(hF:F.f191 a b=some r):PureCall Tryz.prog B 162 [am cI a,am cI b] (.lit (.bool r)):=by
 unfold F.f191 at hF
 refine PureCall.enterLe Tryz.func162 (by kernel_rfl) rfl Tryz.ntmps162 (by simp) (by simp) ?_
 repeat first|refine cg ?_|simp -dsimp
 revert hF;refine abr.ns ?_ ?_<;>intro h1 q2 hF
 ·have z3:¬((a.length:Int)=(b.length:Int)):=auz
  cases hF
  repeat first|refine cg ?_|simp -dsimp[h1,q2,z3]
 ·have z3:((a.length:Int)=(b.length:Int)):=auz
  repeat first|refine cg ?_|simp -dsimp
  have hF:=ob hF;obtain⟨o',ho13,hF⟩:=hF
  refine ALoop.goU _ ?_ (((CC.f190 B hB1 hB2 a b) 0 o' ho13) _ rfl _ ?_)
  ·exact(Gh.to3 (by simp) (by simp_all))
  rcases o' with r0|sx
  ·dsimp only at hF
   cases hF
   intro st h
   simpa using h
  ·dsimp only at hF
   cases hF
   repeat first|refine cg ?_|simp -dsimp
theorem CC.f192 (a:List PathBind)(b:List PathBind):(∀(i:Nat) (o:Lo Bool Unit),F.f192 a b i=some o->∀(c:Code),ZY [1,1,0,1,0,0] (ZJ Tryz.f161)=some c->∀(Q:Exit->ASt->Prop),o.post (fun r=>∀st,ZAh Tryz.prog Tryz.f161 (fun r' _=>r'.le (.lit (.bool r))) .ret st->Q .ret st) (fun s=>Q (.exit 0) ⟨[],[]⟩)->ALoopU Tryz.prog B 0 42 (hold c .mk) ⟨[(0,am PathBind.c a),(1,am PathBind.c b),(5,li (i:Int))],[]⟩ (hold Q .mk)):=by
 refine F.f192.partial_correctness a b
  _
  ?_
 ·intro _f_f192 ih_f192 i o hF
  intro c hc Q hq
  obtain rfl:c=_:=ZL hc rfl
  refine ALoopU.know fun hk hs=> ?_
  have b0:=hk 0
  simp -dsimp at b0
  have b1:=hk 1
  simp -dsimp at b1
  clear hk hs
  refine ALoopU.enter ?_
  repeat first|refine cg ?_|simp -dsimp
  revert hF;refine abr.sp ?_ ?_<;>intro h4 q5 hF
  ·have z6:((i:Int)<(a.length:Int)):=auz
   repeat first|refine cg ?_|simp -dsimp[h4,z6]
   refine ADraw.simple follows (by kernel_rfl) (by kernel_rfl) ?_
   have hF:=ob hF;obtain⟨x,e7,hF⟩:=hF
   have le7:=ZB e7
   have hF:=ob hF;obtain⟨x8,e9,hF⟩:=hF
   have le9:=ZB e9
   repeat first|refine cg ?_|simp -dsimp[h4,z6,↓e7,↓e9]
   revert hF;refine abr.sp ?_ ?_<;>intro h10 q11 hF
   ·repeat first|refine cg ?_|simp -dsimp[h4,z6,↓e7,↓e9,h10]
    have hF:=ob hF;obtain⟨v,e12,hF⟩:=hF
    refine((C.f191 B hB1 hB2 x.path x8.path v e12)).pgoW (by simp[h4,z6,↓e7,↓e9,h10]) (by simp) ?_
    repeat first|refine cg ?_|simp -dsimp[h4,z6,↓e7,↓e9,h10]
    revert hF;refine abr.ns (fun h13 q14 hF=> ?_) (fun h13 q14 hF=> ?_)
    ·cases hF
     repeat first|refine cg ?_|simp -dsimp[h4,z6,↓e7,↓e9,h10,h13,q14]
     refine Leave.go _ (Gh.refl _) (hq _ ?_)
     repeat first|refine cg ?_|simp -dsimp[h4,z6,↓e7,↓e9,h10,h13,q14]
    ·have w15:i64.wrap ((i:Int)+1)=(i:Int)+1:=ZG (by omega) (by omega)
     repeat first|refine cg ?_|simp -dsimp[h4,z6,↓e7,↓e9,h10,h13,q14,w15]
     refine Again.go _ ?_ ((ih_f192 (i+1) o hF) _ rfl _ hq)
     exact(Gh.to3 (by simp) (by simp -dsimp[h4,z6,↓e7,↓e9,h10,h13,q14,w15]))
   ·cases hF
    repeat first|refine cg ?_|simp -dsimp[h4,z6,↓e7,↓e9,h10,q11]
    refine Leave.go _ (Gh.refl _) (hq _ ?_)
    repeat first|refine cg ?_|simp -dsimp[h4,z6,↓e7,↓e9,h10,q11]
  ·have z6:¬((i:Int)<(a.length:Int)):=auz
   cases hF
   repeat first|refine cg ?_|simp -dsimp[h4,q5,z6]
   refine Leave.go _ (Gh.to3 (by simp) (by simp -dsimp[h4,q5,z6])) hq
theorem C.f193 (a:List PathBind)(b:List PathBind)(r:Bool)(hF:F.f193 a b=some r):PureCall Tryz.prog B 161 [am PathBind.c a,am PathBind.c b] (.lit (.bool r)):=by
 unfold F.f193 at hF
 refine PureCall.enterLe Tryz.func161 (by kernel_rfl) rfl Tryz.ntmps161 (by simp) (by simp) ?_
 repeat first|refine cg ?_|simp -dsimp
 revert hF;refine abr.ns ?_ ?_<;>intro h1 q2 hF
 ·have z3:¬((a.length:Int)=(b.length:Int)):=auz
  cases hF
  repeat first|refine cg ?_|simp -dsimp[h1,q2,z3]
 ·have z3:((a.length:Int)=(b.length:Int)):=auz
  repeat first|refine cg ?_|simp -dsimp
  have hF:=ob hF;obtain⟨o',ho16,hF⟩:=hF
  refine ALoop.goU _ ?_ (((CC.f192 B hB1 hB2 a b) 0 o' ho16) _ rfl _ ?_)
  ·exact(Gh.to3 (by simp) (by simp_all))
  rcases o' with r0|sx
  ·dsimp only at hF
   cases hF
   intro st h
   simpa using h
  ·dsimp only at hF
   cases hF
   repeat first|refine cg ?_|simp -dsimp
theorem CC.f194 (a:Vl.Node)(b:Vl.Node):(∀(i:Nat) (o:Lo Bool Unit),F.f194 a b i=some o->∀(c:Code),ZY [1,1,0,1,0,0] (ZJ Tryz.f119)=some c->∀(Q:Exit->ASt->Prop),o.post (fun r=>∀st,ZAh Tryz.prog Tryz.f119 (fun r' _=>r'.le (.lit (.bool r))) .ret st->Q .ret st) (fun s=>Q (.exit 0) ⟨[],[]⟩)->ALoopU Tryz.prog B 0 68 (hold c .mk) ⟨[(2,.ptr 0 0),(3,.ptr 1 0),(5,li (i:Int))],[.cells [li a.op,li a.clause,am PathBind.c a.binds,am cI a.path,am Vl.Edge.c a.edges,li a.els],.cells [li b.op,li b.clause,am PathBind.c b.binds,am cI b.path,am Vl.Edge.c b.edges,li b.els]]⟩ (hold Q .mk)):=by
 refine F.f194.partial_correctness a b
  _
  ?_
 ·intro _f_f194 ih_f194 i o hF
  intro c hc Q hq
  obtain rfl:c=_:=ZL hc rfl
  refine ALoopU.know fun hk hs=> ?_
  have d0:=hs 0 _ rfl
  simp -dsimp[Blk.bnd]at d0
  have d1:=hs 1 _ rfl
  simp -dsimp[Blk.bnd]at d1
  clear hk hs
  refine ALoopU.enter ?_
  repeat first|refine cg ?_|simp -dsimp
  revert hF;refine abr.sp ?_ ?_<;>intro h17 q18 hF
  ·have z19:((i:Int)<(a.edges.length:Int)):=auz
   repeat first|refine cg ?_|simp -dsimp[h17,z19]
   refine ADraw.simple follows (by kernel_rfl) (by kernel_rfl) ?_
   have hF:=ob hF;obtain⟨x,e20,hF⟩:=hF
   have le20:=ZB e20
   have hF:=ob hF;obtain⟨x21,e22,hF⟩:=hF
   have le22:=ZB e22
   repeat first|refine cg ?_|simp -dsimp[↓e20,↓e22]
   revert hF;refine abr.ns (fun h23 q24 hF=> ?_) (fun h23 q24 hF=> ?_)
   ·cases hF
    repeat first|refine cg ?_|simp -dsimp[h23,q24]
    refine Leave.go _ (Gh.refl _) (hq _ ?_)
    repeat first|refine cg ?_|simp -dsimp
   ·have w25:i64.wrap ((i:Int)+1)=(i:Int)+1:=ZG (by omega) (by omega)
    repeat first|refine cg ?_|simp -dsimp[w25]
    refine Again.go _ ?_ ((ih_f194 (i+1) o hF) _ rfl _ hq)
    exact(Gh.to3 (by simp) (by simp_all))
  ·have z19:¬((i:Int)<(a.edges.length:Int)):=auz
   cases hF
   repeat first|refine cg ?_|simp -dsimp[h17,q18,z19]
   refine Leave.go _ (Gh.to3 (by simp) (by simp_all)) hq
theorem C.f195 (a:Vl.Node)(b:Vl.Node)(r:Bool)(hF:F.f195 a b=some r):PureCall Tryz.prog B 119 [.agg [li a.op,li a.clause,am PathBind.c a.binds,am cI a.path,am Vl.Edge.c a.edges,li a.els],.agg [li b.op,li b.clause,am PathBind.c b.binds,am cI b.path,am Vl.Edge.c b.edges,li b.els]] (.lit (.bool r)):=by
 unfold F.f195 at hF
 refine PureCall.enterLe Tryz.func119 (by kernel_rfl) rfl Tryz.ntmps119 (by simp) (by simp) ?_
 repeat first|refine cg ?_|simp -dsimp
 revert hF;refine abr.sp ?_ ?_<;>intro h1 q2 hF
 ·repeat first|refine cg ?_|simp -dsimp[h1]
  revert hF;refine abr.sp ?_ ?_<;>intro h3 q4 hF
  ·repeat first|refine cg ?_|simp -dsimp[h1,h3]
   revert hF;refine abr.sp ?_ ?_<;>intro h5 q6 hF
   ·repeat first|refine cg ?_|simp -dsimp[h1,h3,h5]
    have hF:=ob hF;obtain⟨v,e7,hF⟩:=hF
    refine((C.f193 B hB1 hB2 a.binds b.binds v e7)).goW (by simp[h1,h3,h5]) (by simp) ?_
    repeat first|refine cg ?_|simp -dsimp[h1,h3,h5]
    revert hF;refine abr.sp (fun h8 q9 hF=> ?_) (fun h8 q9 hF=> ?_)
    ·repeat first|refine cg ?_|simp -dsimp[h1,h3,h5,h8]
     have hF:=ob hF;obtain⟨v10,e11,hF⟩:=hF
     refine((C.f191 B hB1 hB2 a.path b.path v10 e11)).goW (by simp[h1,h3,h5,h8]) (by simp) ?_
     repeat first|refine cg ?_|simp -dsimp[h1,h3,h5,h8]
     revert hF;refine abr.sp (fun h12 q13 hF=> ?_) (fun h12 q13 hF=> ?_)
     ·repeat first|refine cg ?_|simp -dsimp[h1,h3,h5,h8,h12]
      revert hF;refine abr.ns ?_ ?_<;>intro h14 q15 hF
      ·have z16:¬((a.edges.length:Int)=(b.edges.length:Int)):=auz
       cases hF
       repeat first|refine cg ?_|simp -dsimp[h1,h3,h5,h8,h12,h14,q15,z16]
      ·have z16:((a.edges.length:Int)=(b.edges.length:Int)):=auz
       repeat first|refine cg ?_|simp -dsimp[h1,h3,h5,h8,h12,h14,q15,z16]
       have hF:=ob hF;obtain⟨o',ho26,hF⟩:=hF
       refine ALoop.goU _ ?_ (((CC.f194 B hB1 hB2 a b) 0 o' ho26) _ rfl _ ?_)
       ·exact(Gh.to3 (by simp) (by simp -dsimp[h1,h3,h5,h8,h12,h14,q15,z16]))
       rcases o' with r0|sx
       ·dsimp only at hF
        cases hF
        intro st h
        simpa using h
       ·dsimp only at hF
        cases hF
        repeat first|refine cg ?_|simp -dsimp
     ·cases hF
      repeat first|refine cg ?_|simp -dsimp[h1,h3,h5,h8,h12,q13]
    ·cases hF
     repeat first|refine cg ?_|simp -dsimp[h1,h3,h5,h8,q9]
   ·cases hF
    repeat first|refine cg ?_|simp -dsimp[h1,h3,h5,q6]
  ·cases hF
   repeat first|refine cg ?_|simp -dsimp[h1,h3,q4]
 ·cases hF
  repeat first|refine cg ?_|simp -dsimp[h1,q2]
theorem CC.f196 (x:Tree)(v:List PathBind)(o':(List Vl.Edge)×(List Vl.Node))(v21:(List Vl.Node)×Int):(∀(i23:Nat) (o:Lo ((List Vl.Node)×Int) Unit),F.f196 x v o' v21 i23=some o->∀(c:Code),ZY [1,1,1,1,0,1,0,0] (ZJ Tryz.f62)=some c->∀(Q:Exit->ASt->Prop),o.post (fun r=>∀st,ZGe Tryz.prog Tryz.f62 (hold (fun r' σ'=>r'.le (.tup [.own 0 (List.length (α:=Vl.Node) r.1),li r.2])/\ZD8 σ' [.elems 6 (List.map Vl.Node.c r.1)]) .mk) .ret st->Q .ret st) (fun s=>Q (.exit 2) ⟨[(0,.own 0 (List.length (α:=Vl.Node) v21.1)),(6,.ptr 3 0)],[.elems 6 (List.map Vl.Node.c v21.1),.dead,.dead,.cells [li x.op,li x.clause,am PathBind.c v,am cI x.path,.own 4 (List.length (α:=Vl.Edge) o'.1),li v21.2],.elems 4 (List.map Vl.Edge.c o'.1)]⟩)->ALoopU Tryz.prog B 1 106 (hold c .mk) ⟨[(0,.own 0 (List.length (α:=Vl.Node) v21.1)),(6,.ptr 3 0),(12,li (i23:Int))],[.elems 6 (List.map Vl.Node.c v21.1),.dead,.dead,.cells [li x.op,li x.clause,am PathBind.c v,am cI x.path,.own 4 (List.length (α:=Vl.Edge) o'.1),li v21.2],.elems 4 (List.map Vl.Edge.c o'.1)]⟩ (hold Q .mk)):=by
 refine F.f196.partial_correctness x v o' v21
  _
  ?_
 ·intro _f_f196 ih_f196 i23 o hF
  intro c hc Q hq
  obtain rfl:c=_:=ZL hc rfl
  refine ALoopU.know fun hk hs=> ?_
  have d0:=hs 0 _ rfl
  simp -dsimp[Blk.bnd]at d0
  have d3:=hs 3 _ rfl
  simp -dsimp[Blk.bnd]at d3
  have d4:=hs 4 _ rfl
  simp -dsimp[Blk.bnd]at d4
  clear hk hs
  refine ALoopU.enter ?_
  repeat first|refine cg ?_|simp -dsimp
  revert hF;refine abr.sp ?_ ?_<;>intro h24 q25 hF
  ·have z26:((i23:Int)<(v21.1.length:Int)):=auz
   repeat first|refine cg ?_|simp -dsimp[h24,z26]
   refine ADraw.eff [119] [(0,0),(0,0),(0,0),(0,0),(0,0),(0,1)] [1,1,1,1,1,1] follows (by kernel_rfl) (by kernel_rfl) (by kernel_rfl) ?_
   have hF:=ob hF;obtain⟨x27,e28,hF⟩:=hF
   have le28:=ZB e28
   repeat first|refine cg ?_|simp -dsimp[↓e28]
   have hF:=ob hF;obtain⟨v29,e30,hF⟩:=hF
   refine((C.f195 B hB1 hB2 x27 (⟨x.op,x.clause,v,x.path,o'.1,v21.2⟩:Vl.Node) v29 e30)).elend (by simp_all) (by simp -dsimp) ?_
   repeat first|refine cg ?_|simp -dsimp
   revert hF;refine abr.sp (fun h31 q32 hF=> ?_) (fun h31 q32 hF=> ?_)
   ·cases hF
    repeat first|refine cg ?_|simp -dsimp[h31]
    refine Leave.go _ (Gh.refl _) (hq _ ?_)
    repeat first|refine cg ?_|simp -dsimp
   ·have w33:i64.wrap ((i23:Int)+1)=(i23:Int)+1:=ZG (by omega) (by omega)
    repeat first|refine cg ?_|simp -dsimp[q32,w33]
    refine Again.go _ ?_ ((ih_f196 (i23+1) o hF) _ rfl _ hq)
    exact(Gh.to3 (by simp) (by simp_all))
  ·have z26:¬((i23:Int)<(v21.1.length:Int)):=auz
   cases hF
   repeat first|refine cg ?_|simp -dsimp[h24,q25,z26]
   refine Leave.go _ (Gh.to3 (by simp) (by simp_all)) hq
theorem CC.f197 (x:Tree)(v:List PathBind)(v3:Int)(o':(List Vl.Edge)×(List Vl.Node)):(∀(i37:Nat) (o:Lo ((List Vl.Node)×Int) Unit),F.f197 x v v3 o' i37=some o->∀(c:Code),ZY [1,1,1,1,0,1,0,0] (ZJ Tryz.f62)=some c->∀(Q:Exit->ASt->Prop),o.post (fun r=>∀st,ZGe Tryz.prog Tryz.f62 (hold (fun r' σ'=>r'.le (.tup [.own 0 (List.length (α:=Vl.Node) r.1),li r.2])/\ZD8 σ' [.elems 6 (List.map Vl.Node.c r.1)]) .mk) .ret st->Q .ret st) (fun s=>Q (.exit 2) ⟨[(0,.own 0 (List.length (α:=Vl.Node) o'.2)),(6,.ptr 3 0)],[.elems 6 (List.map Vl.Node.c o'.2),.dead,.dead,.cells [li x.op,li x.clause,am PathBind.c v,am cI x.path,.own 4 (List.length (α:=Vl.Edge) o'.1),li v3],.elems 4 (List.map Vl.Edge.c o'.1)]⟩)->ALoopU Tryz.prog B 1 106 (hold c .mk) ⟨[(0,.own 0 (List.length (α:=Vl.Node) o'.2)),(6,.ptr 3 0),(12,li (i37:Int))],[.elems 6 (List.map Vl.Node.c o'.2),.dead,.dead,.cells [li x.op,li x.clause,am PathBind.c v,am cI x.path,.own 4 (List.length (α:=Vl.Edge) o'.1),li v3],.elems 4 (List.map Vl.Edge.c o'.1)]⟩ (hold Q .mk)):=by
 refine F.f197.partial_correctness x v v3 o'
  _
  ?_
 ·intro _f_f197 ih_f197 i37 o hF
  intro c hc Q hq
  obtain rfl:c=_:=ZL hc rfl
  refine ALoopU.know fun hk hs=> ?_
  have d0:=hs 0 _ rfl
  simp -dsimp[Blk.bnd]at d0
  have d3:=hs 3 _ rfl
  simp -dsimp[Blk.bnd]at d3
  have d4:=hs 4 _ rfl
  simp -dsimp[Blk.bnd]at d4
  clear hk hs
  refine ALoopU.enter ?_
  repeat first|refine cg ?_|simp -dsimp
  revert hF;refine abr.sp ?_ ?_<;>intro h38 q39 hF
  ·have z40:((i37:Int)<(o'.2.length:Int)):=auz
   repeat first|refine cg ?_|simp -dsimp[h38,z40]
   refine ADraw.eff [119] [(0,0),(0,0),(0,0),(0,0),(0,0),(0,1)] [1,1,1,1,1,1] follows (by kernel_rfl) (by kernel_rfl) (by kernel_rfl) ?_
   have hF:=ob hF;obtain⟨x41,e42,hF⟩:=hF
   have le42:=ZB e42
   repeat first|refine cg ?_|simp -dsimp[↓e42]
   have hF:=ob hF;obtain⟨v43,e44,hF⟩:=hF
   refine((C.f195 B hB1 hB2 x41 (⟨x.op,x.clause,v,x.path,o'.1,v3⟩:Vl.Node) v43 e44)).elend (by simp_all) (by simp -dsimp) ?_
   repeat first|refine cg ?_|simp -dsimp
   revert hF;refine abr.sp (fun h45 q46 hF=> ?_) (fun h45 q46 hF=> ?_)
   ·cases hF
    repeat first|refine cg ?_|simp -dsimp[h45]
    refine Leave.go _ (Gh.refl _) (hq _ ?_)
    repeat first|refine cg ?_|simp -dsimp
   ·have w47:i64.wrap ((i37:Int)+1)=(i37:Int)+1:=ZG (by omega) (by omega)
    repeat first|refine cg ?_|simp -dsimp[q46,w47]
    refine Again.go _ ?_ ((ih_f197 (i37+1) o hF) _ rfl _ hq)
    exact(Gh.to3 (by simp) (by simp_all))
  ·have z40:¬((i37:Int)<(o'.2.length:Int)):=auz
   cases hF
   repeat first|refine cg ?_|simp -dsimp[h38,q39,z40]
   refine Leave.go _ (Gh.to3 (by simp) (by simp_all)) hq
theorem CC.f198  :(∀(list:List Vl.Node) (x:Tree) (r:(List Vl.Node)×Int),F.f198 list x=some r->BCall Tryz.prog B 62 [.elems 6 (List.map Vl.Node.c list)] [.own 0 (List.length (α:=Vl.Node) list),.agg [li x.op,li x.clause,am PathBind.c x.binds,am cI x.path,am Branch.c x.branches,am Tree.c x.els]] (.tup [.own 0 (List.length (α:=Vl.Node) r.1),li r.2]) [.elems 6 (List.map Vl.Node.c r.1)])/\
  (∀(x:Tree) (v:List PathBind) (v3:Int) (out:List Vl.Edge) (list5:List Vl.Node) (i:Nat) (o:(List Vl.Edge)×(List Vl.Node)),F.f199 x v v3 out list5 i=some o->∀(c:Code),ZY [1,1,0,1,0,0] (ZJ Tryz.f62)=some c->∀(Q:Exit->ASt->Prop),(Q (.exit 0) ⟨[(0,.own 0 (List.length (α:=Vl.Node) o.2)),(3,.ptr 1 0),(6,.ptr 3 0)],[.elems 6 (List.map Vl.Node.c o.2),.cells [li x.op,li x.clause,am PathBind.c x.binds,am cI x.path,am Branch.c x.branches,am Tree.c x.els],.dead,.cells [li x.op,li x.clause,am PathBind.c v,am cI x.path,.own 4 (List.length (α:=Vl.Edge) o.1),li v3],.elems 4 (List.map Vl.Edge.c o.1)]⟩)->ALoopU Tryz.prog B 1 106 (hold c .mk) ⟨[(0,.own 0 (List.length (α:=Vl.Node) list5)),(3,.ptr 1 0),(6,.ptr 3 0),(7,li (i:Int))],[.elems 6 (List.map Vl.Node.c list5),.cells [li x.op,li x.clause,am PathBind.c x.binds,am cI x.path,am Branch.c x.branches,am Tree.c x.els],.dead,.cells [li x.op,li x.clause,am PathBind.c v,am cI x.path,.own 4 (List.length (α:=Vl.Edge) out),li v3],.elems 4 (List.map Vl.Edge.c out)]⟩ (hold Q .mk)):=by
 refine F.f198.mutual_partial_correctness 
  _ _
  ?_ ?_
 ·intro _f_f198 _f_f199 ih_f198 ih_f199 list x r hF
  refine BCall.enter Tryz.func62 (by kernel_rfl) rfl Tryz.ntmps62 (by simp) rfl (by simp) (by simp) (by simp) (by simp) (by simp) (Gh.refl _) ?_
  repeat first|refine cg ?_|simp -dsimp
  refine ADraw.effL [(7,13),(10,13),(12,13)] 13 [1000102] [(0,2),(0,2),(0,2),(0,2),(0,1),(0,1),(0,5),(0,5),(0,1),(0,1),(0,5),(0,5),(0,5),(0,5),(0,5)] [0,2,0,2,0,2,1,1,0,2,1,1,1,1,1] follows (by kernel_rfl) (by kernel_rfl) (by kernel_rfl) (by kernel_rfl) (by intro d hd;cases hd;rfl) ?_
  repeat first|refine cg ?_|simp -dsimp
  have hF:=ob hF;obtain⟨v,e1,hF⟩:=hF
  refine((C.f188 B hB1 hB2 x.binds v e1)).pgoW (by simp) (by simp) ?_
  have hF:=oc hF;obtain⟨c2,hF⟩:=hF
  repeat first|refine cg ?_|simp -dsimp
  have hF:=ob hF;obtain⟨v3,e4,hF⟩:=hF
  refine((C.f189 B hB1 hB2 v3 e4)).pgoW (by simp) (by simp) ?_
  repeat first|refine cg ?_|simp -dsimp
  have hF:=ob hF;obtain⟨o',ho15,hF⟩:=hF
  refine ALoop.goU ⟨[(0,.own 0 (List.length (α:=Vl.Node) list)),(3,.ptr 1 0),(6,.ptr 3 0),(7,.lit (.int .i64 0))],[.elems 6 (List.map Vl.Node.c list),.cells [.lit (.int .i64 x.op),.lit (.int .i64 x.clause),.arr (List.map PathBind.c x.binds),.arr (List.map cI x.path),.arr (List.map Branch.c x.branches),.arr (List.map Tree.c x.els)],.dead,.cells [.lit (.int .i64 x.op),.lit (.int .i64 x.clause),.arr (List.map PathBind.c v),.arr (List.map cI x.path),.own 4 (List.length (α:=Vl.Edge) []),.lit (.int .i64 v3)],.elems 4 (List.map Vl.Edge.c [])]⟩ (by refine Gh.trans (Gh.nilCell 3 4 4 (by simp -dsimp;rfl) (by simp -dsimp)) ?_;exact(Gh.to3 (by simp) (by simp -dsimp))) ?_
  refine(ih_f199 x v v3 [] list 0 o' ho15) _ rfl _ ?_
  repeat first|refine cg ?_|simp -dsimp
  revert hF;refine abr.sp ?_ ?_<;>intro h16 q17 hF
  ·have z18:(0<(x.els.length:Int)):=auz
   have hF:=ob hF;obtain⟨x19,e20,hF⟩:=hF
   have le20:=ZB e20
   repeat first|refine cg ?_|simp -dsimp[h16,z18,↓e20]
   have hF:=ob hF;obtain⟨v21,e22,hF⟩:=hF
   refine((ih_f198 o'.2 x19 v21 e22)).go (pl [0]) (by simp) (by simp) (ZAf _ rfl (by decide)) (by intro i hi hi';simp at hi hi';first|omega|(subst hi';simp[pl])) (by simp_all) (by simp_all) ?_
   repeat first|refine cg ?_|simp -dsimp[↓e20]
   have hF:=ob hF;obtain⟨o'35,ho34,hF⟩:=hF
   refine ALoop.goU _ ?_ (((CC.f196 B hB1 hB2 x v o' v21) 0 o'35 ho34) _ rfl _ ?_)
   ·exact(Gh.to3 (by simp) (by simp_all))
   rcases o'35 with r0|sx
   ·dsimp only at hF
    cases hF
    intro st h
    simpa using h
   ·dsimp only at hF
    have hF:=oc hF;obtain⟨c36,hF⟩:=hF
    cases hF
    repeat first|refine cg ?_|simp -dsimp
  ·have z18:¬(0<(x.els.length:Int)):=auz
   repeat first|refine cg ?_|simp -dsimp[h16,q17,z18]
   have hF:=ob hF;obtain⟨o'49,ho48,hF⟩:=hF
   refine ALoop.goU _ ?_ (((CC.f197 B hB1 hB2 x v v3 o') 0 o'49 ho48) _ rfl _ ?_)
   ·exact(Gh.to3 (by simp) (by simp_all))
   rcases o'49 with r052|sx50
   ·dsimp only at hF
    cases hF
    intro st h
    simpa using h
   ·dsimp only at hF
    have hF:=oc hF;obtain⟨c51,hF⟩:=hF
    cases hF
    repeat first|refine cg ?_|simp -dsimp
 ·intro _f_f198 _f_f199 ih_f198 ih_f199 x v v3 out list5 i o hF
  intro c hc Q hq
  obtain rfl:c=_:=ZL hc rfl
  refine ALoopU.know fun hk hs=> ?_
  have d0:=hs 0 _ rfl
  simp -dsimp[Blk.bnd]at d0
  have d1:=hs 1 _ rfl
  simp -dsimp[Blk.bnd]at d1
  have d3:=hs 3 _ rfl
  simp -dsimp[Blk.bnd]at d3
  have d4:=hs 4 _ rfl
  simp -dsimp[Blk.bnd]at d4
  clear hk hs
  refine ALoopU.enter ?_
  repeat first|refine cg ?_|simp -dsimp
  revert hF;refine abr.sp ?_ ?_<;>intro h6 q7 hF
  ·have z8:((i:Int)<(x.branches.length:Int)):=auz
   have hF:=ob hF;obtain⟨x9,e10,hF⟩:=hF
   have le10:=ZB e10
   repeat first|refine cg ?_|simp -dsimp[h6,z8,↓e10]
   have hF:=ob hF;obtain⟨v11,e12,hF⟩:=hF
   refine((ih_f198 list5 x9.tree v11 e12)).go (pl [0]) (by simp) (by simp) (ZAf _ rfl (by decide)) (by intro i hi hi';simp at hi hi';first|omega|(subst hi';simp[pl])) (by simp_all) (by simp_all) ?_
   repeat first|refine cg ?_|simp -dsimp[↓e10]
   refine ADraw.eff [] [(0,1),(0,1),(0,0),(0,0),(0,0),(0,0),(0,0),(0,0),(0,0),(0,0),(0,0),(0,0),(0,0),(0,0),(0,0),(0,0),(0,0),(0,0),(0,0),(0,0),(0,0),(0,0),(0,3),(0,3),(2,2),(0,3)] [0,2,1,1,1,1,1,1,1,1,1,1,1,1,1,1,1,1,1,1,1,1,1,1,1,1] follows (by kernel_rfl) (by kernel_rfl) (by kernel_rfl) ?_
   have hF:=oc hF;obtain⟨c13,hF⟩:=hF
   have w14:i64.wrap ((i:Int)+1)=(i:Int)+1:=ZG (by omega) (by omega)
   repeat first|refine cg ?_|simp -dsimp[↓e10,w14]
   refine Again.go _ ?_ ((ih_f199 x v v3 (out++[(⟨x9.ctor,x9.n,x9.m,v11.2⟩:Vl.Edge)]) v11.1 (i+1) o hF) _ rfl _ hq)
   exact(Gh.to3 (by simp) (by simp_all))
  ·have z8:¬((i:Int)<(x.branches.length:Int)):=auz
   cases hF
   repeat first|refine cg ?_|simp -dsimp[h6,q7,z8]
   refine Leave.go _ (Gh.to3 (by simp) (by simp_all)) hq
theorem C.f200 (x:Tree)(r:(List Vl.Node)×Bool)(hF:F.f200 x=some r):PureCall Tryz.prog B 20 [.agg [li x.op,li x.clause,am PathBind.c x.binds,am cI x.path,am Branch.c x.branches,am Tree.c x.els]] (.tup [am Vl.Node.c r.1,.lit (.bool r.2)]):=by
 unfold F.f200 at hF
 refine PureCall.enterLe Tryz.func20 (by kernel_rfl) rfl Tryz.ntmps20 (by simp) (by simp) ?_
 repeat first|refine cg ?_|simp -dsimp
 have hF:=ob hF;obtain⟨v,e1,hF⟩:=hF
 refine(((CC.f182 B hB1 hB2).1 x 300 v e1)).goW (by simp) (by simp) ?_
 repeat first|refine cg ?_|simp -dsimp
 revert hF;refine abr.ns ?_ ?_<;>intro h2 q3 hF
 ·repeat first|refine cg ?_|simp -dsimp[h2,q3]
  have hF:=ob hF;obtain⟨v4,e5,hF⟩:=hF
  refine(((CC.f185 B hB1 hB2).1 x v4 e5)).goW (by simp[h2,q3]) (by simp) ?_
  repeat first|refine cg ?_|simp -dsimp[h2,q3]
  revert hF;refine abr.ns (fun h6 q7 hF=> ?_) (fun h6 q7 hF=> ?_)
  ·cases hF
   repeat first|refine cg ?_|simp -dsimp[h2,q3,h6,q7]
  ·repeat first|refine cg ?_|simp -dsimp[h2,q3,h6,q7]
   have hF:=ob hF;obtain⟨v8,e9,hF⟩:=hF
   refine ACall.nilArg 0 6 (by simp) ?_
   repeat first|refine cg ?_|simp -dsimp[h2,q3,h6,q7]
   refine(((CC.f198 B hB1 hB2).1 [] x v8 e9)).go (pl [1]) (by simp) (by simp) (ZAf _ rfl (by decide)) (by intro i hi hi';simp at hi hi';first|omega|(subst hi';simp[pl])) (by simp[h2,q3,h6,q7]) (by simp[h2,q3,h6,q7]) ?_
   cases hF
   repeat first|refine cg ?_|simp -dsimp[h2,q3,h6,q7]
 ·cases hF
  repeat first|refine cg ?_|simp -dsimp[h2,q3]
theorem CC.f201 (a:List Int)(b:List Int):(∀(i:Nat) (o:Lo Bool Unit),F.f201 a b i=some o->∀(c:Code),ZY [1,1,0,1,0,0] (ZJ Tryz.f27)=some c->∀(Q:Exit->ASt->Prop),o.post (fun r=>∀st,ZAh Tryz.prog Tryz.f27 (fun r' _=>r'.le (.lit (.bool r))) .ret st->Q .ret st) (fun s=>Q (.exit 0) ⟨[],[]⟩)->ALoopU Tryz.prog B 0 26 (hold c .mk) ⟨[(0,am cI a),(1,am cI b),(5,li (i:Int))],[]⟩ (hold Q .mk)):=by
 refine F.f201.partial_correctness a b
  _
  ?_
 ·intro _f_f201 ih_f201 i o hF
  intro c hc Q hq
  obtain rfl:c=_:=ZL hc rfl
  refine ALoopU.know fun hk hs=> ?_
  have b0:=hk 0
  simp -dsimp at b0
  have b1:=hk 1
  simp -dsimp at b1
  clear hk hs
  refine ALoopU.enter ?_
  repeat first|refine cg ?_|simp -dsimp
  revert hF;refine abr.sp ?_ ?_<;>intro h4 q5 hF
  ·have z6:((i:Int)<(a.length:Int)):=auz
   repeat first|refine cg ?_|simp -dsimp[h4,z6]
   refine ADraw.simple follows (by kernel_rfl) (by kernel_rfl) ?_
   have hF:=ob hF;obtain⟨x,e7,hF⟩:=hF
   have le7:=ZB e7
   have hF:=ob hF;obtain⟨x8,e9,hF⟩:=hF
   have le9:=ZB e9
   repeat first|refine cg ?_|simp -dsimp[↓e7,↓e9]
   revert hF;refine abr.ns ?_ ?_<;>intro h10 q11 hF
   ·cases hF
    repeat first|refine cg ?_|simp -dsimp[h10,q11]
    refine Leave.go _ (Gh.refl _) (hq _ ?_)
    repeat first|refine cg ?_|simp -dsimp
   ·have w12:i64.wrap ((i:Int)+1)=(i:Int)+1:=ZG (by omega) (by omega)
    repeat first|refine cg ?_|simp -dsimp[w12]
    refine Again.go _ ?_ ((ih_f201 (i+1) o hF) _ rfl _ hq)
    exact(Gh.to3 (by simp) (by simp_all))
  ·have z6:¬((i:Int)<(a.length:Int)):=auz
   cases hF
   repeat first|refine cg ?_|simp -dsimp[h4,q5,z6]
   refine Leave.go _ (Gh.to3 (by simp) (by simp_all)) hq
theorem C.f202 (a:List Int)(b:List Int)(r:Bool)(hF:F.f202 a b=some r):PureCall Tryz.prog B 27 [am cI a,am cI b] (.lit (.bool r)):=by
 unfold F.f202 at hF
 refine PureCall.enterLe Tryz.func27 (by kernel_rfl) rfl Tryz.ntmps27 (by simp) (by simp) ?_
 repeat first|refine cg ?_|simp -dsimp
 revert hF;refine abr.ns ?_ ?_<;>intro h1 q2 hF
 ·have z3:¬((a.length:Int)=(b.length:Int)):=auz
  cases hF
  repeat first|refine cg ?_|simp -dsimp[h1,q2,z3]
 ·have z3:((a.length:Int)=(b.length:Int)):=auz
  repeat first|refine cg ?_|simp -dsimp
  have hF:=ob hF;obtain⟨o',ho13,hF⟩:=hF
  refine ALoop.goU _ ?_ (((CC.f201 B hB1 hB2 a b) 0 o' ho13) _ rfl _ ?_)
  ·exact(Gh.to3 (by simp) (by simp_all))
  rcases o' with r0|sx
  ·dsimp only at hF
   cases hF
   intro st h
   simpa using h
  ·dsimp only at hF
   cases hF
   repeat first|refine cg ?_|simp -dsimp
theorem CC.f203 (a:List Vl.Node)(b:List Vl.Node)(i:Nat)(x:Vl.Node)(x8:Vl.Node):(∀(k:Nat) (o:Lo Bool Unit),F.f203 a b i x x8 k=some o->∀(c:Code),ZY [1,1,0,1,0,0,1,0,0,1,1,1,0,1,0,0] (ZJ Tryz.f21)=some c->∀(Q:Exit->ASt->Prop),o.post (fun r=>∀st,ZAh Tryz.prog Tryz.f21 (fun r' _=>r'.le (.lit (.bool r))) .ret st->Q .ret st) (fun s=>Q (.exit 2) ⟨[(0,am Vl.Node.c a),(1,am Vl.Node.c b),(5,li (i:Int)),(6,.ptr 0 0),(7,.ptr 1 0)],[.cells [li x.op,li x.clause,am PathBind.c x.binds,am cI x.path,am Vl.Edge.c x.edges,li x.els],.cells [li x8.op,li x8.clause,am PathBind.c x8.binds,am cI x8.path,am Vl.Edge.c x8.edges,li x8.els]]⟩)->ALoopU Tryz.prog B 0 128 (hold c .mk) ⟨[(0,am Vl.Node.c a),(1,am Vl.Node.c b),(5,li (i:Int)),(6,.ptr 0 0),(7,.ptr 1 0),(8,li (k:Int))],[.cells [li x.op,li x.clause,am PathBind.c x.binds,am cI x.path,am Vl.Edge.c x.edges,li x.els],.cells [li x8.op,li x8.clause,am PathBind.c x8.binds,am cI x8.path,am Vl.Edge.c x8.edges,li x8.els]]⟩ (hold Q .mk)):=by
 refine F.f203.partial_correctness a b i x x8
  _
  ?_
 ·intro _f_f203 ih_f203 k o hF
  intro c hc Q hq
  obtain rfl:c=_:=ZL hc rfl
  refine ALoopU.know fun hk hs=> ?_
  have b0:=hk 0
  simp -dsimp at b0
  have b1:=hk 1
  simp -dsimp at b1
  have d0:=hs 0 _ rfl
  simp -dsimp[Blk.bnd]at d0
  have d1:=hs 1 _ rfl
  simp -dsimp[Blk.bnd]at d1
  clear hk hs
  refine ALoopU.enter ?_
  repeat first|refine cg ?_|simp -dsimp
  revert hF;refine abr.sp ?_ ?_<;>intro h25 q26 hF
  ·have z27:((k:Int)<(x.binds.length:Int)):=auz
   repeat first|refine cg ?_|simp -dsimp[h25,z27]
   refine ADraw.simple follows (by kernel_rfl) (by kernel_rfl) ?_
   have hF:=ob hF;obtain⟨x28,e29,hF⟩:=hF
   have le29:=ZB e29
   have hF:=ob hF;obtain⟨x30,e31,hF⟩:=hF
   have le31:=ZB e31
   repeat first|refine cg ?_|simp -dsimp[h25,z27,↓e29,↓e31]
   revert hF;refine abr.sp ?_ ?_<;>intro h32 q33 hF
   ·repeat first|refine cg ?_|simp -dsimp[h25,z27,↓e29,↓e31,h32]
    have hF:=ob hF;obtain⟨v34,e35,hF⟩:=hF
    refine((C.f202 B hB1 hB2 x28.path x30.path v34 e35)).pgoW (by simp[h25,z27,↓e29,↓e31,h32]) (by simp) ?_
    repeat first|refine cg ?_|simp -dsimp[h25,z27,↓e29,↓e31,h32]
    revert hF;refine abr.ns (fun h36 q37 hF=> ?_) (fun h36 q37 hF=> ?_)
    ·cases hF
     repeat first|refine cg ?_|simp -dsimp[h25,z27,↓e29,↓e31,h32,h36,q37]
     refine Leave.go _ (Gh.refl _) (hq _ ?_)
     repeat first|refine cg ?_|simp -dsimp[h25,z27,↓e29,↓e31,h32,h36,q37]
    ·have w38:i64.wrap ((k:Int)+1)=(k:Int)+1:=ZG (by omega) (by omega)
     repeat first|refine cg ?_|simp -dsimp[h25,z27,↓e29,↓e31,h32,h36,q37,w38]
     refine Again.go _ ?_ ((ih_f203 (k+1) o hF) _ rfl _ hq)
     exact(Gh.to3 (by simp) (by simp -dsimp[h25,z27,↓e29,↓e31,h32,h36,q37,w38]))
   ·cases hF
    repeat first|refine cg ?_|simp -dsimp[h25,z27,↓e29,↓e31,h32,q33]
    refine Leave.go _ (Gh.refl _) (hq _ ?_)
    repeat first|refine cg ?_|simp -dsimp[h25,z27,↓e29,↓e31,h32,q33]
  ·have z27:¬((k:Int)<(x.binds.length:Int)):=auz
   cases hF
   repeat first|refine cg ?_|simp -dsimp[h25,q26,z27]
   refine Leave.go _ (Gh.to3 (by simp) (by simp -dsimp[h25,q26,z27])) hq
theorem CC.f204 (a:List Vl.Node)(b:List Vl.Node)(i:Nat)(x:Vl.Node)(x8:Vl.Node):(∀(k40:Nat) (o:Lo Bool Unit),F.f204 a b i x x8 k40=some o->∀(c:Code),ZY [1,1,0,1,0,0,1,0,0,1,1,1,1,1,0,0] (ZJ Tryz.f21)=some c->∀(Q:Exit->ASt->Prop),o.post (fun r=>∀st,ZAh Tryz.prog Tryz.f21 (fun r' _=>r'.le (.lit (.bool r))) .ret st->Q .ret st) (fun s=>Q (.exit 4) ⟨[(0,am Vl.Node.c a),(1,am Vl.Node.c b),(5,li (i:Int))],[]⟩)->ALoopU Tryz.prog B 0 128 (hold c .mk) ⟨[(0,am Vl.Node.c a),(1,am Vl.Node.c b),(5,li (i:Int)),(6,.ptr 0 0),(7,.ptr 1 0),(9,li (k40:Int))],[.cells [li x.op,li x.clause,am PathBind.c x.binds,am cI x.path,am Vl.Edge.c x.edges,li x.els],.cells [li x8.op,li x8.clause,am PathBind.c x8.binds,am cI x8.path,am Vl.Edge.c x8.edges,li x8.els]]⟩ (hold Q .mk)):=by
 refine F.f204.partial_correctness a b i x x8
  _
  ?_
 ·intro _f_f204 ih_f204 k40 o hF
  intro c hc Q hq
  obtain rfl:c=_:=ZL hc rfl
  refine ALoopU.know fun hk hs=> ?_
  have b0:=hk 0
  simp -dsimp at b0
  have b1:=hk 1
  simp -dsimp at b1
  have d0:=hs 0 _ rfl
  simp -dsimp[Blk.bnd]at d0
  have d1:=hs 1 _ rfl
  simp -dsimp[Blk.bnd]at d1
  clear hk hs
  refine ALoopU.enter ?_
  repeat first|refine cg ?_|simp -dsimp
  revert hF;refine abr.sp ?_ ?_<;>intro h41 q42 hF
  ·have z43:((k40:Int)<(x.edges.length:Int)):=auz
   repeat first|refine cg ?_|simp -dsimp[h41,z43]
   refine ADraw.simple follows (by kernel_rfl) (by kernel_rfl) ?_
   have hF:=ob hF;obtain⟨x44,e45,hF⟩:=hF
   have le45:=ZB e45
   have hF:=ob hF;obtain⟨x46,e47,hF⟩:=hF
   have le47:=ZB e47
   repeat first|refine cg ?_|simp -dsimp[↓e45,↓e47]
   revert hF;refine abr.ns (fun h48 q49 hF=> ?_) (fun h48 q49 hF=> ?_)
   ·cases hF
    repeat first|refine cg ?_|simp -dsimp[h48,q49]
    refine Leave.go _ (Gh.refl _) (hq _ ?_)
    repeat first|refine cg ?_|simp -dsimp
   ·have w50:i64.wrap ((k40:Int)+1)=(k40:Int)+1:=ZG (by omega) (by omega)
    repeat first|refine cg ?_|simp -dsimp[w50]
    refine Again.go _ ?_ ((ih_f204 (k40+1) o hF) _ rfl _ hq)
    exact(Gh.to3 (by simp) (by simp_all))
  ·have z43:¬((k40:Int)<(x.edges.length:Int)):=auz
   cases hF
   repeat first|refine cg ?_|simp -dsimp[h41,q42,z43]
   refine Leave.go _ (Gh.to3 (by simp) (by simp_all)) hq
theorem CC.f205 (a:List Vl.Node)(b:List Vl.Node):(∀(i:Nat) (o:Lo Bool Unit),F.f205 a b i=some o->∀(c:Code),ZY [1,1,0,1,0,0] (ZJ Tryz.f21)=some c->∀(Q:Exit->ASt->Prop),o.post (fun r=>∀st,ZAh Tryz.prog Tryz.f21 (fun r' _=>r'.le (.lit (.bool r))) .ret st->Q .ret st) (fun s=>Q (.exit 0) ⟨[],[]⟩)->ALoopU Tryz.prog B 0 128 (hold c .mk) ⟨[(0,am Vl.Node.c a),(1,am Vl.Node.c b),(5,li (i:Int))],[]⟩ (hold Q .mk)):=by
 refine F.f205.partial_correctness a b
  _
  ?_
 ·intro _f_f205 ih_f205 i o hF
  intro c hc Q hq
  obtain rfl:c=_:=ZL hc rfl
  refine ALoopU.know fun hk hs=> ?_
  have b0:=hk 0
  simp -dsimp at b0
  have b1:=hk 1
  simp -dsimp at b1
  clear hk hs
  refine ALoopU.enter ?_
  repeat first|refine cg ?_|simp -dsimp
  revert hF;refine abr.sp ?_ ?_<;>intro h4 q5 hF
  ·have z6:((i:Int)<(a.length:Int)):=auz
   have hF:=ob hF;obtain⟨x,e7,hF⟩:=hF
   have le7:=ZB e7
   have hF:=ob hF;obtain⟨x8,e9,hF⟩:=hF
   have le9:=ZB e9
   repeat first|refine cg ?_|simp -dsimp[h4,z6,↓e7,↓e9]
   revert hF;refine abr.sp ?_ ?_<;>intro h10 q11 hF
   ·repeat first|refine cg ?_|simp -dsimp[h4,z6,↓e7,↓e9,h10]
    revert hF;refine abr.sp ?_ ?_<;>intro h12 q13 hF
    ·repeat first|refine cg ?_|simp -dsimp[h4,z6,↓e7,↓e9,h10,h12]
     revert hF;refine abr.sp ?_ ?_<;>intro h14 q15 hF
     ·repeat first|refine cg ?_|simp -dsimp[h4,z6,↓e7,↓e9,h10,h12,h14]
      have hF:=ob hF;obtain⟨v,e16,hF⟩:=hF
      refine((C.f202 B hB1 hB2 x.path x8.path v e16)).goW (by simp[h4,z6,↓e7,↓e9,h10,h12,h14]) (by simp) ?_
      repeat first|refine cg ?_|simp -dsimp[h4,z6,↓e7,↓e9,h10,h12,h14]
      revert hF;refine abr.sp (fun h17 q18 hF=> ?_) (fun h17 q18 hF=> ?_)
      ·repeat first|refine cg ?_|simp -dsimp[h4,z6,↓e7,↓e9,h10,h12,h14,h17]
       revert hF;refine abr.sp ?_ ?_<;>intro h19 q20 hF
       ·have z21:((x.binds.length:Int)=(x8.binds.length:Int)):=auz
        repeat first|refine cg ?_|simp -dsimp[h4,z6,↓e7,↓e9,h10,h12,h14,h17,h19,z21]
        revert hF;refine abr.ns ?_ ?_<;>intro h22 q23 hF
        ·have z24:¬((x.edges.length:Int)=(x8.edges.length:Int)):=auz
         cases hF
         repeat first|refine cg ?_|simp -dsimp[h4,z6,↓e7,↓e9,h10,h12,h14,h17,h19,z21,h22,q23,z24]
         refine Leave.go _ (Gh.refl _) (hq _ ?_)
         repeat first|refine cg ?_|simp -dsimp[h4,z6,↓e7,↓e9,h10,h12,h14,h17,h19,z21,h22,q23,z24]
        ·have z24:((x.edges.length:Int)=(x8.edges.length:Int)):=auz
         repeat first|refine cg ?_|simp -dsimp[h4,z6,↓e7,↓e9,h10,h12,h14,h17,h19,z21,h22,q23,z24]
         have hF:=ob hF;obtain⟨o',ho39,hF⟩:=hF
         refine ALoop.goU _ ?_ (((CC.f203 B hB1 hB2 a b i x x8) 0 o' ho39) _ rfl _ ?_)
         ·exact(Gh.to3 (by simp) (by simp -dsimp[h4,z6,↓e7,↓e9,h10,h12,h14,h17,h19,z21,h22,q23,z24]))
         rcases o' with r056|sx
         ·dsimp only at hF
          cases hF
          intro st h
          simp -dsimp
          refine Leave.go st (Gh.refl _) (hq st h)
         ·dsimp only at hF
          repeat first|refine cg ?_|simp -dsimp
          have hF:=ob hF;obtain⟨o'52,ho51,hF⟩:=hF
          refine ALoop.goU _ ?_ (((CC.f204 B hB1 hB2 a b i x x8) 0 o'52 ho51) _ rfl _ ?_)
          ·exact(Gh.to3 (by simp) (by simp -dsimp))
          rcases o'52 with r0|sx53
          ·dsimp only at hF
           cases hF
           intro st h
           simp -dsimp
           refine Leave.go st (Gh.refl _) (hq st h)
          ·dsimp only at hF
           have hF:=oc hF;obtain⟨c54,hF⟩:=hF
           have w55:i64.wrap ((i:Int)+1)=(i:Int)+1:=ZG (by omega) (by omega)
           repeat first|refine cg ?_|simp -dsimp[w55]
           refine Again.go _ ?_ ((ih_f205 (i+1) o hF) _ rfl _ hq)
           exact(Gh.to3 (by simp) (by simp -dsimp[w55]))
       ·have z21:¬((x.binds.length:Int)=(x8.binds.length:Int)):=auz
        cases hF
        repeat first|refine cg ?_|simp -dsimp[h4,z6,↓e7,↓e9,h10,h12,h14,h17,h19,q20,z21]
        refine Leave.go _ (Gh.refl _) (hq _ ?_)
        repeat first|refine cg ?_|simp -dsimp[h4,z6,↓e7,↓e9,h10,h12,h14,h17,h19,q20,z21]
      ·cases hF
       repeat first|refine cg ?_|simp -dsimp[h4,z6,↓e7,↓e9,h10,h12,h14,h17,q18]
       refine Leave.go _ (Gh.refl _) (hq _ ?_)
       repeat first|refine cg ?_|simp -dsimp[h4,z6,↓e7,↓e9,h10,h12,h14,h17,q18]
     ·cases hF
      repeat first|refine cg ?_|simp -dsimp[h4,z6,↓e7,↓e9,h10,h12,h14,q15]
      refine Leave.go _ (Gh.refl _) (hq _ ?_)
      repeat first|refine cg ?_|simp -dsimp[h4,z6,↓e7,↓e9,h10,h12,h14,q15]
    ·cases hF
     repeat first|refine cg ?_|simp -dsimp[h4,z6,↓e7,↓e9,h10,h12,q13]
     refine Leave.go _ (Gh.refl _) (hq _ ?_)
     repeat first|refine cg ?_|simp -dsimp[h4,z6,↓e7,↓e9,h10,h12,q13]
   ·cases hF
    repeat first|refine cg ?_|simp -dsimp[h4,z6,↓e7,↓e9,h10,q11]
    refine Leave.go _ (Gh.refl _) (hq _ ?_)
    repeat first|refine cg ?_|simp -dsimp[h4,z6,↓e7,↓e9,h10,q11]
  ·have z6:¬((i:Int)<(a.length:Int)):=auz
   cases hF
   repeat first|refine cg ?_|simp -dsimp[h4,q5,z6]
   refine Leave.go _ (Gh.to3 (by simp) (by simp -dsimp[h4,q5,z6])) hq
theorem C.f206 (a:List Vl.Node)(b:List Vl.Node)(r:Bool)(hF:F.f206 a b=some r):PureCall Tryz.prog B 21 [am Vl.Node.c a,am Vl.Node.c b] (.lit (.bool r)):=by
 unfold F.f206 at hF
 refine PureCall.enterLe Tryz.func21 (by kernel_rfl) rfl Tryz.ntmps21 (by simp) (by simp) ?_
 repeat first|refine cg ?_|simp -dsimp
 revert hF;refine abr.ns ?_ ?_<;>intro h1 q2 hF
 ·have z3:¬((a.length:Int)=(b.length:Int)):=auz
  cases hF
  repeat first|refine cg ?_|simp -dsimp[h1,q2,z3]
 ·have z3:((a.length:Int)=(b.length:Int)):=auz
  repeat first|refine cg ?_|simp -dsimp
  have hF:=ob hF;obtain⟨o'58,ho57,hF⟩:=hF
  refine ALoop.goU _ ?_ (((CC.f205 B hB1 hB2 a b) 0 o'58 ho57) _ rfl _ ?_)
  ·exact(Gh.to3 (by simp) (by simp_all))
  rcases o'58 with r060|sx59
  ·dsimp only at hF
   cases hF
   intro st h
   simpa using h
  ·dsimp only at hF
   cases hF
   repeat first|refine cg ?_|simp -dsimp
theorem C.f207 (e:Vl.Edge)(a1:Int)(r:Bool)(hF:F.f207 e a1=some r):PureCall Tryz.prog B 67 [.agg [li e.ctor,li e.n,li e.m,li e.to],.rptr [li a1] 0] (.lit (.bool r)):=by
 unfold F.f207 at hF
 refine PureCall.enterLe Tryz.func67 (by kernel_rfl) rfl Tryz.ntmps67 (by simp) (by simp) ?_
 repeat first|refine cg ?_|simp -dsimp
 have hF:=ob hF;obtain⟨v,e1,hF⟩:=hF
 refine((C.f157 B hB1 hB2 e.to 0 (i64.wrap (a1-1)) v e1)).goW (by simp) (by simp) ?_
 cases hF
 repeat first|refine cg ?_|simp -dsimp
theorem CC.f208 (s:List Vl.Edge)(k0:Int):(∀(i:Nat) (o:Lo Int Unit),F.f208 s k0 i=some o->∀(c:Code),ZY [1,0,1,0,0] (ZJ Tryz.f120)=some c->∀(Q:Exit->ASt->Prop),o.post (fun r=>∀st,ZAh Tryz.prog Tryz.f120 (fun r' _=>r'.le (li r)) .ret st->Q .ret st) (fun s=>Q (.exit 0) ⟨[],[]⟩)->ALoopU Tryz.prog B 0 19 (hold c .mk) ⟨[(0,am Vl.Edge.c s),(1,.fn (.func 67) [] [.rptr [li k0] 0]),(7,li (s.length:Int)),(8,li (i:Int))],[]⟩ (hold Q .mk)):=by
 refine F.f208.partial_correctness s k0
  _
  ?_
 ·intro _f_f208 ih_f208 i o hF
  intro c hc Q hq
  obtain rfl:c=_:=ZL hc rfl
  refine ALoopU.know fun hk hs=> ?_
  have b0:=hk 0
  simp -dsimp at b0
  clear hk hs
  refine ALoopU.enter ?_
  repeat first|refine cg ?_|simp -dsimp
  revert hF;refine abr.sp ?_ ?_<;>intro h1 q2 hF
  ·have z3:((i:Int)<(s.length:Int)):=auz
   have hF:=ob hF;obtain⟨x,e4,hF⟩:=hF
   have le4:=ZB e4
   repeat first|refine cg ?_|simp -dsimp[h1,z3,↓e4]
   have hF:=ob hF;obtain⟨v,e5,hF⟩:=hF
   refine((C.f207 B hB1 hB2 x k0 v e5)).goW (by simp_all) (by simp) ?_
   repeat first|refine cg ?_|simp -dsimp
   revert hF;refine abr.sp (fun h6 q7 hF=> ?_) (fun h6 q7 hF=> ?_)
   ·cases hF
    repeat first|refine cg ?_|simp -dsimp[h6]
    refine Leave.go _ (Gh.refl _) (hq _ ?_)
    repeat first|refine cg ?_|simp -dsimp
   ·have w8:i64.wrap ((i:Int)+1)=(i:Int)+1:=ZG (by omega) (by omega)
    repeat first|refine cg ?_|simp -dsimp[q7,w8]
    refine Again.go _ ?_ ((ih_f208 (i+1) o hF) _ rfl _ hq)
    exact(Gh.to3 (by simp) (by simp_all))
  ·have z3:¬((i:Int)<(s.length:Int)):=auz
   cases hF
   repeat first|refine cg ?_|simp -dsimp[h1,q2,z3]
   refine Leave.go _ (Gh.to3 (by simp) (by simp_all)) hq
theorem C.f209 (s:List Vl.Edge)(k0:Int)(r:Int)(hF:F.f209 s k0=some r):PureCall Tryz.prog B 120 [am Vl.Edge.c s,.fn (.func 67) [] [.rptr [li k0] 0]] (li r):=by
 unfold F.f209 at hF
 refine PureCall.enterLe Tryz.func120 (by kernel_rfl) rfl Tryz.ntmps120 (by simp) (by simp) ?_
 repeat first|refine cg ?_|simp -dsimp
 have hF:=ob hF;obtain⟨o',ho9,hF⟩:=hF
 refine ALoop.goU _ ?_ (((CC.f208 B hB1 hB2 s k0) 0 o' ho9) _ rfl _ ?_)
 ·exact(Gh.to3 (by simp) (by simp -dsimp))
 rcases o' with r0|sx
 ·dsimp only at hF
  cases hF
  intro st h
  simpa using h
 ·dsimp only at hF
  cases hF
  repeat first|refine cg ?_|simp -dsimp
theorem C.f210 (s:List Vl.Edge)(k0:Int)(r:Bool)(hF:F.f210 s k0=some r):PureCall Tryz.prog B 66 [am Vl.Edge.c s,.fn (.func 67) [] [.rptr [li k0] 0]] (.lit (.bool r)):=by
 unfold F.f210 at hF
 refine PureCall.enterLe Tryz.func66 (by kernel_rfl) rfl Tryz.ntmps66 (by simp) (by simp) ?_
 repeat first|refine cg ?_|simp -dsimp
 have hF:=ob hF;obtain⟨v,e1,hF⟩:=hF
 refine((C.f209 B hB1 hB2 s k0 v e1)).goW (by simp) (by simp) ?_
 cases hF
 repeat first|refine cg ?_|simp -dsimp
theorem CC.f211 (list:List Vl.Node):(∀(i:Nat) (o:Lo Bool Unit),F.f211 list i=some o->∀(c:Code),ZY [1,0,1,0,0] (ZJ Tryz.f23)=some c->∀(Q:Exit->ASt->Prop),o.post (fun r=>∀st,ZAh Tryz.prog Tryz.f23 (fun r' _=>r'.le (.lit (.bool r))) .ret st->Q .ret st) (fun s=>Q (.exit 0) ⟨[(0,am Vl.Node.c list)],[]⟩)->ALoopU Tryz.prog B 0 40 (hold c .mk) ⟨[(0,am Vl.Node.c list),(5,am Vl.Node.c list),(6,li (list.length:Int)),(7,li (i:Int))],[]⟩ (hold Q .mk)):=by
 refine F.f211.partial_correctness list
  _
  ?_
 ·intro _f_f211 ih_f211 i o hF
  intro c hc Q hq
  obtain rfl:c=_:=ZL hc rfl
  refine ALoopU.know fun hk hs=> ?_
  have b0:=hk 0
  simp -dsimp at b0
  have b5:=hk 5
  simp -dsimp at b5
  clear hk hs
  refine ALoopU.enter ?_
  repeat first|refine cg ?_|simp -dsimp
  revert hF;refine abr.sp ?_ ?_<;>intro h1 q2 hF
  ·have z3:((i:Int)<(list.length:Int)):=auz
   have hF:=ob hF;obtain⟨x,e4,hF⟩:=hF
   have le4:=ZB e4
   repeat first|refine cg ?_|simp -dsimp[h1,z3,↓e4]
   have hF:=ob hF;obtain⟨v,e5,hF⟩:=hF
   refine((C.f157 B hB1 hB2 x.op 0 2 v e5)).goW (by simp[h1,z3,↓e4]) (by simp) ?_
   repeat first|refine cg ?_|simp -dsimp[h1,z3,↓e4]
   revert hF;refine abr.sp (fun h6 q7 hF=> ?_) (fun h6 q7 hF=> ?_)
   ·repeat first|refine cg ?_|simp -dsimp[h1,z3,↓e4,h6]
    revert hF;refine abr.ns ?_ ?_<;>intro h8 q9 hF
    ·have z10:¬(10<(x.edges.length:Int)):=auz
     repeat first|refine cg ?_|simp -dsimp[h1,z3,↓e4,h6,h8,q9,z10]
     have hF:=ob hF;obtain⟨v11,e12,hF⟩:=hF
     refine((C.f157 B hB1 hB2 x.els (-1) (i64.wrap ((i:Int) -1)) v11 e12)).goW (by simp[h1,z3,↓e4,h6,h8,q9,z10]) (by simp) ?_
     repeat first|refine cg ?_|simp -dsimp[h1,z3,↓e4,h6,h8,q9,z10]
     revert hF;refine abr.sp (fun h13 q14 hF=> ?_) (fun h13 q14 hF=> ?_)
     ·repeat first|refine cg ?_|simp -dsimp[h1,z3,↓e4,h6,h8,q9,z10,h13]
      have hF:=ob hF;obtain⟨v15,e16,hF⟩:=hF
      refine((C.f210 B hB1 hB2 x.edges (i:Int) v15 e16)).lend (by simp -dsimp[h1,z3,↓e4,h6,h8,q9,z10,h13]) (by simp -dsimp) ?_
      repeat first|refine cg ?_|simp -dsimp[h1,z3,↓e4,h6,h8,q9,z10,h13]
      revert hF;refine abr.sp (fun h17 q18 hF=> ?_) (fun h17 q18 hF=> ?_)
      ·cases hF
       repeat first|refine cg ?_|simp -dsimp[h1,z3,↓e4,h6,h8,q9,z10,h13,h17]
       refine Leave.go _ (Gh.refl _) (hq _ ?_)
       repeat first|refine cg ?_|simp -dsimp[h1,z3,↓e4,h6,h8,q9,z10,h13,h17]
      ·have w19:i64.wrap ((i:Int)+1)=(i:Int)+1:=ZG (by omega) (by omega)
       repeat first|refine cg ?_|simp -dsimp[h1,z3,↓e4,h6,h8,q9,z10,h13,h17,q18,w19]
       refine Again.go _ ?_ ((ih_f211 (i+1) o hF) _ rfl _ hq)
       exact(Gh.to3 (by simp) (by simp -dsimp[h1,z3,↓e4,h6,h8,q9,z10,h13,h17,q18,w19]))
     ·cases hF
      repeat first|refine cg ?_|simp -dsimp[h1,z3,↓e4,h6,h8,q9,z10,h13,q14]
      refine Leave.go _ (Gh.refl _) (hq _ ?_)
      repeat first|refine cg ?_|simp -dsimp[h1,z3,↓e4,h6,h8,q9,z10,h13,q14]
    ·have z10:(10<(x.edges.length:Int)):=auz
     cases hF
     repeat first|refine cg ?_|simp -dsimp[h1,z3,↓e4,h6,h8,q9,z10]
     refine Leave.go _ (Gh.refl _) (hq _ ?_)
     repeat first|refine cg ?_|simp -dsimp[h1,z3,↓e4,h6,h8,q9,z10]
   ·cases hF
    repeat first|refine cg ?_|simp -dsimp[h1,z3,↓e4,h6,q7]
    refine Leave.go _ (Gh.refl _) (hq _ ?_)
    repeat first|refine cg ?_|simp -dsimp[h1,z3,↓e4,h6,q7]
  ·have z3:¬((i:Int)<(list.length:Int)):=auz
   cases hF
   repeat first|refine cg ?_|simp -dsimp[h1,q2,z3]
   refine Leave.go _ (Gh.to3 (by simp) (by simp -dsimp[h1,q2,z3])) hq
theorem C.f212 (list:List Vl.Node)(r:Bool)(hF:F.f212 list=some r):PureCall Tryz.prog B 23 [am Vl.Node.c list] (.lit (.bool r)):=by
 unfold F.f212 at hF
 refine PureCall.enterLe Tryz.func23 (by kernel_rfl) rfl Tryz.ntmps23 (by simp) (by simp) ?_
 repeat first|refine cg ?_|simp -dsimp
 have hF:=ob hF;obtain⟨o',ho20,hF⟩:=hF
 refine ALoop.goU _ ?_ (((CC.f211 B hB1 hB2 list) 0 o' ho20) _ rfl _ ?_)
 ·exact(Gh.to3 (by simp) (by simp -dsimp))
 rcases o' with r0|sx
 ·dsimp only at hF
  cases hF
  intro st h
  simpa using h
 ·dsimp only at hF
  repeat first|refine cg ?_|simp -dsimp
  have hF:=ob hF;obtain⟨v21,e22,hF⟩:=hF
  refine((C.f157 B hB1 hB2 (list.length:Int) 1 300 v21 e22)).goW (by simp) (by simp) ?_
  cases hF
  repeat first|refine cg ?_|simp -dsimp
theorem CC.f213 (list:List Vl.Node)(i:Nat)(out:List Int)(x:Vl.Node):(∀(i5:Nat) (size:Int) (o:Int),F.f213 list i out x i5 size=some o->∀(c:Code),ZY [1,1,0,1,0,0,1,1,0,0,1,1,0,1,0,0] (ZJ Tryz.f63)=some c->∀(Q:Exit->ASt->Prop),(Q (.exit 2) ⟨[(3,.own 0 (List.length (α:=Int) out)),(5,.ptr 1 0),(6,li o),(9,am Vl.Node.c list),(10,li (list.length:Int)),(11,li (i:Int))],[.elems 1 (List.map cI out),.cells [li x.op,li x.clause,am PathBind.c x.binds,am cI x.path,am Vl.Edge.c x.edges,li x.els]]⟩)->ALoopU Tryz.prog B 0 48 (hold c .mk) ⟨[(3,.own 0 (List.length (α:=Int) out)),(5,.ptr 1 0),(6,li size),(9,am Vl.Node.c list),(10,li (list.length:Int)),(11,li (i:Int)),(16,am Vl.Edge.c x.edges),(17,li (x.edges.length:Int)),(18,li (i5:Int))],[.elems 1 (List.map cI out),.cells [li x.op,li x.clause,am PathBind.c x.binds,am cI x.path,am Vl.Edge.c x.edges,li x.els]]⟩ (hold Q .mk)):=by
 refine F.f213.partial_correctness list i out x
  _
  ?_
 ·intro _f_f213 ih_f213 i5 size o hF
  intro c hc Q hq
  obtain rfl:c=_:=ZL hc rfl
  refine ALoopU.know fun hk hs=> ?_
  have b9:=hk 9
  simp -dsimp at b9
  have b16:=hk 16
  simp -dsimp at b16
  have d0:=hs 0 _ rfl
  simp -dsimp[Blk.bnd]at d0
  have d1:=hs 1 _ rfl
  simp -dsimp[Blk.bnd]at d1
  clear hk hs
  refine ALoopU.enter ?_
  repeat first|refine cg ?_|simp -dsimp
  revert hF;refine abr.sp ?_ ?_<;>intro h6 q7 hF
  ·have z8:((i5:Int)<(x.edges.length:Int)):=auz
   have hF:=ob hF;obtain⟨x9,e10,hF⟩:=hF
   have le10:=ZB e10
   have hF:=ob hF;obtain⟨x11,e12a,hF⟩:=hF
   have e12a:=ZO e12a;obtain⟨ne12,e12⟩:=e12a
   have le12:=ZB e12
   have w13:i64.wrap ((i5:Int)+1)=(i5:Int)+1:=ZG (by omega) (by omega)
   repeat first|refine cg ?_|simp -dsimp[h6,z8,↓e10,↓e12,w13]
   refine Again.go _ ?_ ((ih_f213 (i5+1) (if 301<i64.wrap (size+x11)then 301 else i64.wrap (size+x11)) o hF) _ rfl _ hq)
   exact(Gh.to3 (by simp) (by simp_all))
  ·have z8:¬((i5:Int)<(x.edges.length:Int)):=auz
   cases hF
   repeat first|refine cg ?_|simp -dsimp[h6,q7,z8]
   refine Leave.go _ (Gh.to3 (by simp) (by simp_all)) hq
theorem CC.f214 (list:List Vl.Node):(∀(i:Nat) (out:List Int) (o:List Int),F.f214 list i out=some o->∀(c:Code),ZY [1,1,0,1,0,0] (ZJ Tryz.f63)=some c->∀(Q:Exit->ASt->Prop),(Q (.exit 0) ⟨[(3,.own 0 (List.length (α:=Int) o))],[.elems 1 (List.map cI o)]⟩)->ALoopU Tryz.prog B 0 48 (hold c .mk) ⟨[(3,.own 0 (List.length (α:=Int) out)),(9,am Vl.Node.c list),(10,li (list.length:Int)),(11,li (i:Int))],[.elems 1 (List.map cI out)]⟩ (hold Q .mk)):=by
 refine F.f214.partial_correctness list
  _
  ?_
 ·intro _f_f214 ih_f214 i out o hF
  intro c hc Q hq
  obtain rfl:c=_:=ZL hc rfl
  refine ALoopU.know fun hk hs=> ?_
  have b9:=hk 9
  simp -dsimp at b9
  have d0:=hs 0 _ rfl
  simp -dsimp[Blk.bnd]at d0
  clear hk hs
  refine ALoopU.enter ?_
  repeat first|refine cg ?_|simp -dsimp
  revert hF;refine abr.sp ?_ ?_<;>intro h1 q2 hF
  ·have z3:((i:Int)<(list.length:Int)):=auz
   have hF:=ob hF;obtain⟨x,e4,hF⟩:=hF
   have le4:=ZB e4
   repeat first|refine cg ?_|simp -dsimp[h1,z3,↓e4]
   have hF:=ob hF;obtain⟨o',ho14,hF⟩:=hF
   refine ALoop.goU _ ?_ (((CC.f213 B hB1 hB2 list i out x) 0 1 o' ho14) _ rfl _ ?_)
   ·exact(Gh.to3 (by simp) (by simp_all))
   repeat first|refine cg ?_|simp -dsimp
   revert hF;refine abr.sp ?_ ?_<;>intro h15 q16 hF
   ·have hF:=ob hF;obtain⟨x17,e18a,hF⟩:=hF
    have e18a:=ZO e18a;obtain⟨ne18,e18⟩:=e18a
    have le18:=ZB e18
    have hF:=oc hF;obtain⟨c19,hF⟩:=hF
    have hF:=oc hF;obtain⟨c20,hF⟩:=hF
    have w21:i64.wrap ((i:Int)+1)=(i:Int)+1:=ZG (by omega) (by omega)
    repeat first|refine cg ?_|simp -dsimp[h15,↓e18,w21]
    refine Again.go _ ?_ ((ih_f214 (i+1) (out++[if 301<i64.wrap (o'+x17)then 301 else i64.wrap (o'+x17)]) o hF) _ rfl _ hq)
    exact(Gh.to3 (by simp) (by simp_all))
   ·have hF:=oc hF;obtain⟨c22,hF⟩:=hF
    have hF:=oc hF;obtain⟨c23,hF⟩:=hF
    have w24:i64.wrap ((i:Int)+1)=(i:Int)+1:=ZG (by omega) (by omega)
    repeat first|refine cg ?_|simp -dsimp[h15,q16,w24]
    refine Again.go _ ?_ ((ih_f214 (i+1) (out++[o']) o hF) _ rfl _ hq)
    exact(Gh.to3 (by simp) (by simp_all))
  ·have z3:¬((i:Int)<(list.length:Int)):=auz
   cases hF
   repeat first|refine cg ?_|simp -dsimp[h1,q2,z3]
   refine Leave.go _ (Gh.to3 (by simp) (by simp_all)) hq
theorem C.f215 (list:List Vl.Node)(r:List Int)(hF:F.f215 list=some r):PureCall Tryz.prog B 63 [am Vl.Node.c list] (am cI r):=by
 unfold F.f215 at hF
 refine PureCall.enterLe Tryz.func63 (by kernel_rfl) rfl Tryz.ntmps63 (by simp) (by simp) ?_
 repeat first|refine cg ?_|simp -dsimp
 have hF:=ob hF;obtain⟨o'26,ho25,hF⟩:=hF
 refine ALoop.goU ⟨[(3,.own 0 (List.length (α:=Int) [])),(9,.arr (List.map Vl.Node.c list)),(10,.lit (.int .i64 (list.length:Int))),(11,.lit (.int .i64 0))],[.elems 1 (List.map cI [])]⟩ (by refine Gh.trans (Gh.nil 3 1 (by simp -dsimp)) ?_;exact(Gh.to3 (by simp) (by simp -dsimp))) ?_
 refine((CC.f214 B hB1 hB2 list) 0 [] o'26 ho25) _ rfl _ ?_
 cases hF
 repeat first|refine cg ?_|simp -dsimp
theorem CC.f216 (list:List Vl.Node):(∀(k:Int) (r:Tree),F.f216 list k=some r->PureCall Tryz.prog B 64 [am Vl.Node.c list,li k] (.agg [li r.op,li r.clause,am PathBind.c r.binds,am cI r.path,am Branch.c r.branches,am Tree.c r.els]))/\
  (∀(x:Vl.Node) (v:List PathBind) (v3:List Int) (out:List Branch) (i:Nat) (o:List Branch),F.f217 list x v v3 out i=some o->∀(c:Code),ZY [1,1,1,0,1,0,0] (ZJ Tryz.f64)=some c->∀(Q:Exit->ASt->Prop),(Q (.exit 0) ⟨[(0,am Vl.Node.c list),(4,.ptr 0 0),(5,.ptr 1 0),(6,.ptr 3 0)],[.cells [li 0,li 0,.lit (.slice none 0 0),.lit (.slice none 0 0),.lit (.slice none 0 0),.lit (.slice none 0 0)],.cells [li x.op,li x.clause,am PathBind.c x.binds,am cI x.path,am Vl.Edge.c x.edges,li x.els],.dead,.cells [li x.op,li x.clause,am PathBind.c v,am cI v3,.own 4 (List.length (α:=Branch) o),.lit (.slice none 0 0)],.elems 9 (List.map Branch.c o)]⟩)->ALoopU Tryz.prog B 0 58 (hold c .mk) ⟨[(0,am Vl.Node.c list),(4,.ptr 0 0),(5,.ptr 1 0),(6,.ptr 3 0),(25,am Vl.Edge.c x.edges),(26,li (x.edges.length:Int)),(27,li (i:Int))],[.cells [li 0,li 0,.lit (.slice none 0 0),.lit (.slice none 0 0),.lit (.slice none 0 0),.lit (.slice none 0 0)],.cells [li x.op,li x.clause,am PathBind.c x.binds,am cI x.path,am Vl.Edge.c x.edges,li x.els],.dead,.cells [li x.op,li x.clause,am PathBind.c v,am cI v3,.own 4 (List.length (α:=Branch) out),.lit (.slice none 0 0)],.elems 9 (List.map Branch.c out)]⟩ (hold Q .mk)):=by
 refine F.f216.mutual_partial_correctness list
  _ _
  ?_ ?_
 ·intro _f_f216 _f_f217 ih_f216 ih_f217 k r hF
  refine PureCall.enterLe Tryz.func64 (by kernel_rfl) rfl Tryz.ntmps64 (by simp) (by simp) ?_
  have hF:=ob hF;obtain⟨x,e1a,hF⟩:=hF
  have e1a:=ZO e1a;obtain⟨ne1,e1⟩:=e1a
  have le1:=ZB e1
  repeat first|refine cg ?_|simp -dsimp[↓e1]
  refine ADraw.effL [(9,11),(10,11)] 11 [113,1000053] [(0,1),(0,1),(0,1),(0,1),(0,0),(0,0),(0,4),(0,0),(0,0),(0,4),(0,4),(0,4),(0,4)] [0,2,0,2,1,1,1,1,1,1,1,1,1] follows (by kernel_rfl) (by kernel_rfl) (by kernel_rfl) (by kernel_rfl) (by intro d hd;cases hd;rfl) ?_
  repeat first|refine cg ?_|simp -dsimp
  have hF:=ob hF;obtain⟨v,e2,hF⟩:=hF
  refine((C.f165 B hB1 hB2 x.binds v e2)).pgoW (by simp_all) (by simp) ?_
  repeat first|refine cg ?_|simp -dsimp
  have hF:=ob hF;obtain⟨v3,e4,hF⟩:=hF
  refine((C.f163 B hB1 hB2 x.path v3 e4)).ego (pl [2]) (by simp) (by simp) (by intro i j hi;simp at hi) (by intro i hi hi';simp at hi hi';first|omega|(subst hi';simp[pl])) (by simp_all) (by simp_all) ?_
  repeat first|refine cg ?_|simp -dsimp
  have hF:=ob hF;obtain⟨o',ho14,hF⟩:=hF
  refine ALoop.goU ⟨[(0,.arr (List.map Vl.Node.c list)),(4,.ptr 0 0),(5,.ptr 1 0),(6,.ptr 3 0),(25,.arr (List.map Vl.Edge.c x.edges)),(26,.lit (.int .i64 (x.edges.length:Int))),(27,.lit (.int .i64 0))],[.cells [.lit (.int .i64 0),.lit (.int .i64 0),.lit (.slice none 0 0),.lit (.slice none 0 0),.lit (.slice none 0 0),.lit (.slice none 0 0)],.cells [.lit (.int .i64 x.op),.lit (.int .i64 x.clause),.arr (List.map PathBind.c x.binds),.arr (List.map cI x.path),.arr (List.map Vl.Edge.c x.edges),.lit (.int .i64 x.els)],.dead,.cells [.lit (.int .i64 x.op),.lit (.int .i64 x.clause),.arr (List.map PathBind.c v),.arr (List.map cI v3),.own 4 (List.length (α:=Branch) []),.lit (.slice none 0 0)],.elems 9 (List.map Branch.c [])]⟩ (by refine Gh.trans (Gh.nilCell 3 4 9 (by simp -dsimp;rfl) (by simp -dsimp)) ?_;exact(Gh.to3 (by simp) (by simp_all))) ?_
  refine(ih_f217 x v v3 [] 0 o' ho14) _ rfl _ ?_
  repeat first|refine cg ?_|simp -dsimp
  revert hF;refine abr.sp ?_ ?_<;>intro h15 q16 hF
  ·repeat first|refine cg ?_|simp -dsimp[h15]
   have hF:=ob hF;obtain⟨v17,e18,hF⟩:=hF
   refine((ih_f216 x.els v17 e18)).goW (by simp_all) (by simp) ?_
   cases hF
   repeat first|refine cg ?_|simp -dsimp
  ·cases hF
   repeat first|refine cg ?_|simp -dsimp[q16]
 ·intro _f_f216 _f_f217 ih_f216 ih_f217 x v v3 out i o hF
  intro c hc Q hq
  obtain rfl:c=_:=ZL hc rfl
  refine ALoopU.know fun hk hs=> ?_
  have b0:=hk 0
  simp -dsimp at b0
  have b25:=hk 25
  simp -dsimp at b25
  have d1:=hs 1 _ rfl
  simp -dsimp[Blk.bnd]at d1
  have d3:=hs 3 _ rfl
  simp -dsimp[Blk.bnd]at d3
  have d4:=hs 4 _ rfl
  simp -dsimp[Blk.bnd]at d4
  clear hk hs
  refine ALoopU.enter ?_
  repeat first|refine cg ?_|simp -dsimp
  revert hF;refine abr.sp ?_ ?_<;>intro h5 q6 hF
  ·have z7:((i:Int)<(x.edges.length:Int)):=auz
   have hF:=ob hF;obtain⟨x8,e9,hF⟩:=hF
   have le9:=ZB e9
   repeat first|refine cg ?_|simp -dsimp[h5,z7,↓e9]
   refine ADraw.eff [] [(0,1),(0,1),(0,0),(0,0),(0,0),(0,0),(0,0),(0,0),(0,0),(0,0),(0,0),(0,3),(0,0),(0,3),(0,3),(2,2),(0,3)] [0,2,1,1,1,1,1,1,1,1,1,1,1,1,1,1,1] follows (by kernel_rfl) (by kernel_rfl) (by kernel_rfl) ?_
   repeat first|refine cg ?_|simp -dsimp
   have hF:=ob hF;obtain⟨v10,e11,hF⟩:=hF
   refine((ih_f216 x8.to v10 e11)).pgoW (by simp_all) (by simp) ?_
   have hF:=oc hF;obtain⟨c12,hF⟩:=hF
   have w13:i64.wrap ((i:Int)+1)=(i:Int)+1:=ZG (by omega) (by omega)
   repeat first|refine cg ?_|simp -dsimp[w13]
   refine Again.go _ ?_ ((ih_f217 x v v3 (out++[(⟨x8.ctor,x8.n,x8.m,v10⟩:Branch)]) (i+1) o hF) _ rfl _ hq)
   exact(Gh.to3 (by simp) (by simp_all))
  ·have z7:¬((i:Int)<(x.edges.length:Int)):=auz
   cases hF
   repeat first|refine cg ?_|simp -dsimp[h5,q6,z7]
   refine Leave.go _ (Gh.to3 (by simp) (by simp_all)) hq
theorem C.f218 (list:List Vl.Node)(r:Tree×Bool)(hF:F.f218 list=some r):PureCall Tryz.prog B 22 [am Vl.Node.c list] (.tup [.agg [li r.1.op,li r.1.clause,am PathBind.c r.1.binds,am cI r.1.path,am Branch.c r.1.branches,am Tree.c r.1.els],.lit (.bool r.2)]):=by
 unfold F.f218 at hF
 refine PureCall.enterLe Tryz.func22 (by kernel_rfl) rfl Tryz.ntmps22 (by simp) (by simp) ?_
 repeat first|refine cg ?_|simp -dsimp
 have hF:=ob hF;obtain⟨v,e1,hF⟩:=hF
 refine((C.f212 B hB1 hB2 list v e1)).goW (by simp) (by simp) ?_
 repeat first|refine cg ?_|simp -dsimp
 revert hF;refine abr.sp (fun h2 q3 hF=> ?_) (fun h2 q3 hF=> ?_)
 ·repeat first|refine cg ?_|simp -dsimp[h2]
  have hF:=ob hF;obtain⟨v4,e5,hF⟩:=hF
  refine((C.f215 B hB1 hB2 list v4 e5)).goW (by simp[h2]) (by simp) ?_
  have hF:=ob hF;obtain⟨x,e6a,hF⟩:=hF
  have e6a:=ZO e6a;obtain⟨ne6,e6⟩:=e6a
  have le6:=ZB e6
  repeat first|refine cg ?_|simp -dsimp[h2,↓e6]
  revert hF;refine abr.sp ?_ ?_<;>intro h7 q8 hF
  ·cases hF
   repeat first|refine cg ?_|simp -dsimp[h2,↓e6,h7]
  ·repeat first|refine cg ?_|simp -dsimp[h2,↓e6,h7,q8]
   have hF:=ob hF;obtain⟨v9,e10,hF⟩:=hF
   refine(((CC.f216 B hB1 hB2 list).1 (i64.wrap ((list.length:Int) -1)) v9 e10)).goW (by simp[h2,↓e6,h7,q8]) (by simp) ?_
   cases hF
   repeat first|refine cg ?_|simp -dsimp[h2,↓e6,h7,q8]
 ·cases hF
  repeat first|refine cg ?_|simp -dsimp[h2,q3]
theorem CC.f219  :(∀(x:Tree) (r:Int),F.f219 x=some r->PureCall Tryz.prog B 26 [.agg [li x.op,li x.clause,am PathBind.c x.binds,am cI x.path,am Branch.c x.branches,am Tree.c x.els]] (li r))/\
  (∀(x:Tree) (v:List Tree) (n:Int) (i:Nat) (o:Int),F.f220 x v n i=some o->∀(c:Code),ZY [1,1,0,1,0,0] (ZJ Tryz.f26)=some c->∀(Q:Exit->ASt->Prop),(Q (.exit 0) ⟨[(1,.ptr 0 0),(3,li o)],[.cells [li x.op,li x.clause,am PathBind.c x.binds,am cI x.path,am Branch.c x.branches,am Tree.c x.els]]⟩)->ALoopU Tryz.prog B 0 24 (hold c .mk) ⟨[(1,.ptr 0 0),(3,li n),(7,am Tree.c v),(8,li (v.length:Int)),(9,li (i:Int))],[.cells [li x.op,li x.clause,am PathBind.c x.binds,am cI x.path,am Branch.c x.branches,am Tree.c x.els]]⟩ (hold Q .mk)):=by
 refine F.f219.mutual_partial_correctness 
  _ _
  ?_ ?_
 ·intro _f_f220 ih_f220 x r hF
  refine PureCall.enterLe Tryz.func26 (by kernel_rfl) rfl Tryz.ntmps26 (by simp) (by simp) ?_
  repeat first|refine cg ?_|simp -dsimp
  have hF:=ob hF;obtain⟨v,e1,hF⟩:=hF
  refine((C.f154 B hB1 hB2 x v e1)).goW (by simp) (by simp) ?_
  repeat first|refine cg ?_|simp -dsimp
  have hF:=ob hF;obtain⟨o',ho10,hF⟩:=hF
  refine ALoop.goU _ ?_ ((ih_f220 x v 0 0 o' ho10) _ rfl _ ?_)
  ·exact(Gh.to3 (by simp) (by simp -dsimp))
  repeat first|refine cg ?_|simp -dsimp
  revert hF;refine abr.sp ?_ ?_<;>intro h11 q12 hF
  ·cases hF
   repeat first|refine cg ?_|simp -dsimp[h11]
   all_goals(try first|omega|rfl)
  ·cases hF
   repeat first|refine cg ?_|simp -dsimp[h11,q12]
   all_goals(try first|omega|rfl)
 ·intro _f_f219 _f_f220 ih_f219 ih_f220 x v n i o hF
  intro c hc Q hq
  obtain rfl:c=_:=ZL hc rfl
  refine ALoopU.know fun hk hs=> ?_
  have b7:=hk 7
  simp -dsimp at b7
  have d0:=hs 0 _ rfl
  simp -dsimp[Blk.bnd]at d0
  clear hk hs
  refine ALoopU.enter ?_
  repeat first|refine cg ?_|simp -dsimp
  revert hF;refine abr.sp ?_ ?_<;>intro h2 q3 hF
  ·have z4:((i:Int)<(v.length:Int)):=auz
   have hF:=ob hF;obtain⟨x5,e6,hF⟩:=hF
   have le6:=ZB e6
   repeat first|refine cg ?_|simp -dsimp[h2,z4,↓e6]
   have hF:=ob hF;obtain⟨v7,e8,hF⟩:=hF
   refine((ih_f219 x5 v7 e8)).goW (by first|simp[h2,z4,↓e6];done|simp_all) (by simp) ?_
   have w9:i64.wrap ((i:Int)+1)=(i:Int)+1:=ZG (by omega) (by omega)
   repeat first|refine cg ?_|simp -dsimp[h2,z4,↓e6,w9]
   refine Again.go _ ?_ ((ih_f220 x v (if v7>n then v7 else n) (i+1) o hF) _ rfl _ hq)
   exact(Gh.to3 (by simp) (by first|simp -dsimp[h2,z4,↓e6,w9];done|simp_all))
  ·have z4:¬((i:Int)<(v.length:Int)):=auz
   cases hF
   repeat first|refine cg ?_|simp -dsimp[h2,q3,z4]
   refine Leave.go _ (Gh.to3 (by simp) (by first|simp -dsimp[h2,q3,z4];done|simp_all)) hq
theorem CC.f221  :(∀(x:Tree) (set':Nat->Bool) (r:Nat->Bool),F.f221 x set'=some r->MutCall Tryz.prog B 69 (fcB 8 set') [.agg [li x.op,li x.clause,am PathBind.c x.binds,am cI x.path,am Branch.c x.branches,am Tree.c x.els],.ptr 0 0] (.tup []) (fcB 8 r))/\
  (∀(v33:List Tree) (set'35:Nat->Bool) (i36:Nat) (o:Nat->Bool),F.f224 v33 set'35 i36=some o->∀(c:Code),ZY [1,1,1,0,0] (ZJ Tryz.f69)=some c->∀(Q:Exit->ASt->Prop),(Q (.exit 0) ⟨[],[.cells (fcB 8 o)]⟩)->ALoopU Tryz.prog B 1 30 (hold c .mk) ⟨[(1,.ptr 0 0),(20,am Tree.c v33),(21,li (v33.length:Int)),(22,li (i36:Int))],[.cells (fcB 8 set'35)]⟩ (hold Q .mk))/\
  (∀(v19:List Tree) (set'21:Nat->Bool) (i22:Nat) (o:Nat->Bool),F.f223 v19 set'21 i22=some o->∀(c:Code),ZY [1,1,1,0,0] (ZJ Tryz.f69)=some c->∀(Q:Exit->ASt->Prop),(Q (.exit 0) ⟨[],[.cells (fcB 8 o)]⟩)->ALoopU Tryz.prog B 1 30 (hold c .mk) ⟨[(1,.ptr 0 0),(20,am Tree.c v19),(21,li (v19.length:Int)),(22,li (i22:Int))],[.cells (fcB 8 set'21)]⟩ (hold Q .mk))/\
  (∀(v7:List Tree) (set'9:Nat->Bool) (i:Nat) (o:Nat->Bool),F.f222 v7 set'9 i=some o->∀(c:Code),ZY [1,1,1,0,0] (ZJ Tryz.f69)=some c->∀(Q:Exit->ASt->Prop),(Q (.exit 0) ⟨[],[.cells (fcB 8 o)]⟩)->ALoopU Tryz.prog B 1 30 (hold c .mk) ⟨[(1,.ptr 0 0),(20,am Tree.c v7),(21,li (v7.length:Int)),(22,li (i:Int))],[.cells (fcB 8 set'9)]⟩ (hold Q .mk)):=by
 refine F.f221.mutual_partial_correctness 
  _ _ _ _
  ?_ ?_ ?_ ?_
 ·intro _f_f224 _f_f223 _f_f222 ih_f224 ih_f223 ih_f222 x set' r hF
  refine MutCall.enter Tryz.func69 (by kernel_rfl) rfl Tryz.ntmps69 (by simp) (by simp) (by simp) (by simp) ?_
  repeat first|refine cg ?_|simp -dsimp
  revert hF;refine abr.sp ?_ ?_<;>intro h1 q2 hF
  ·repeat first|refine cg ?_|simp -dsimp[h1]
   have hF:=ob hF;obtain⟨v,e3,hF⟩:=hF
   refine((C.f157 B hB1 hB2 x.clause 0 7 v e3)).goW (by first|simp[h1];done|simp_all) (by simp) ?_
   repeat first|refine cg ?_|simp -dsimp[h1]
   revert hF;refine abr.sp (fun h4 q5 hF=> ?_) (fun h4 q5 hF=> ?_)
   ·repeat first|refine cg ?_|simp -dsimp[h1,h4]
    refine ADraw.eff [] [(0,0),(0,0),(0,0),(0,0),(0,0),(0,1)] [1,1,1,1,1,1] follows (by kernel_rfl) (by kernel_rfl) (by kernel_rfl) ?_
    have hF:=oc hF;obtain⟨c6,hF⟩:=hF
    repeat first|refine cg ?_|simp -dsimp[h1,h4,c6]
    have hF:=ob hF;obtain⟨v7,e8,hF⟩:=hF
    refine((C.f154 B hB1 hB2 x v7 e8)).goW (by first|simp[h1,h4,c6];done|simp_all) (by simp) ?_
    repeat first|refine cg ?_|simp -dsimp[h1,h4,c6]
    have hF:=ob hF;obtain⟨o',ho18,hF⟩:=hF
    refine ALoop.goU _ ?_ ((ih_f222 v7 (ZLP set' x.clause.toNat true) 0 o' ho18) _ rfl _ ?_)
    ·exact(Gh.to3 (by simp) (by first|simp -dsimp[h1,h4,c6];done|simp_all))
    cases hF
    repeat first|refine cg ?_|simp -dsimp
    all_goals(try first|omega|rfl)
   ·repeat first|refine cg ?_|simp -dsimp[h1,h4,q5]
    have hF:=ob hF;obtain⟨v19,e20,hF⟩:=hF
    refine((C.f154 B hB1 hB2 x v19 e20)).goW (by first|simp[h1,h4,q5];done|simp_all) (by simp) ?_
    repeat first|refine cg ?_|simp -dsimp[h1,h4,q5]
    have hF:=ob hF;obtain⟨o'32,ho31,hF⟩:=hF
    refine ALoop.goU _ ?_ ((ih_f223 v19 set' 0 o'32 ho31) _ rfl _ ?_)
    ·exact(Gh.to3 (by simp) (by first|simp -dsimp[h1,h4,q5];done|simp_all))
    cases hF
    repeat first|refine cg ?_|simp -dsimp
    all_goals(try first|omega|rfl)
  ·repeat first|refine cg ?_|simp -dsimp[h1,q2]
   have hF:=ob hF;obtain⟨v33,e34,hF⟩:=hF
   refine((C.f154 B hB1 hB2 x v33 e34)).goW (by first|simp[h1,q2];done|simp_all) (by simp) ?_
   repeat first|refine cg ?_|simp -dsimp[h1,q2]
   have hF:=ob hF;obtain⟨o'46,ho45,hF⟩:=hF
   refine ALoop.goU _ ?_ ((ih_f224 v33 set' 0 o'46 ho45) _ rfl _ ?_)
   ·exact(Gh.to3 (by simp) (by first|simp -dsimp[h1,q2];done|simp_all))
   cases hF
   repeat first|refine cg ?_|simp -dsimp
   all_goals(try first|omega|rfl)
 ·intro _f_f221 _f_f224 ih_f221 ih_f224 v33 set'35 i36 o hF
  intro c hc Q hq
  obtain rfl:c=_:=ZL hc rfl
  refine ALoopU.know fun hk hs=> ?_
  have b20:=hk 20
  simp -dsimp at b20
  clear hk hs
  refine ALoopU.enter ?_
  repeat first|refine cg ?_|simp -dsimp
  revert hF;refine abr.sp ?_ ?_<;>intro h37 q38 hF
  ·have z39:((i36:Int)<(v33.length:Int)):=auz
   have hF:=ob hF;obtain⟨x40,e41,hF⟩:=hF
   have le41:=ZB e41
   repeat first|refine cg ?_|simp -dsimp[h37,z39,↓e41]
   have hF:=ob hF;obtain⟨v42,e43,hF⟩:=hF
   refine((ih_f221 x40 set'35 v42 e43)).go 0 rfl (by first|simp[h37,z39,↓e41];done|simp_all) (by simp) (by first|simp[h37,z39,↓e41];done|simp_all) ?_
   have w44:i64.wrap ((i36:Int)+1)=(i36:Int)+1:=ZG (by omega) (by omega)
   repeat first|refine cg ?_|simp -dsimp[h37,z39,↓e41,w44]
   refine Again.go _ ?_ ((ih_f224 v33 v42 (i36+1) o hF) _ rfl _ hq)
   exact(Gh.to3 (by simp) (by first|simp -dsimp[h37,z39,↓e41,w44];done|simp_all))
  ·have z39:¬((i36:Int)<(v33.length:Int)):=auz
   cases hF
   repeat first|refine cg ?_|simp -dsimp[h37,q38,z39]
   refine Leave.go _ (Gh.to3 (by simp) (by first|simp -dsimp[h37,q38,z39];done|simp_all)) hq
 ·intro _f_f221 _f_f223 ih_f221 ih_f223 v19 set'21 i22 o hF
  intro c hc Q hq
  obtain rfl:c=_:=ZL hc rfl
  refine ALoopU.know fun hk hs=> ?_
  have b20:=hk 20
  simp -dsimp at b20
  clear hk hs
  refine ALoopU.enter ?_
  repeat first|refine cg ?_|simp -dsimp
  revert hF;refine abr.sp ?_ ?_<;>intro h23 q24 hF
  ·have z25:((i22:Int)<(v19.length:Int)):=auz
   have hF:=ob hF;obtain⟨x26,e27,hF⟩:=hF
   have le27:=ZB e27
   repeat first|refine cg ?_|simp -dsimp[h23,z25,↓e27]
   have hF:=ob hF;obtain⟨v28,e29,hF⟩:=hF
   refine((ih_f221 x26 set'21 v28 e29)).go 0 rfl (by first|simp[h23,z25,↓e27];done|simp_all) (by simp) (by first|simp[h23,z25,↓e27];done|simp_all) ?_
   have w30:i64.wrap ((i22:Int)+1)=(i22:Int)+1:=ZG (by omega) (by omega)
   repeat first|refine cg ?_|simp -dsimp[h23,z25,↓e27,w30]
   refine Again.go _ ?_ ((ih_f223 v19 v28 (i22+1) o hF) _ rfl _ hq)
   exact(Gh.to3 (by simp) (by first|simp -dsimp[h23,z25,↓e27,w30];done|simp_all))
  ·have z25:¬((i22:Int)<(v19.length:Int)):=auz
   cases hF
   repeat first|refine cg ?_|simp -dsimp[h23,q24,z25]
   refine Leave.go _ (Gh.to3 (by simp) (by first|simp -dsimp[h23,q24,z25];done|simp_all)) hq
 ·intro _f_f221 _f_f222 ih_f221 ih_f222 v7 set'9 i o hF
  intro c hc Q hq
  obtain rfl:c=_:=ZL hc rfl
  refine ALoopU.know fun hk hs=> ?_
  have b20:=hk 20
  simp -dsimp at b20
  clear hk hs
  refine ALoopU.enter ?_
  repeat first|refine cg ?_|simp -dsimp
  revert hF;refine abr.sp ?_ ?_<;>intro h10 q11 hF
  ·have z12:((i:Int)<(v7.length:Int)):=auz
   have hF:=ob hF;obtain⟨x13,e14,hF⟩:=hF
   have le14:=ZB e14
   repeat first|refine cg ?_|simp -dsimp[h10,z12,↓e14]
   have hF:=ob hF;obtain⟨v15,e16,hF⟩:=hF
   refine((ih_f221 x13 set'9 v15 e16)).go 0 rfl (by first|simp[h10,z12,↓e14];done|simp_all) (by simp) (by first|simp[h10,z12,↓e14];done|simp_all) ?_
   have w17:i64.wrap ((i:Int)+1)=(i:Int)+1:=ZG (by omega) (by omega)
   repeat first|refine cg ?_|simp -dsimp[h10,z12,↓e14,w17]
   refine Again.go _ ?_ ((ih_f222 v7 v15 (i+1) o hF) _ rfl _ hq)
   exact(Gh.to3 (by simp) (by first|simp -dsimp[h10,z12,↓e14,w17];done|simp_all))
  ·have z12:¬((i:Int)<(v7.length:Int)):=auz
   cases hF
   repeat first|refine cg ?_|simp -dsimp[h10,q11,z12]
   refine Leave.go _ (Gh.to3 (by simp) (by first|simp -dsimp[h10,q11,z12];done|simp_all)) hq
theorem CC.f225 (v:Nat->Bool):(∀(i:Nat) (out:List Int) (o:List Int),F.f225 v i out=some o->∀(c:Code),ZY [1,1,1,1,0,1,0,0] (ZJ Tryz.f28)=some c->∀(Q:Exit->ASt->Prop),(Q (.exit 0) ⟨[(4,.own 2 (List.length (α:=Int) o))],[.dead,.dead,.elems 1 (List.map cI o)]⟩)->ALoopU Tryz.prog B 0 21 (hold c .mk) ⟨[(4,.own 2 (List.length (α:=Int) out)),(9,.agg (fcB 8 v)),(10,li (i:Int))],[.dead,.dead,.elems 1 (List.map cI out)]⟩ (hold Q .mk)):=by
 refine F.f225.partial_correctness v
  _
  ?_
 ·intro _f_f225 ih_f225 i out o hF
  intro c hc Q hq
  obtain rfl:c=_:=ZL hc rfl
  refine ALoopU.know fun hk hs=> ?_
  have d2:=hs 2 _ rfl
  simp -dsimp[Blk.bnd]at d2
  clear hk hs
  refine ALoopU.enter ?_
  repeat first|refine cg ?_|simp -dsimp
  revert hF;refine abr.sp ?_ ?_<;>intro h2 q3 hF
  ·have z4:((i:Int)<8):=auz
   have c5:i<8:=by assumption
   repeat first|refine cg ?_|simp -dsimp[h2,z4,c5]
   revert hF;refine abr.sp (fun h6 q7 hF=> ?_) (fun h6 q7 hF=> ?_)
   ·have hF:=oc hF;obtain⟨c8,hF⟩:=hF
    have hF:=oc hF;obtain⟨c9,hF⟩:=hF
    have w10:i64.wrap ((i:Int)+1)=(i:Int)+1:=ZG (by omega) (by omega)
    repeat first|refine cg ?_|simp -dsimp[h2,z4,c5,h6,w10]
    refine Again.go _ ?_ ((ih_f225 (i+1) (out++[(i:Int)]) o hF) _ rfl _ hq)
    exact(Gh.to3 (by simp) (by first|simp -dsimp[h2,z4,c5,h6,w10];done|simp_all))
   ·have hF:=oc hF;obtain⟨c11,hF⟩:=hF
    have w12:i64.wrap ((i:Int)+1)=(i:Int)+1:=ZG (by omega) (by omega)
    repeat first|refine cg ?_|simp -dsimp[h2,z4,c5,h6,q7,w12]
    refine Again.go _ ?_ ((ih_f225 (i+1) out o hF) _ rfl _ hq)
    exact(Gh.to3 (by simp) (by first|simp -dsimp[h2,z4,c5,h6,q7,w12];done|simp_all))
  ·have z4:¬((i:Int)<8):=auz
   cases hF
   repeat first|refine cg ?_|simp -dsimp[h2,q3,z4]
   refine Leave.go _ (Gh.to3 (by simp) (by first|simp -dsimp[h2,q3,z4];done|simp_all)) hq
theorem C.f226 (x:Tree)(r:List Int)(hF:F.f226 x=some r):PureCall Tryz.prog B 28 [.agg [li x.op,li x.clause,am PathBind.c x.binds,am cI x.path,am Branch.c x.branches,am Tree.c x.els]] (am cI r):=by
 unfold F.f226 at hF
 refine PureCall.enterLe Tryz.func28 (by kernel_rfl) rfl Tryz.ntmps28 (by simp) (by simp) ?_
 repeat first|refine cg ?_|simp -dsimp
 have hF:=ob hF;obtain⟨v,e1,hF⟩:=hF
 refine(((CC.f221 B hB1 hB2).1 x (fun _=>false) v e1)).go 1 rfl (by simp) (by simp) (by simp) ?_
 repeat first|refine cg ?_|simp -dsimp
 have hF:=ob hF;obtain⟨o',ho13,hF⟩:=hF
 refine ALoop.goU ⟨[(4,.own 2 (List.length (α:=Int) [])),(9,.agg (fcB 8 v)),(10,.lit (.int .i64 0))],[.dead,.dead,.elems 1 (List.map cI [])]⟩ (by refine Gh.trans (Gh.nil 4 1 (by simp -dsimp)) ?_;exact(Gh.to3 (by simp) (by simp -dsimp))) ?_
 refine((CC.f225 B hB1 hB2 v) 0 [] o' ho13) _ rfl _ ?_
 cases hF
 repeat first|refine cg ?_|simp -dsimp
 all_goals(try first|omega|rfl)
theorem C.f227 (code:List Int)(r:Bool)(hF:F.f227 code=some r):PureCall Tryz.prog B 7 [am cU code] (.lit (.bool r)):=by
 unfold F.f227 at hF
 refine PureCall.enterLe Tryz.func7 (by kernel_rfl) rfl Tryz.ntmps7 (by simp) (by simp) ?_
 repeat first|refine cg ?_|simp -dsimp
 revert hF;refine abr.sp ?_ ?_<;>intro h1 q2 hF
 ·have z3:(1048576<(code.length:Int)):=auz
  cases hF
  repeat first|refine cg ?_|simp -dsimp[h1,z3]
  all_goals(try first|omega|rfl)
 ·have z3:¬(1048576<(code.length:Int)):=auz
  repeat first|refine cg ?_|simp -dsimp[h1,q2,z3]
  have hF:=ob hF;obtain⟨v,e4,hF⟩:=hF
  refine((C.f152 B hB1 hB2 code v e4)).goW (by first|simp[h1,q2,z3];done|simp_all) (by simp) ?_
  repeat first|refine cg ?_|simp -dsimp[h1,q2,z3]
  have hF:=ob hF;obtain⟨v5,e6,hF⟩:=hF
  refine((C.f181 B hB1 hB2 v v5 e6)).goW (by first|simp[h1,q2,z3];done|simp_all) (by simp) ?_
  repeat first|refine cg ?_|simp -dsimp[h1,q2,z3]
  have hF:=ob hF;obtain⟨v7,e8,hF⟩:=hF
  refine((C.f200 B hB1 hB2 v v7 e8)).goW (by first|simp[h1,q2,z3];done|simp_all) (by simp) ?_
  repeat first|refine cg ?_|simp -dsimp[h1,q2,z3]
  revert hF;refine abr.sp ?_ ?_<;>intro h9 q10 hF
  ·repeat first|refine cg ?_|simp -dsimp[h1,q2,z3,h9]
   have hF:=ob hF;obtain⟨v11,e12,hF⟩:=hF
   refine((C.f206 B hB1 hB2 v5.1 v7.1 v11 e12)).goW (by first|simp[h1,q2,z3,h9];done|simp_all) (by simp) ?_
   repeat first|refine cg ?_|simp -dsimp[h1,q2,z3,h9]
   revert hF;refine abr.sp (fun h13 q14 hF=> ?_) (fun h13 q14 hF=> ?_)
   ·repeat first|refine cg ?_|simp -dsimp[h1,q2,z3,h9,h13]
    revert hF;refine abr.ns (fun h15 q16 hF=> ?_) (fun h15 q16 hF=> ?_)
    ·repeat first|refine cg ?_|simp -dsimp[h1,q2,z3,h9,h13,h15,q16]
     have hF:=ob hF;obtain⟨v17,e18,hF⟩:=hF
     refine((C.f206 B hB1 hB2 v5.1 v7.1 v17 e18)).goW (by first|simp[h1,q2,z3,h9,h13,h15,q16];done|simp_all) (by simp) ?_
     cases hF
     repeat first|refine cg ?_|simp -dsimp[h1,q2,z3,h9,h13,h15,q16]
     all_goals(try first|omega|rfl)
    ·repeat first|refine cg ?_|simp -dsimp[h1,q2,z3,h9,h13,h15,q16]
     have hF:=ob hF;obtain⟨v19,e20,hF⟩:=hF
     refine((C.f218 B hB1 hB2 v5.1 v19 e20)).goW (by first|simp[h1,q2,z3,h9,h13,h15,q16];done|simp_all) (by simp) ?_
     repeat first|refine cg ?_|simp -dsimp[h1,q2,z3,h9,h13,h15,q16]
     refine ADraw.simple follows (by kernel_rfl) (by kernel_rfl) ?_
     repeat first|refine cg ?_|simp -dsimp[h1,q2,z3,h9,h13,h15,q16]
     revert hF;refine abr.sp (fun h21 q22 hF=> ?_) (fun h21 q22 hF=> ?_)
     ·repeat first|refine cg ?_|simp -dsimp[h1,q2,z3,h9,h13,h15,q16,h21]
      have hF:=ob hF;obtain⟨v23,e24,hF⟩:=hF
      refine(((CC.f219 B hB1 hB2).1 v19.1 v23 e24)).pgoW (by first|simp[h1,q2,z3,h9,h13,h15,q16,h21];done|simp_all) (by simp) ?_
      repeat first|refine cg ?_|simp -dsimp[h1,q2,z3,h9,h13,h15,q16,h21]
      have hF:=ob hF;obtain⟨v25,e26,hF⟩:=hF
      refine(((CC.f219 B hB1 hB2).1 v v25 e26)).pgoW (by first|simp[h1,q2,z3,h9,h13,h15,q16,h21];done|simp_all) (by simp) ?_
      repeat first|refine cg ?_|simp -dsimp[h1,q2,z3,h9,h13,h15,q16,h21]
      revert hF;refine abr.sp ?_ ?_<;>intro h27 q28 hF
      ·repeat first|refine cg ?_|simp -dsimp[h1,q2,z3,h9,h13,h15,q16,h21,h27]
       have hF:=ob hF;obtain⟨v29,e30,hF⟩:=hF
       refine(((CC.f155 B hB1 hB2).1 v19.1 v29 e30)).pgoW (by first|simp[h1,q2,z3,h9,h13,h15,q16,h21,h27];done|simp_all) (by simp) ?_
       repeat first|refine cg ?_|simp -dsimp[h1,q2,z3,h9,h13,h15,q16,h21,h27]
       have hF:=ob hF;obtain⟨v31,e32,hF⟩:=hF
       refine(((CC.f155 B hB1 hB2).1 v v31 e32)).pgoW (by first|simp[h1,q2,z3,h9,h13,h15,q16,h21,h27];done|simp_all) (by simp) ?_
       repeat first|refine cg ?_|simp -dsimp[h1,q2,z3,h9,h13,h15,q16,h21,h27]
       revert hF;refine abr.sp ?_ ?_<;>intro h33 q34 hF
       ·repeat first|refine cg ?_|simp -dsimp[h1,q2,z3,h9,h13,h15,q16,h21,h27,h33]
        have hF:=ob hF;obtain⟨v35,e36,hF⟩:=hF
        refine((C.f226 B hB1 hB2 v19.1 v35 e36)).pgoW (by first|simp[h1,q2,z3,h9,h13,h15,q16,h21,h27,h33];done|simp_all) (by simp) ?_
        repeat first|refine cg ?_|simp -dsimp[h1,q2,z3,h9,h13,h15,q16,h21,h27,h33]
        have hF:=ob hF;obtain⟨v37,e38,hF⟩:=hF
        refine((C.f226 B hB1 hB2 v v37 e38)).pgoW (by first|simp[h1,q2,z3,h9,h13,h15,q16,h21,h27,h33];done|simp_all) (by simp) ?_
        repeat first|refine cg ?_|simp -dsimp[h1,q2,z3,h9,h13,h15,q16,h21,h27,h33]
        have hF:=ob hF;obtain⟨v39,e40,hF⟩:=hF
        refine((C.f202 B hB1 hB2 v35 v37 v39 e40)).pgoW (by first|simp[h1,q2,z3,h9,h13,h15,q16,h21,h27,h33];done|simp_all) (by simp) ?_
        cases hF
        repeat first|refine cg ?_|simp -dsimp[h1,q2,z3,h9,h13,h15,q16,h21,h27,h33]
        all_goals(try first|omega|rfl)
       ·cases hF
        repeat first|refine cg ?_|simp -dsimp[h1,q2,z3,h9,h13,h15,q16,h21,h27,h33,q34]
        all_goals(try first|omega|rfl)
      ·cases hF
       repeat first|refine cg ?_|simp -dsimp[h1,q2,z3,h9,h13,h15,q16,h21,h27,q28]
       all_goals(try first|omega|rfl)
     ·cases hF
      repeat first|refine cg ?_|simp -dsimp[h1,q2,z3,h9,h13,h15,q16,h21,q22]
      all_goals(try first|omega|rfl)
   ·repeat first|refine cg ?_|simp -dsimp[h1,q2,z3,h9,h13,q14]
    have hF:=ob hF;obtain⟨v41,e42,hF⟩:=hF
    refine((C.f206 B hB1 hB2 v5.1 v7.1 v41 e42)).goW (by first|simp[h1,q2,z3,h9,h13,q14];done|simp_all) (by simp) ?_
    cases hF
    repeat first|refine cg ?_|simp -dsimp[h1,q2,z3,h9,h13,q14]
    all_goals(try first|omega|rfl)
  ·cases hF
   repeat first|refine cg ?_|simp -dsimp[h1,q2,z3,h9,q10]
   all_goals(try first|omega|rfl)
end Go.Proofs.YtkgcopogpmckdaaGreat
