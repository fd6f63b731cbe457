/- A part of the proof. -/
import Derived.Test.YtanfmnlkemmkpaaGreatProg
import Derived.Test.YtanfmnlkemmkpaaGreatBarePatternF
import Derived.Test.YtanfmnlkemmkpaaGreatBarePatternC2
import Derived.Test.YtanfmnlkemmkpaaGreatVlSort
import Derived.Test.YtanfmnlkemmkpaaGreatShelf
namespace Go.Proofs.YtanfmnlkemmkpaaGreat
open Go Go.Proofs Go.Vl
open abr renaming sp->aS,ns->aN
open Leave renaming go->lG
open Again renaming go->aG
open ALoopU renaming know->kN,enter->eN
open Gh renaming to3->gT
open PureCall renaming enterLe->pE
open Go.IntKind (i64)
set_option linter.all false
set_option maxRecDepth 100000
set_option maxHeartbeats 4000000
set_option synthInstance.maxSize 100000
set_option synthInstance.maxHeartbeats 4000000
attribute [local irreducible] ECallA ZHi aL aLg AMake MLoop AgainM LeaveM ZBY ZA1 MutCall BCall chk abr ACall ALoop ALoopU ADraw Again Leave ZDo PCall ZAa awp ZGr PureCall hold
variable (B : Nat) (hB1 : 67108864 <= B) (hB2 : B <= 9223372036854775807)
include hB1 hB2
theorem CC.f159  :(∀(v:Vl.Value) (r:Vl.Value),F.f159 v=some r->PureCall Tryz.prog B 36 [.agg [li v.ctor,li v.n,am Vl.Value.c v.kids]] (.agg [li r.ctor,li r.n,am Vl.Value.c r.kids]))/\
  (∀(v:Vl.Value) (out:List Vl.Value) (i:Nat) (o:List Vl.Value),F.f160 v out i=some o->∀(c:Code),Zj [1,1,0,1,0,0] (ZJ Tryz.f36)=some c->∀(Q:Exit->ASt->Prop),(Q (.exit 0) ⟨[(2,.ptr 1 0),(3,.ptr 2 0)],[.dead,.cells [li 0,li 0,.lit (.slice none 0 0)],.cells [li v.ctor,li v.n,.own 3 (List.length (α:=Vl.Value) o)],.elems 3 (List.map Vl.Value.c o)]⟩)->ALoopU Tryz.prog B 0 27 (hold c .mk) ⟨[(2,.ptr 1 0),(3,.ptr 2 0),(12,am Vl.Value.c v.kids),(13,li (v.kids.length:Int)),(14,li (i:Int))],[.dead,.cells [li 0,li 0,.lit (.slice none 0 0)],.cells [li v.ctor,li v.n,.own 3 (List.length (α:=Vl.Value) out)],.elems 3 (List.map Vl.Value.c out)]⟩ (hold Q .mk)):=by
 refine F.f159.mutual_partial_correctness 
  _ _
  ?_ ?_
 ·intro _f_f160 ih_f160 v r hF
  refine pE Tryz.func36 (by kernel_rfl) rfl Tryz.ntmps36 (by simp) (by simp) ?_
  repeat first|refine cg ?_|simp -dsimp
  have hF:=ob hF;obtain⟨o',ho9,hF⟩:=hF
  refine ALoop.goU ⟨[(2,.ptr 1 0),(3,.ptr 2 0),(12,.arr (List.map Vl.Value.c v.kids)),(13,.lit (.int .i64 (v.kids.length:Int))),(14,.lit (.int .i64 0))],[.dead,.cells [.lit (.int .i64 0),.lit (.int .i64 0),.lit (.slice none 0 0)],.cells [.lit (.int .i64 v.ctor),.lit (.int .i64 v.n),.own 3 (List.length (α:=Vl.Value) [])],.elems 3 (List.map Vl.Value.c [])]⟩ (by refine Gh.trans (Gh.nilCell 2 2 3 (by simp -dsimp;rfl) (by simp -dsimp)) ?_;exact(gT (by simp) (by simp -dsimp))) ?_
  refine(ih_f160 v [] 0 o' ho9) _ rfl _ ?_
  cases hF
  repeat first|refine cg ?_|simp -dsimp
  all_goals(try first|omega|rfl)
 ·intro _f_f159 _f_f160 ih_f159 ih_f160 v out i o hF
  intro c hc Q hq
  obtain rfl:c=_:=ZQ hc rfl
  refine kN fun hk hs=> ?_
  have b12:=hk 12
  simp -dsimp at b12
  have d3:=hs 3 _ rfl
  simp -dsimp[Blk.bnd]at d3
  clear hk hs
  refine eN ?_
  repeat first|refine cg ?_|simp -dsimp
  revert hF;refine aS ?_ ?_<;>intro h1 q2 hF
  ·have z3:((i:Int)<(v.kids.length:Int)):=auz
   have hF:=ob hF;obtain⟨x,e4,hF⟩:=hF
   have le4:=ZD e4
   repeat first|refine cg ?_|simp -dsimp[h1,z3,↓e4]
   refine ADraw.eff [] [(0,1),(0,1),(0,0),(0,3),(0,3),(0,3),(2,2),(0,3)] [0,2,1,1,1,1,1,1] follows (by kernel_rfl) (by kernel_rfl) (by kernel_rfl) ?_
   repeat first|refine cg ?_|simp -dsimp[h1,z3,↓e4]
   have hF:=ob hF;obtain⟨v5,e6,hF⟩:=hF
   refine((ih_f159 x v5 e6)).pgoW (by first|simp[h1,z3,↓e4];done|simp_all) (by simp) ?_
   have hF:=oc hF;obtain⟨c7,hF⟩:=hF
   have w8:i64.wrap ((i:Int)+1)=(i:Int)+1:=ZE (by omega) (by omega)
   repeat first|refine cg ?_|simp -dsimp[h1,z3,↓e4,w8]
   refine aG _ ?_ ((ih_f160 v (out++[v5]) (i+1) o hF) _ rfl _ hq)
   exact(gT (by simp) (by first|simp -dsimp[h1,z3,↓e4,w8];done|simp_all))
  ·have z3:¬((i:Int)<(v.kids.length:Int)):=auz
   cases hF
   repeat first|refine cg ?_|simp -dsimp[h1,q2,z3]
   refine lG _ (gT (by simp) (by first|simp -dsimp[h1,q2,z3];done|simp_all)) hq
theorem CC.f161 (v5:List Bind):(∀(out:List Bind) (i:Nat) (o:List Bind),F.f161 v5 out i=some o->∀(c:Code),Zj [1,1,1,1,0,1,0,0] (ZJ Tryz.f21)=some c->∀(Q:Exit->ASt->Prop),(Q (.exit 0) ⟨[(6,.own 2 (List.length (α:=Bind) o))],[.dead,.dead,.elems 4 (List.map Bind.c o)]⟩)->ALoopU Tryz.prog B 0 36 (hold c .mk) ⟨[(6,.own 2 (List.length (α:=Bind) out)),(20,.own 2 (List.length (α:=Bind) out)),(21,li (v5.length:Int)),(22,li (i:Int))],[.dead,.dead,.elems 4 (List.map Bind.c out)]⟩ (hold Q .mk)):=by
 refine F.f161.partial_correctness v5
  _
  ?_
 ·intro _f_f161 ih_f161 out i o hF
  intro c hc Q hq
  obtain rfl:c=_:=ZQ hc rfl
  refine kN fun hk hs=> ?_
  have d2:=hs 2 _ rfl
  simp -dsimp[Blk.bnd]at d2
  clear hk hs
  refine eN ?_
  repeat first|refine cg ?_|simp -dsimp
  revert hF;refine aS ?_ ?_<;>intro h8 q9 hF
  ·have z10:((i:Int)<(v5.length:Int)):=auz
   have hF:=ob hF;obtain⟨x,e11,hF⟩:=hF
   have le11:=ZD e11
   repeat first|refine cg ?_|simp -dsimp[h8,z10,↓e11]
   have hF:=ob hF;obtain⟨v12,e13,hF⟩:=hF
   refine(((CC.f159 B hB1 hB2).1 x.value v12 e13)).goW (by first|simp[h8,z10,↓e11];done|simp_all) (by simp) ?_
   have hF:=oc hF;obtain⟨c14,hF⟩:=hF
   have w15:i64.wrap ((i:Int)+1)=(i:Int)+1:=ZE (by omega) (by omega)
   repeat first|refine cg ?_|simp -dsimp[h8,z10,↓e11,w15]
   refine aG _ ?_ ((ih_f161 (out.set i (⟨x.var,v12⟩:Bind)) (i+1) o hF) _ rfl _ hq)
   exact(gT (by simp) (by first|simp -dsimp[h8,z10,↓e11,w15];done|simp_all))
  ·have z10:¬((i:Int)<(v5.length:Int)):=auz
   cases hF
   repeat first|refine cg ?_|simp -dsimp[h8,q9,z10]
   refine lG _ (gT (by simp) (by first|simp -dsimp[h8,q9,z10];done|simp_all)) hq
theorem C.f162 (p:Pattern)(v:Vl.Value)(r:(List Bind)×Bool)(hF:F.f162 p v=some r):PureCall Tryz.prog B 21 [.agg [li p.op,li p.ctor,li p.n,li p.m,li p.var,am Pattern.c p.kids],.agg [li v.ctor,li v.n,am Vl.Value.c v.kids]] (.tup [am Bind.c r.1,.lit (.bool r.2)]):=by
 unfold F.f162 at hF
 refine pE Tryz.func21 (by kernel_rfl) rfl Tryz.ntmps21 (by simp) (by simp) ?_
 repeat first|refine cg ?_|simp -dsimp
 have hF:=ob hF;obtain⟨v1,e2,hF⟩:=hF
 refine(((CC.impl_match__o0 B hB1 hB2 v) p v1 e2)).go (pl [2]) (by simp) (by simp) (by intro i j hi;simp at hi) (by intro i hi hi';simp at hi hi';have hi:i=0:=(by omega);rcases hi with rfl<;>simp[pl]) (by simp) (by simp) ?_
 repeat first|refine cg ?_|simp -dsimp
 revert hF;refine aN (fun h3 q4 hF=> ?_) (fun h3 q4 hF=> ?_)
 ·cases hF
  repeat first|refine cg ?_|simp -dsimp[h3,q4]
  all_goals(try first|omega|rfl)
 ·repeat first|refine cg ?_|simp -dsimp[h3,q4]
  have hF:=ob hF;obtain⟨v5,e6,hF⟩:=hF
  have sl7:List.length (α:=Bind) v1.1=List.length (α:=Bind) v5:=ZKf (key:=fun x=>x.var) (by unfold F.f158 at e6;exact e6)
  refine((C.f158 B hB1 hB2 v1.1 v5 e6)).go (pl [2]) (by simp) (by simp) (ZDr _ rfl (by decide)) (by intro i hi hi';simp at hi hi';first|omega|(subst hi';simp[pl])) (by first|simp[h3,q4];done|simp_all) (by first|simp[h3,q4];done|simp_all) ?_
  repeat first|refine cg ?_|simp -dsimp[h3,q4,sl7]
  have hF:=ob hF;obtain⟨o',ho16,hF⟩:=hF
  refine ALoop.goU _ ?_ (((CC.f161 B hB1 hB2 v5) v5 0 o' ho16) _ rfl _ ?_)
  ·exact(gT (by simp) (by first|simp -dsimp[h3,q4,sl7];done|simp_all))
  cases hF
  repeat first|refine cg ?_|simp -dsimp
  all_goals(try first|omega|rfl)
theorem C.f163 (w:List Vl.Data)(t:Ty)(p:Pattern)(v:Vl.Value)(r:(List Bind)×Bool)(hF:F.f163 w t p v=some r):PureCall Tryz.prog B 10 [am Vl.Data.c w,.agg [li t.data,li t.index],.agg [li p.op,li p.ctor,li p.n,li p.m,li p.var,am Pattern.c p.kids],.agg [li v.ctor,li v.n,am Vl.Value.c v.kids]] (.tup [am Bind.c r.1,.lit (.bool r.2)]):=by
 unfold F.f163 at hF
 refine pE Tryz.func10 (by kernel_rfl) rfl Tryz.ntmps10 (by simp) (by simp) ?_
 repeat first|refine cg ?_|simp -dsimp
 have hF:=ob hF;obtain⟨v1,e2,hF⟩:=hF
 refine((C.f151 B hB1 hB2 w t p v1 e2)).goW (by simp) (by simp) ?_
 repeat first|refine cg ?_|simp -dsimp
 revert hF;refine aS (fun h3 q4 hF=> ?_) (fun h3 q4 hF=> ?_)
 ·repeat first|refine cg ?_|simp -dsimp[h3]
  have hF:=ob hF;obtain⟨v5,e6,hF⟩:=hF
  refine((C.f155 B hB1 hB2 w t v v5 e6)).goW (by first|simp[h3];done|simp_all) (by simp) ?_
  repeat first|refine cg ?_|simp -dsimp[h3]
  revert hF;refine aN (fun h7 q8 hF=> ?_) (fun h7 q8 hF=> ?_)
  ·cases hF
   repeat first|refine cg ?_|simp -dsimp[h3,h7,q8]
   all_goals(try first|omega|rfl)
  ·repeat first|refine cg ?_|simp -dsimp[h3,h7,q8]
   have hF:=ob hF;obtain⟨v9,e10,hF⟩:=hF
   refine((C.f162 B hB1 hB2 p v v9 e10)).goW (by first|simp[h3,h7,q8];done|simp_all) (by simp) ?_
   cases hF
   repeat first|refine cg ?_|simp -dsimp[h3,h7,q8]
   all_goals(try first|omega|rfl)
 ·cases hF
  repeat first|refine cg ?_|simp -dsimp[h3,q4]
  all_goals(try first|omega|rfl)
theorem C.f164 (code:List Int)(more:List Int)(r:Bool)(hF:F.f164 code more=some r):PureCall Tryz.prog B 3 [am cU code,am cU more] (.lit (.bool r)):=by
 unfold F.f164 at hF
 refine pE Tryz.func3 (by kernel_rfl) rfl Tryz.ntmps3 (by simp) (by simp) ?_
 repeat first|refine cg ?_|simp -dsimp
 revert hF;refine aN ?_ ?_<;>intro h1 q2 hF
 ·have z3:¬(1048576<(code.length:Int)):=auz
  repeat first|refine cg ?_|simp -dsimp[h1,q2,z3]
  revert hF;refine aS ?_ ?_<;>intro h4 q5 hF
  ·have z6:(1048576<(more.length:Int)):=auz
   cases hF
   repeat first|refine cg ?_|simp -dsimp[h1,q2,z3,h4,z6]
   all_goals(try first|omega|rfl)
  ·have z6:¬(1048576<(more.length:Int)):=auz
   repeat first|refine cg ?_|simp -dsimp[h1,q2,z3,h4,q5,z6]
   have hF:=ob hF;obtain⟨v,e7,hF⟩:=hF
   refine((C.f90 B hB1 hB2 code v e7)).goW (by first|simp[h1,q2,z3,h4,q5,z6];done|simp_all) (by simp) ?_
   repeat first|refine cg ?_|simp -dsimp[h1,q2,z3,h4,q5,z6]
   have hF:=ob hF;obtain⟨v8,e9,hF⟩:=hF
   refine(((CC.f92 B hB1 hB2).1 v.2.2.1 v8 e9)).goW (by first|simp[h1,q2,z3,h4,q5,z6];done|simp_all) (by simp) ?_
   repeat first|refine cg ?_|simp -dsimp[h1,q2,z3,h4,q5,z6]
   have hF:=ob hF;obtain⟨v10,e11,hF⟩:=hF
   refine((C.f102 B hB1 hB2 more v10 e11)).goW (by first|simp[h1,q2,z3,h4,q5,z6];done|simp_all) (by simp) ?_
   repeat first|refine cg ?_|simp -dsimp[h1,q2,z3,h4,q5,z6]
   refine ADraw.simple follows (by kernel_rfl) (by kernel_rfl) ?_
   repeat first|refine cg ?_|simp -dsimp[h1,q2,z3,h4,q5,z6]
   have hF:=ob hF;obtain⟨v12,e13,hF⟩:=hF
   refine(((CC.f92 B hB1 hB2).1 v10 v12 e13)).pgoW (by first|simp[h1,q2,z3,h4,q5,z6];done|simp_all) (by simp) ?_
   repeat first|refine cg ?_|simp -dsimp[h1,q2,z3,h4,q5,z6]
   have hF:=ob hF;obtain⟨v14,e15,hF⟩:=hF
   refine(((CC.f103 B hB1 hB2).1 v10 v14 e15)).pgoW (by first|simp[h1,q2,z3,h4,q5,z6];done|simp_all) (by simp) ?_
   repeat first|refine cg ?_|simp -dsimp[h1,q2,z3,h4,q5,z6]
   have hF:=ob hF;obtain⟨v16,e17,hF⟩:=hF
   refine(((CC.f106 B hB1 hB2).1 v12 v14 v16 e17)).pgoW (by first|simp[h1,q2,z3,h4,q5,z6];done|simp_all) (by simp) ?_
   repeat first|refine cg ?_|simp -dsimp[h1,q2,z3,h4,q5,z6]
   revert hF;refine aS (fun h18 q19 hF=> ?_) (fun h18 q19 hF=> ?_)
   ·repeat first|refine cg ?_|simp -dsimp[h1,q2,z3,h4,q5,z6,h18]
    have hF:=ob hF;obtain⟨v20,e21,hF⟩:=hF
    refine((C.f151 B hB1 hB2 v.1 v.2.1 v.2.2.1 v20 e21)).pgoW (by first|simp[h1,q2,z3,h4,q5,z6,h18];done|simp_all) (by simp) ?_
    repeat first|refine cg ?_|simp -dsimp[h1,q2,z3,h4,q5,z6,h18]
    revert hF;refine aN (fun h22 q23 hF=> ?_) (fun h22 q23 hF=> ?_)
    ·repeat first|refine cg ?_|simp -dsimp[h1,q2,z3,h4,q5,z6,h18,h22,q23]
     refine ADraw.simple follows (by kernel_rfl) (by kernel_rfl) ?_
     repeat first|refine cg ?_|simp -dsimp[h1,q2,z3,h4,q5,z6,h18,h22,q23]
     have hF:=ob hF;obtain⟨v24,e25,hF⟩:=hF
     refine(((CC.f103 B hB1 hB2).1 v.2.2.1 v24 e25)).pgoW (by first|simp[h1,q2,z3,h4,q5,z6,h18,h22,q23];done|simp_all) (by simp) ?_
     repeat first|refine cg ?_|simp -dsimp[h1,q2,z3,h4,q5,z6,h18,h22,q23]
     have hF:=ob hF;obtain⟨v26,e27,hF⟩:=hF
     refine(((CC.f106 B hB1 hB2).1 v8 v24 v26 e27)).pgoW (by first|simp[h1,q2,z3,h4,q5,z6,h18,h22,q23];done|simp_all) (by simp) ?_
     cases hF
     repeat first|refine cg ?_|simp -dsimp[h1,q2,z3,h4,q5,z6,h18,h22,q23]
     all_goals(try first|omega|rfl)
    ·repeat first|refine cg ?_|simp -dsimp[h1,q2,z3,h4,q5,z6,h18,h22,q23]
     have hF:=ob hF;obtain⟨v28,e29,hF⟩:=hF
     refine((C.f163 B hB1 hB2 v.1 v.2.1 v.2.2.1 v.2.2.2 v28 e29)).goW (by first|simp[h1,q2,z3,h4,q5,z6,h18,h22,q23];done|simp_all) (by simp) ?_
     repeat first|refine cg ?_|simp -dsimp[h1,q2,z3,h4,q5,z6,h18,h22,q23]
     have hF:=ob hF;obtain⟨v30,e31,hF⟩:=hF
     refine((C.f163 B hB1 hB2 v.1 v.2.1 v8 v.2.2.2 v30 e31)).goW (by first|simp[h1,q2,z3,h4,q5,z6,h18,h22,q23];done|simp_all) (by simp) ?_
     repeat first|refine cg ?_|simp -dsimp[h1,q2,z3,h4,q5,z6,h18,h22,q23]
     refine ADraw.simple follows (by kernel_rfl) (by kernel_rfl) ?_
     repeat first|refine cg ?_|simp -dsimp[h1,q2,z3,h4,q5,z6,h18,h22,q23]
     revert hF;refine aS ?_ ?_<;>intro h32 q33 hF
     ·repeat first|refine cg ?_|simp -dsimp[h1,q2,z3,h4,q5,z6,h18,h22,q23,h32]
      revert hF;refine aS ?_ ?_<;>intro h34 q35 hF
      ·have z36:((v30.1.length:Int)=0):=auz
       repeat first|refine cg ?_|simp -dsimp[h1,q2,z3,h4,q5,z6,h18,h22,q23,h32,h34,z36]
       have hF:=ob hF;obtain⟨v37,e38,hF⟩:=hF
       refine((C.f151 B hB1 hB2 v.1 v.2.1 v8 v37 e38)).pgoW (by first|simp[h1,q2,z3,h4,q5,z6,h18,h22,q23,h32,h34,z36];done|simp_all) (by simp) ?_
       repeat first|refine cg ?_|simp -dsimp[h1,q2,z3,h4,q5,z6,h18,h22,q23,h32,h34,z36]
       revert hF;refine aS (fun h39 q40 hF=> ?_) (fun h39 q40 hF=> ?_)
       ·repeat first|refine cg ?_|simp -dsimp[h1,q2,z3,h4,q5,z6,h18,h22,q23,h32,h34,z36,h39]
        have hF:=ob hF;obtain⟨v41,e42,hF⟩:=hF
        refine(((CC.f92 B hB1 hB2).1 v8 v41 e42)).pgoW (by first|simp[h1,q2,z3,h4,q5,z6,h18,h22,q23,h32,h34,z36,h39];done|simp_all) (by simp) ?_
        repeat first|refine cg ?_|simp -dsimp[h1,q2,z3,h4,q5,z6,h18,h22,q23,h32,h34,z36,h39]
        have hF:=ob hF;obtain⟨v43,e44,hF⟩:=hF
        refine(((CC.f106 B hB1 hB2).1 v41 v8 v43 e44)).pgoW (by first|simp[h1,q2,z3,h4,q5,z6,h18,h22,q23,h32,h34,z36,h39];done|simp_all) (by simp) ?_
        cases hF
        repeat first|refine cg ?_|simp -dsimp[h1,q2,z3,h4,q5,z6,h18,h22,q23,h32,h34,z36,h39]
        all_goals(try first|omega|rfl)
       ·cases hF
        repeat first|refine cg ?_|simp -dsimp[h1,q2,z3,h4,q5,z6,h18,h22,q23,h32,h34,z36,h39,q40]
        all_goals(try first|omega|rfl)
      ·have z36:¬((v30.1.length:Int)=0):=auz
       cases hF
       repeat first|refine cg ?_|simp -dsimp[h1,q2,z3,h4,q5,z6,h18,h22,q23,h32,h34,q35,z36]
       all_goals(try first|omega|rfl)
     ·cases hF
      repeat first|refine cg ?_|simp -dsimp[h1,q2,z3,h4,q5,z6,h18,h22,q23,h32,q33]
      all_goals(try first|omega|rfl)
   ·repeat first|refine cg ?_|simp -dsimp[h1,q2,z3,h4,q5,z6,h18,q19]
    refine ADraw.simple follows (by kernel_rfl) (by kernel_rfl) ?_
    repeat first|refine cg ?_|simp -dsimp[h1,q2,z3,h4,q5,z6,h18,q19]
    have hF:=ob hF;obtain⟨v45,e46,hF⟩:=hF
    refine(((CC.f103 B hB1 hB2).1 v.2.2.1 v45 e46)).pgoW (by first|simp[h1,q2,z3,h4,q5,z6,h18,q19];done|simp_all) (by simp) ?_
    repeat first|refine cg ?_|simp -dsimp[h1,q2,z3,h4,q5,z6,h18,q19]
    have hF:=ob hF;obtain⟨v47,e48,hF⟩:=hF
    refine(((CC.f106 B hB1 hB2).1 v8 v45 v47 e48)).pgoW (by first|simp[h1,q2,z3,h4,q5,z6,h18,q19];done|simp_all) (by simp) ?_
    cases hF
    repeat first|refine cg ?_|simp -dsimp[h1,q2,z3,h4,q5,z6,h18,q19]
    all_goals(try first|omega|rfl)
 ·have z3:(1048576<(code.length:Int)):=auz
  cases hF
  repeat first|refine cg ?_|simp -dsimp[h1,q2,z3]
  all_goals(try first|omega|rfl)
end Go.Proofs.YtanfmnlkemmkpaaGreat
