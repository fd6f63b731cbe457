/- The contracts: the code computes the functions (printed by gen.py). -/
import Derived.Test.YtkgcopogpmckdaaGreatProg
import Derived.Test.YtkgcopogpmckdaaGreatGuardFreeF
import Derived.Test.YtkgcopogpmckdaaGreatGuardFreeC1
namespace Go.Proofs.YtkgcopogpmckdaaGreat
open Go Go.Proofs Go.Vl
set_option linter.all false
set_option maxRecDepth 100000
set_option maxHeartbeats 4000000
set_option synthInstance.maxSize 100000
attribute [local irreducible] ECallA NCallA aL aLg AMake MLoop AgainM LeaveM awpM aopsM MutCall BCall chk abr ACall ALoop ALoopU ADraw Again Leave PCallA PCall Post awp aops PureCall hold
variable (B : Nat) (hB1 : 67108864 ≤ B) (hB2 : B ≤ 9223372036854775807)
include hB1 hB2
theorem C.f82 (n:Int)(r:ByteArray)(hF:F.f82 n=some r):PureCall Tryz.prog B 170 [.lit (.int .i64 n)] (.lit (.string r)):=by
 unfold F.f82 at hF
 refine PureCall.enterLe Tryz.func170 (by kernel_rfl) rfl Tryz.ntmps170 (by simp) (by simp) ?_
 cases hF
 repeat first|refine cg ?_|simp -dsimp
 all_goals(try first|omega|rfl)
theorem CC.f83 (w:List Vl.Data):(∀(t:Ty) (p:Pattern) (r:ByteArray),F.f83 w t p=some r→PureCall Tryz.prog B 169 [.arr (List.map Vl.Data.c w),.agg [.lit (.int .i64 t.data),.lit (.int .i64 t.index)],.agg [.lit (.int .i64 p.op),.lit (.int .i64 p.ctor),.lit (.int .i64 p.n),.lit (.int .i64 p.m),.lit (.int .i64 p.var),.arr (List.map Pattern.c p.kids)]] (.lit (.string r)))∧
  (∀(p:Pattern) (v45:List Ty) (out:ByteArray) (i:Nat) (o:ByteArray),F.f84 w p v45 out i=some o→∀(c:Code),navO [1,1,1,1,0,1,0,0] (bodyOf Tryz.f169)=some c→∀(Q:Exit→ASt→Prop),(Q (.exit 1) ⟨[(7,.lit (.string o)),(8,.arr (List.map Ty.c v45))],[]⟩)→ALoopU Tryz.prog B 0 118 (hold c .mk) ⟨[(0,.arr (List.map Vl.Data.c w)),(5,.ptr 1 0),(7,.lit (.string out)),(8,.arr (List.map Ty.c v45)),(9,.lit (.int .i64 (i:Int)))],[.dead,.cells [.lit (.int .i64 p.op),.lit (.int .i64 p.ctor),.lit (.int .i64 p.n),.lit (.int .i64 p.m),.lit (.int .i64 p.var),.arr (List.map Pattern.c p.kids)]]⟩ (hold Q .mk)):=by
 refine F.f83.mutual_partial_correctness w
  _ _
  ?_ ?_
 ·intro _f_f83 _f_f84 ih_f83 ih_f84 t p r hF
  refine PureCall.enterLe Tryz.func169 (by kernel_rfl) rfl Tryz.ntmps169 (by simp) (by simp) ?_
  repeat first|refine cg ?_|simp -dsimp
  revert hF;refine abr.sp ?_ ?_<;>intro h1 q2 hF
  ·cases hF
   repeat first|refine cg ?_|simp -dsimp[h1]
   all_goals(try first|omega|rfl)
  ·repeat first|refine cg ?_|simp -dsimp[h1,q2]
   revert hF;refine abr.sp ?_ ?_<;>intro h3 q4 hF
   ·repeat first|refine cg ?_|simp -dsimp[h1,q2,h3]
    have hF:=ob hF;obtain⟨v,e5,hF⟩:=hF
    refine((C.f82 B hB1 hB2 p.var v e5)).goW (by first|simp[h1,q2,h3];done|simp_all) (by simp) ?_
    cases hF
    repeat first|refine cg ?_|simp -dsimp[h1,q2,h3]
    all_goals(try first|omega|rfl)
   ·repeat first|refine cg ?_|simp -dsimp[h1,q2,h3,q4]
    revert hF;refine abr.sp ?_ ?_<;>intro h6 q7 hF
    ·repeat first|refine cg ?_|simp -dsimp[h1,q2,h3,q4,h6]
     revert hF;refine abr.sp ?_ ?_<;>intro h8 q9 hF
     ·repeat first|refine cg ?_|simp -dsimp[h1,q2,h3,q4,h6,h8]
      have hF:=ob hF;obtain⟨v10,e11,hF⟩:=hF
      refine(((CC.f25 B hB1 hB2) p.n v10 e11)).goW (by first|simp[h1,q2,h3,q4,h6,h8];done|simp_all) (by simp) ?_
      cases hF
      repeat first|refine cg ?_|simp -dsimp[h1,q2,h3,q4,h6,h8]
      all_goals(try first|omega|rfl)
     ·repeat first|refine cg ?_|simp -dsimp[h1,q2,h3,q4,h6,h8,q9]
      refine ADraw.simple follows (by kernel_rfl) (by kernel_rfl) ?_
      repeat first|refine cg ?_|simp -dsimp[h1,q2,h3,q4,h6,h8,q9]
      have hF:=ob hF;obtain⟨v12,e13,hF⟩:=hF
      refine(((CC.f25 B hB1 hB2) p.n v12 e13)).pgoW (by first|simp[h1,q2,h3,q4,h6,h8,q9];done|simp_all) (by simp) ?_
      have hF:=oc hF;obtain⟨c14,hF⟩:=hF
      repeat first|refine cg ?_|simp -dsimp[h1,q2,h3,q4,h6,h8,q9]
      have hF:=ob hF;obtain⟨v15,e16,hF⟩:=hF
      refine(((CC.f25 B hB1 hB2) p.m v15 e16)).pgoW (by first|simp[h1,q2,h3,q4,h6,h8,q9];done|simp_all) (by simp) ?_
      have hF:=oc hF;obtain⟨c17,hF⟩:=hF
      cases hF
      repeat first|refine cg ?_|simp -dsimp[h1,q2,h3,q4,h6,h8,q9]
      all_goals(try first|omega|rfl)
    ·repeat first|refine cg ?_|simp -dsimp[h1,q2,h3,q4,h6,q7]
     revert hF;refine abr.sp ?_ ?_<;>intro h18 q19 hF
     ·repeat first|refine cg ?_|simp -dsimp[h1,q2,h3,q4,h6,q7,h18]
      refine ADraw.simple follows (by kernel_rfl) (by kernel_rfl) ?_
      have hF:=ob hF;obtain⟨x,e20,hF⟩:=hF
      have le20:=lt_of_get e20
      repeat first|refine cg ?_|simp -dsimp[h1,q2,h3,q4,h6,q7,h18,↓e20]
      have hF:=ob hF;obtain⟨v21,e22,hF⟩:=hF
      refine((ih_f83 t x v21 e22)).pgoW (by first|simp[h1,q2,h3,q4,h6,q7,h18,↓e20];done|simp_all) (by simp) ?_
      have hF:=oc hF;obtain⟨c23,hF⟩:=hF
      have hF:=oc hF;obtain⟨c24,hF⟩:=hF
      have hF:=ob hF;obtain⟨x25,e26,hF⟩:=hF
      have le26:=lt_of_get e26
      repeat first|refine cg ?_|simp -dsimp[h1,q2,h3,q4,h6,q7,h18,↓e20,↓e26]
      have hF:=ob hF;obtain⟨v27,e28,hF⟩:=hF
      refine((ih_f83 t x25 v27 e28)).pgoW (by first|simp[h1,q2,h3,q4,h6,q7,h18,↓e20,↓e26];done|simp_all) (by simp) ?_
      have hF:=oc hF;obtain⟨c29,hF⟩:=hF
      have hF:=oc hF;obtain⟨c30,hF⟩:=hF
      cases hF
      repeat first|refine cg ?_|simp -dsimp[h1,q2,h3,q4,h6,q7,h18,↓e20,↓e26]
      all_goals(try first|omega|rfl)
     ·repeat first|refine cg ?_|simp -dsimp[h1,q2,h3,q4,h6,q7,h18,q19]
      revert hF;refine abr.sp ?_ ?_<;>intro h31 q32 hF
      ·repeat first|refine cg ?_|simp -dsimp[h1,q2,h3,q4,h6,q7,h18,q19,h31]
       refine ADraw.simple follows (by kernel_rfl) (by kernel_rfl) ?_
       repeat first|refine cg ?_|simp -dsimp[h1,q2,h3,q4,h6,q7,h18,q19,h31]
       have hF:=ob hF;obtain⟨v33,e34,hF⟩:=hF
       refine((C.f82 B hB1 hB2 p.var v33 e34)).pgoW (by first|simp[h1,q2,h3,q4,h6,q7,h18,q19,h31];done|simp_all) (by simp) ?_
       have hF:=oc hF;obtain⟨c35,hF⟩:=hF
       have hF:=ob hF;obtain⟨x36,e37,hF⟩:=hF
       have le37:=lt_of_get e37
       repeat first|refine cg ?_|simp -dsimp[h1,q2,h3,q4,h6,q7,h18,q19,h31,↓e37]
       have hF:=ob hF;obtain⟨v38,e39,hF⟩:=hF
       refine((ih_f83 t x36 v38 e39)).pgoW (by first|simp[h1,q2,h3,q4,h6,q7,h18,q19,h31,↓e37];done|simp_all) (by simp) ?_
       have hF:=oc hF;obtain⟨c40,hF⟩:=hF
       cases hF
       repeat first|refine cg ?_|simp -dsimp[h1,q2,h3,q4,h6,q7,h18,q19,h31,↓e37]
       all_goals(try first|omega|rfl)
      ·repeat first|refine cg ?_|simp -dsimp[h1,q2,h3,q4,h6,q7,h18,q19,h31,q32]
       refine ADraw.simple follows (by kernel_rfl) (by kernel_rfl) ?_
       have hF:=ob hF;obtain⟨x41,e42a,hF⟩:=hF
       have e42a:=at_some e42a;obtain⟨ne42,e42⟩:=e42a
       have le42:=lt_of_get e42
       have hF:=ob hF;obtain⟨x43,e44a,hF⟩:=hF
       have e44a:=at_some e44a;obtain⟨ne44,e44⟩:=e44a
       have le44:=lt_of_get e44
       repeat first|refine cg ?_|simp -dsimp[h1,q2,h3,q4,h6,q7,h18,q19,h31,q32,↓e42,↓e44]
       have hF:=ob hF;obtain⟨v45,e46,hF⟩:=hF
       refine((C.f44 B hB1 hB2 w t p.ctor v45 e46)).goW (by first|simp[h1,q2,h3,q4,h6,q7,h18,q19,h31,q32,↓e42,↓e44];done|simp_all) (by simp) ?_
       repeat first|refine cg ?_|simp -dsimp[h1,q2,h3,q4,h6,q7,h18,q19,h31,q32,↓e42,↓e44]
       have hF:=ob hF;obtain⟨o',ho71,hF⟩:=hF
       refine ALoop.goU _ ?_ ((ih_f84 p v45 x43.name 0 o' ho71) _ rfl _ ?_)
       ·exact(Gh.to3 (by simp) (by first|simp -dsimp[h1,q2,h3,q4,h6,q7,h18,q19,h31,q32,↓e42,↓e44];done|simp_all))
       repeat first|refine cg ?_|simp -dsimp
       revert hF;refine abr.sp ?_ ?_<;>intro h72 q73 hF
       ·have z74:(0<(v45.length:Int)):=auz
        have hF:=oc hF;obtain⟨c75,hF⟩:=hF
        cases hF
        repeat first|refine cg ?_|simp -dsimp[h72,z74]
        all_goals(try first|omega|rfl)
       ·have z74:¬(0<(v45.length:Int)):=auz
        cases hF
        repeat first|refine cg ?_|simp -dsimp[h72,q73,z74]
        all_goals(try first|omega|rfl)
 ·intro _f_f83 _f_f84 ih_f83 ih_f84 p v45 out i o hF
  intro c hc Q hq
  obtain rfl:c=_:=navEq hc rfl
  refine ALoopU.know fun hk hs=> ?_
  have b0:=hk 0
  simp -dsimp at b0
  have b8:=hk 8
  simp -dsimp at b8
  have d1:=hs 1 _ rfl
  simp -dsimp[Blk.bnd]at d1
  clear hk hs
  refine ALoopU.enter ?_
  repeat first|refine cg ?_|simp -dsimp
  revert hF;refine abr.sp ?_ ?_<;>intro h47 q48 hF
  ·have z49:((i:Int)<(v45.length:Int)):=auz
   repeat first|refine cg ?_|simp -dsimp[h47,z49]
   revert hF;refine abr.sp ?_ ?_<;>intro h50 q51 hF
   ·have z52:((i:Int)=0):=auz
    have hF:=oc hF;obtain⟨c53,hF⟩:=hF
    repeat first|refine cg ?_|simp -dsimp[h47,z49,eq_true h50,eq_true z52]
    refine ADraw.simple follows (by kernel_rfl) (by kernel_rfl) ?_
    have hF:=ob hF;obtain⟨x54,e55,hF⟩:=hF
    have le55:=lt_of_get e55
    have hF:=ob hF;obtain⟨x56,e57,hF⟩:=hF
    have le57:=lt_of_get e57
    repeat first|refine cg ?_|simp -dsimp[h47,z49,eq_true h50,eq_true z52,↓e55,↓e57]
    have hF:=ob hF;obtain⟨v58,e59,hF⟩:=hF
    refine((ih_f83 x54 x56 v58 e59)).pgoW (by first|simp[h47,z49,eq_true h50,eq_true z52,↓e55,↓e57];done|simp_all) (by simp) ?_
    have hF:=oc hF;obtain⟨c60,hF⟩:=hF
    have w61:IntKind.i64.wrap ((i:Int)+1)=(i:Int)+1:=wrap_in (by omega) (by omega)
    repeat first|refine cg ?_|simp -dsimp[h47,z49,eq_true h50,eq_true z52,↓e55,↓e57,w61]
    refine Again.go _ ?_ ((ih_f84 p v45 ((out++(⟨#[40]⟩:ByteArray))++v58) (i+1) o hF) _ rfl _ hq)
    exact(Gh.to3 (by simp) (by first|simp -dsimp[h47,z49,eq_true h50,eq_true z52,↓e55,↓e57,w61];done|simp_all))
   ·have z52:¬((i:Int)=0):=auz
    have hF:=oc hF;obtain⟨c62,hF⟩:=hF
    repeat first|refine cg ?_|simp -dsimp[h47,z49,h50,q51,z52]
    refine ADraw.simple follows (by kernel_rfl) (by kernel_rfl) ?_
    have hF:=ob hF;obtain⟨x63,e64,hF⟩:=hF
    have le64:=lt_of_get e64
    have hF:=ob hF;obtain⟨x65,e66,hF⟩:=hF
    have le66:=lt_of_get e66
    repeat first|refine cg ?_|simp -dsimp[h47,z49,h50,q51,z52,↓e64,↓e66]
    have hF:=ob hF;obtain⟨v67,e68,hF⟩:=hF
    refine((ih_f83 x63 x65 v67 e68)).pgoW (by first|simp[h47,z49,h50,q51,z52,↓e64,↓e66];done|simp_all) (by simp) ?_
    have hF:=oc hF;obtain⟨c69,hF⟩:=hF
    have w70:IntKind.i64.wrap ((i:Int)+1)=(i:Int)+1:=wrap_in (by omega) (by omega)
    repeat first|refine cg ?_|simp -dsimp[h47,z49,h50,q51,z52,↓e64,↓e66,w70]
    refine Again.go _ ?_ ((ih_f84 p v45 ((out++(⟨#[44]⟩:ByteArray))++v67) (i+1) o hF) _ rfl _ hq)
    exact(Gh.to3 (by simp) (by first|simp -dsimp[h47,z49,h50,q51,z52,↓e64,↓e66,w70];done|simp_all))
  ·have z49:¬((i:Int)<(v45.length:Int)):=auz
   cases hF
   repeat first|refine cg ?_|simp -dsimp[h47,q48,z49]
   refine Leave.go _ (Gh.to3 (by simp) (by first|simp -dsimp[h47,q48,z49];done|simp_all)) hq
theorem C.f85 (w:List Vl.Data)(t:Ty)(c':Clause)(r:ByteArray)(hF:F.f85 w t c'=some r):PureCall Tryz.prog B 132 [.arr (List.map Vl.Data.c w),.agg [.lit (.int .i64 t.data),.lit (.int .i64 t.index)],.agg [.lit (.int .i64 c'.pat.op),.lit (.int .i64 c'.pat.ctor),.lit (.int .i64 c'.pat.n),.lit (.int .i64 c'.pat.m),.lit (.int .i64 c'.pat.var),.arr (List.map Pattern.c c'.pat.kids),.lit (.int .i64 c'.guard.op),.lit (.int .i64 c'.guard.var),.lit (.int .i64 c'.guard.n)]] (.lit (.string r)):=by
 unfold F.f85 at hF
 refine PureCall.enterLe Tryz.func132 (by kernel_rfl) rfl Tryz.ntmps132 (by simp) (by simp) ?_
 repeat first|refine cg ?_|simp -dsimp
 have hF:=ob hF;obtain⟨v,e1,hF⟩:=hF
 refine(((CC.f83 B hB1 hB2 w).1 t c'.pat v e1)).goW (by simp) (by simp) ?_
 repeat first|refine cg ?_|simp -dsimp
 revert hF;refine abr.sp ?_ ?_<;>intro h2 q3 hF
 ·repeat first|refine cg ?_|simp -dsimp[h2]
  refine ADraw.simple follows (by kernel_rfl) (by kernel_rfl) ?_
  have hF:=oc hF;obtain⟨c4,hF⟩:=hF
  repeat first|refine cg ?_|simp -dsimp[h2]
  have hF:=ob hF;obtain⟨v5,e6,hF⟩:=hF
  refine((C.f82 B hB1 hB2 c'.guard.var v5 e6)).pgoW (by first|simp[h2];done|simp_all) (by simp) ?_
  have hF:=oc hF;obtain⟨c7,hF⟩:=hF
  have hF:=oc hF;obtain⟨c8,hF⟩:=hF
  repeat first|refine cg ?_|simp -dsimp[h2]
  have hF:=ob hF;obtain⟨v9,e10,hF⟩:=hF
  refine(((CC.f25 B hB1 hB2) c'.guard.n v9 e10)).pgoW (by first|simp[h2];done|simp_all) (by simp) ?_
  have hF:=oc hF;obtain⟨c11,hF⟩:=hF
  cases hF
  repeat first|refine cg ?_|simp -dsimp[h2]
  all_goals(try first|omega|rfl)
 ·repeat first|refine cg ?_|simp -dsimp[h2,q3]
  revert hF;refine abr.sp ?_ ?_<;>intro h12 q13 hF
  ·repeat first|refine cg ?_|simp -dsimp[h2,q3,h12]
   refine ADraw.simple follows (by kernel_rfl) (by kernel_rfl) ?_
   have hF:=oc hF;obtain⟨c14,hF⟩:=hF
   repeat first|refine cg ?_|simp -dsimp[h2,q3,h12]
   have hF:=ob hF;obtain⟨v15,e16,hF⟩:=hF
   refine((C.f82 B hB1 hB2 c'.guard.var v15 e16)).pgoW (by first|simp[h2,q3,h12];done|simp_all) (by simp) ?_
   have hF:=oc hF;obtain⟨c17,hF⟩:=hF
   have hF:=oc hF;obtain⟨c18,hF⟩:=hF
   repeat first|refine cg ?_|simp -dsimp[h2,q3,h12]
   have hF:=ob hF;obtain⟨v19,e20,hF⟩:=hF
   refine(((CC.f25 B hB1 hB2) c'.guard.n v19 e20)).pgoW (by first|simp[h2,q3,h12];done|simp_all) (by simp) ?_
   have hF:=oc hF;obtain⟨c21,hF⟩:=hF
   cases hF
   repeat first|refine cg ?_|simp -dsimp[h2,q3,h12]
   all_goals(try first|omega|rfl)
  ·cases hF
   repeat first|refine cg ?_|simp -dsimp[h2,q3,h12,q13]
   all_goals(try first|omega|rfl)
theorem CC.f86 (w:List Vl.Data)(t:Ty)(list:List Clause):(∀(out:ByteArray) (i:Nat) (o:ByteArray),F.f86 w t list out i=some o→∀(c:Code),navO [1,1,0,1,0,0] (bodyOf Tryz.f78)=some c→∀(Q:Exit→ASt→Prop),(Q (.exit 0) ⟨[(7,.lit (.string o))],[]⟩)→ALoopU Tryz.prog B 0 29 (hold c .mk) ⟨[(0,.arr (List.map Vl.Data.c w)),(2,.arr (List.map Clause.c list)),(4,.ptr 0 0),(7,.lit (.string out)),(8,.lit (.int .i64 (i:Int)))],[.cells [.lit (.int .i64 t.data),.lit (.int .i64 t.index)]]⟩ (hold Q .mk)):=by
 refine F.f86.partial_correctness w t list
  _
  ?_
 ·intro _f_f86 ih_f86 out i o hF
  intro c hc Q hq
  obtain rfl:c=_:=navEq hc rfl
  refine ALoopU.know fun hk hs=> ?_
  have b0:=hk 0
  simp -dsimp at b0
  have b2:=hk 2
  simp -dsimp at b2
  clear hk hs
  refine ALoopU.enter ?_
  repeat first|refine cg ?_|simp -dsimp
  revert hF;refine abr.sp ?_ ?_<;>intro h1 q2 hF
  ·have z3:((i:Int)<(list.length:Int)):=auz
   repeat first|refine cg ?_|simp -dsimp[h1,z3]
   revert hF;refine abr.sp ?_ ?_<;>intro h4 q5 hF
   ·have z6:(0<(i:Int)):=auz
    have hF:=oc hF;obtain⟨c7,hF⟩:=hF
    repeat first|refine cg ?_|simp -dsimp[h1,z3,h4,z6]
    refine ADraw.simple follows (by kernel_rfl) (by kernel_rfl) ?_
    have hF:=ob hF;obtain⟨x,e8,hF⟩:=hF
    have le8:=lt_of_get e8
    repeat first|refine cg ?_|simp -dsimp[h1,z3,h4,z6,↓e8]
    have hF:=ob hF;obtain⟨v,e9,hF⟩:=hF
    refine((C.f85 B hB1 hB2 w t x v e9)).pgoW (by first|simp[h1,z3,h4,z6,↓e8];done|simp_all) (by simp) ?_
    have hF:=oc hF;obtain⟨c10,hF⟩:=hF
    have w11:IntKind.i64.wrap ((i:Int)+1)=(i:Int)+1:=wrap_in (by omega) (by omega)
    repeat first|refine cg ?_|simp -dsimp[h1,z3,h4,z6,↓e8,w11]
    refine Again.go _ ?_ ((ih_f86 ((out++(⟨#[47]⟩:ByteArray))++v) (i+1) o hF) _ rfl _ hq)
    exact(Gh.to3 (by simp) (by first|simp -dsimp[h1,z3,h4,z6,↓e8,w11];done|simp_all))
   ·have z6:¬(0<(i:Int)):=auz
    repeat first|refine cg ?_|simp -dsimp[h1,z3,h4,q5,z6]
    refine ADraw.simple follows (by kernel_rfl) (by kernel_rfl) ?_
    have hF:=ob hF;obtain⟨x12,e13,hF⟩:=hF
    have le13:=lt_of_get e13
    repeat first|refine cg ?_|simp -dsimp[h1,z3,h4,q5,z6,↓e13]
    have hF:=ob hF;obtain⟨v14,e15,hF⟩:=hF
    refine((C.f85 B hB1 hB2 w t x12 v14 e15)).pgoW (by first|simp[h1,z3,h4,q5,z6,↓e13];done|simp_all) (by simp) ?_
    have hF:=oc hF;obtain⟨c16,hF⟩:=hF
    have w17:IntKind.i64.wrap ((i:Int)+1)=(i:Int)+1:=wrap_in (by omega) (by omega)
    repeat first|refine cg ?_|simp -dsimp[h1,z3,h4,q5,z6,↓e13,w17]
    refine Again.go _ ?_ ((ih_f86 (out++v14) (i+1) o hF) _ rfl _ hq)
    exact(Gh.to3 (by simp) (by first|simp -dsimp[h1,z3,h4,q5,z6,↓e13,w17];done|simp_all))
  ·have z3:¬((i:Int)<(list.length:Int)):=auz
   cases hF
   repeat first|refine cg ?_|simp -dsimp[h1,q2,z3]
   refine Leave.go _ (Gh.to3 (by simp) (by first|simp -dsimp[h1,q2,z3];done|simp_all)) hq
theorem C.f87 (w:List Vl.Data)(t:Ty)(list:List Clause)(r:ByteArray)(hF:F.f87 w t list=some r):PureCall Tryz.prog B 78 [.arr (List.map Vl.Data.c w),.agg [.lit (.int .i64 t.data),.lit (.int .i64 t.index)],.arr (List.map Clause.c list)] (.lit (.string r)):=by
 unfold F.f87 at hF
 refine PureCall.enterLe Tryz.func78 (by kernel_rfl) rfl Tryz.ntmps78 (by simp) (by simp) ?_
 repeat first|refine cg ?_|simp -dsimp
 have hF:=ob hF;obtain⟨o',ho18,hF⟩:=hF
 refine ALoop.goU _ ?_ (((CC.f86 B hB1 hB2 w t list) ByteArray.empty 0 o' ho18) _ rfl _ ?_)
 ·exact(Gh.to3 (by simp) (by simp -dsimp))
 cases hF
 repeat first|refine cg ?_|simp -dsimp
 all_goals(try first|omega|rfl)
theorem CC.f88 (w:List Vl.Data)(t:Ty)(text:ByteArray)(v4:List ByteArray):(∀(out:List Clause) (i:Nat) (o:Lo ((List Clause)×Bool) (List Clause)),F.f88 w t text v4 out i=some o→∀(c:Code),navO [1,1,1,1,0,1,0,0] (bodyOf Tryz.f32)=some c→∀(Q:Exit→ASt→Prop),o.post (fun r=>∀st,Post Tryz.prog Tryz.f32 (fun r' _=>r'.le (.tup [.arr (List.map Clause.c r.1),.lit (.bool r.2)])) .ret st→Q .ret st) (fun s=>Q (.exit 0) ⟨[(0,.arr (List.map Vl.Data.c w)),(2,.lit (.string text)),(4,.ptr 0 0),(8,.own 1 (List.length (α:=Clause) s))],[.cells [.lit (.int .i64 t.data),.lit (.int .i64 t.index)],.elems 9 (List.map Clause.c s)]⟩)→ALoopU Tryz.prog B 0 98 (hold c .mk) ⟨[(0,.arr (List.map Vl.Data.c w)),(2,.lit (.string text)),(4,.ptr 0 0),(8,.own 1 (List.length (α:=Clause) out)),(9,.arr (List.map cS v4)),(10,.lit (.int .i64 (i:Int)))],[.cells [.lit (.int .i64 t.data),.lit (.int .i64 t.index)],.elems 9 (List.map Clause.c out)]⟩ (hold Q .mk)):=by
 refine F.f88.partial_correctness w t text v4
  _
  ?_
 ·intro _f_f88 ih_f88 out i o hF
  intro c hc Q hq
  obtain rfl:c=_:=navEq hc rfl
  refine ALoopU.know fun hk hs=> ?_
  have b0:=hk 0
  simp -dsimp at b0
  have b9:=hk 9
  simp -dsimp at b9
  have d1:=hs 1 _ rfl
  simp -dsimp[Blk.bnd]at d1
  clear hk hs
  refine ALoopU.enter ?_
  repeat first|refine cg ?_|simp -dsimp
  revert hF;refine abr.sp ?_ ?_<;>intro h6 q7 hF
  ·have z8:((i:Int)<(v4.length:Int)):=auz
   repeat first|refine cg ?_|simp -dsimp[h6,z8]
   revert hF;refine abr.sp ?_ ?_<;>intro h9 q10 hF
   ·have z11:((i:Int)≤8):=auz
    repeat first|refine cg ?_|simp -dsimp[h6,z8,h9,z11]
    revert hF;refine abr.ns ?_ ?_<;>intro h12 q13 hF
    ·have hF:=ob hF;obtain⟨x,e14,hF⟩:=hF
     have le14:=lt_of_get e14
     repeat first|refine cg ?_|simp -dsimp[h6,z8,h9,z11,h12,q13,↓e14]
     have hF:=ob hF;obtain⟨v15,e16,hF⟩:=hF
     refine((C.f2 B hB1 hB2 x 32 v15 e16)).goW (by first|simp[h6,z8,h9,z11,h12,q13,↓e14];done|simp_all) (by simp) ?_
     repeat first|refine cg ?_|simp -dsimp[h6,z8,h9,z11,h12,q13,↓e14]
     refine ADraw.eff [] [(0,1),(0,1),(0,1),(0,1),(0,1),(0,2),(0,1),(0,1),(0,2),(0,2),(0,2),(2,2)] [1,2,1,0,0,1,1,0,0,1,1,1] follows (by kernel_rfl) (by kernel_rfl) (by kernel_rfl) ?_
     have hF:=ob hF;obtain⟨x17,e18,hF⟩:=hF
     have le18:=lt_of_get e18
     repeat first|refine cg ?_|simp -dsimp[h6,z8,h9,z11,h12,q13,↓e14,↓e18]
     have hF:=ob hF;obtain⟨v19,e20,hF⟩:=hF
     refine(((CC.f52 B hB1 hB2 w x17).2.2 t 0 10 v19 e20)).pgoW (by first|simp[h6,z8,h9,z11,h12,q13,↓e14,↓e18];done|simp_all) (by simp) ?_
     repeat first|refine cg ?_|simp -dsimp[h6,z8,h9,z11,h12,q13,↓e14,↓e18]
     revert hF;refine abr.sp ?_ ?_<;>intro h21 q22 hF
     ·repeat first|refine cg ?_|simp -dsimp[h6,z8,h9,z11,h12,q13,↓e14,↓e18,h21]
      revert hF;refine abr.ns ?_ ?_<;>intro h23 q24 hF
      ·repeat first|refine cg ?_|simp -dsimp[h6,z8,h9,z11,h12,q13,↓e14,↓e18,h21,h23,q24]
       revert hF;refine abr.sp ?_ ?_<;>intro h25 q26 hF
       ·have z27:(2<(v15.length:Int)):=auz
        cases hF
        repeat first|refine cg ?_|simp -dsimp[h6,z8,h9,z11,h12,q13,↓e14,↓e18,h21,h23,q24,h25,z27]
        refine Leave.go _ (Gh.refl _) (hq _ ?_)
        repeat first|refine cg ?_|simp -dsimp[h6,z8,h9,z11,h12,q13,↓e14,↓e18,h21,h23,q24,h25,z27]
       ·have z27:¬(2<(v15.length:Int)):=auz
        repeat first|refine cg ?_|simp -dsimp[h6,z8,h9,z11,h12,q13,↓e14,↓e18,h21,h23,q24,h25,q26,z27]
        revert hF;refine abr.sp ?_ ?_<;>intro h28 q29 hF
        ·have z30:((v15.length:Int)=2):=auz
         have hF:=ob hF;obtain⟨x31,e32,hF⟩:=hF
         have le32:=lt_of_get e32
         repeat first|refine cg ?_|simp -dsimp[h6,z8,h9,z11,h12,q13,↓e14,↓e18,h21,h23,q24,h25,q26,z27,h28,z30,↓e32]
         have hF:=ob hF;obtain⟨v33,e34,hF⟩:=hF
         refine((C.f55 B hB1 hB2 x31 v33 e34)).goW (by first|simp[h6,z8,h9,z11,h12,q13,↓e14,↓e18,h21,h23,q24,h25,q26,z27,h28,z30,↓e32];done|simp_all) (by simp) ?_
         have hF:=oc hF;obtain⟨c35,hF⟩:=hF
         have w36:IntKind.i64.wrap ((i:Int)+1)=(i:Int)+1:=wrap_in (by omega) (by omega)
         repeat first|refine cg ?_|simp -dsimp[h6,z8,h9,z11,h12,q13,↓e14,↓e18,h21,h23,q24,h25,q26,z27,h28,z30,↓e32,w36]
         refine Again.go _ ?_ ((ih_f88 (out++[(⟨v19.1,v33⟩:Clause)]) (i+1) o hF) _ rfl _ hq)
         exact(Gh.to3 (by simp) (by first|simp -dsimp[h6,z8,h9,z11,h12,q13,↓e14,↓e18,h21,h23,q24,h25,q26,z27,h28,z30,↓e32,w36];done|simp_all))
        ·have z30:¬((v15.length:Int)=2):=auz
         have hF:=oc hF;obtain⟨c37,hF⟩:=hF
         have w38:IntKind.i64.wrap ((i:Int)+1)=(i:Int)+1:=wrap_in (by omega) (by omega)
         repeat first|refine cg ?_|simp -dsimp[h6,z8,h9,z11,h12,q13,↓e14,↓e18,h21,h23,q24,h25,q26,z27,h28,q29,z30,w38]
         refine Again.go _ ?_ ((ih_f88 (out++[(⟨v19.1,(⟨0,0,0⟩:Guard)⟩:Clause)]) (i+1) o hF) _ rfl _ hq)
         exact(Gh.to3 (by simp) (by first|simp -dsimp[h6,z8,h9,z11,h12,q13,↓e14,↓e18,h21,h23,q24,h25,q26,z27,h28,q29,z30,w38];done|simp_all))
      ·cases hF
       repeat first|refine cg ?_|simp -dsimp[h6,z8,h9,z11,h12,q13,↓e14,↓e18,h21,h23,q24]
       refine Leave.go _ (Gh.refl _) (hq _ ?_)
       repeat first|refine cg ?_|simp -dsimp[h6,z8,h9,z11,h12,q13,↓e14,↓e18,h21,h23,q24]
     ·cases hF
      repeat first|refine cg ?_|simp -dsimp[h6,z8,h9,z11,h12,q13,↓e14,↓e18,h21,q22]
      refine Leave.go _ (Gh.refl _) (hq _ ?_)
      repeat first|refine cg ?_|simp -dsimp[h6,z8,h9,z11,h12,q13,↓e14,↓e18,h21,q22]
    ·cases hF
     repeat first|refine cg ?_|simp -dsimp[h6,z8,h9,z11,h12,q13]
     refine Leave.go _ (Gh.to3 (by simp) (by first|simp -dsimp[h6,z8,h9,z11,h12,q13];done|simp_all)) hq
   ·have z11:¬((i:Int)≤8):=auz
    cases hF
    repeat first|refine cg ?_|simp -dsimp[h6,z8,h9,q10,z11]
    refine Leave.go _ (Gh.to3 (by simp) (by first|simp -dsimp[h6,z8,h9,q10,z11];done|simp_all)) hq
  ·have z8:¬((i:Int)<(v4.length:Int)):=auz
   cases hF
   repeat first|refine cg ?_|simp -dsimp[h6,q7,z8]
   refine Leave.go _ (Gh.to3 (by simp) (by first|simp -dsimp[h6,q7,z8];done|simp_all)) hq
theorem C.f89 (w:List Vl.Data)(t:Ty)(text:ByteArray)(r:(List Clause)×Bool)(hF:F.f89 w t text=some r):PureCall Tryz.prog B 32 [.arr (List.map Vl.Data.c w),.agg [.lit (.int .i64 t.data),.lit (.int .i64 t.index)],.lit (.string text)] (.tup [.arr (List.map Clause.c r.1),.lit (.bool r.2)]):=by
 unfold F.f89 at hF
 refine PureCall.enterLe Tryz.func32 (by kernel_rfl) rfl Tryz.ntmps32 (by simp) (by simp) ?_
 repeat first|refine cg ?_|simp -dsimp
 have hF:=ob hF;obtain⟨v,e1,hF⟩:=hF
 refine((C.f39 B hB1 hB2 w t v e1)).goW (by simp) (by simp) ?_
 repeat first|refine cg ?_|simp -dsimp
 revert hF;refine abr.ns (fun h2 q3 hF=> ?_) (fun h2 q3 hF=> ?_)
 ·cases hF
  repeat first|refine cg ?_|simp -dsimp[h2,q3]
  all_goals(try first|omega|rfl)
 ·repeat first|refine cg ?_|simp -dsimp[h2,q3]
  have hF:=ob hF;obtain⟨v4,e5,hF⟩:=hF
  refine((C.f2 B hB1 hB2 text 47 v4 e5)).goW (by first|simp[h2,q3];done|simp_all) (by simp) ?_
  repeat first|refine cg ?_|simp -dsimp[h2,q3]
  have hF:=ob hF;obtain⟨o',ho39,hF⟩:=hF
  refine ALoop.goU _ ?_ (((CC.f88 B hB1 hB2 w t text v4) [] 0 o' ho39) _ rfl _ ?_)
  ·exact(Gh.to3 (by simp) (by first|simp -dsimp[h2,q3];done|simp_all))
  rcases o' with r0|sx
  ·dsimp only at hF
   cases hF
   intro st h
   simpa using h
  ·dsimp only at hF
   repeat first|refine cg ?_|simp -dsimp
   have hF:=ob hF;obtain⟨v40,e41,hF⟩:=hF
   refine((C.f81 B hB1 hB2 w t sx v40 e41)).lend (by simp -dsimp) (by simp -dsimp) ?_
   repeat first|refine cg ?_|simp -dsimp
   revert hF;refine abr.sp (fun h42 q43 hF=> ?_) (fun h42 q43 hF=> ?_)
   ·repeat first|refine cg ?_|simp -dsimp[h42]
    have hF:=ob hF;obtain⟨v44,e45,hF⟩:=hF
    refine((C.f87 B hB1 hB2 w t sx v44 e45)).lend (by first|simp -dsimp[h42];done|simp_all) (by simp -dsimp) ?_
    repeat first|refine cg ?_|simp -dsimp[h42]
    revert hF;refine abr.ns ?_ ?_<;>intro h46 q47 hF
    ·cases hF
     repeat first|refine cg ?_|simp -dsimp[h42,h46,q47]
     all_goals(try first|omega|rfl)
    ·cases hF
     repeat first|refine cg ?_|simp -dsimp[h42,h46,q47]
     all_goals(try first|omega|rfl)
   ·cases hF
    repeat first|refine cg ?_|simp -dsimp[h42,q43]
    all_goals(try first|omega|rfl)
theorem C.f90  (r:List ByteArray)(hF:F.f90=some r):PureCall Tryz.prog B 171 [] (.arr (List.map cS r)):=by
 unfold F.f90 at hF
 refine PureCall.enterLe Tryz.func171 (by kernel_rfl) rfl Tryz.ntmps171 (by simp) (by simp) ?_
 cases hF
 repeat first|refine cg ?_|simp -dsimp
theorem C.f91 (r':T_spec_l17Rd)(r:(List Vl.Data)×T_spec_l17Rd)(hF:F.f91 r'=some r):MutCall Tryz.prog B 133 [.arr (List.map cU r'.f0),.lit (.int .i64 r'.f1)] [.ptr 0 0] (.arr (List.map Vl.Data.c r.1)) [.arr (List.map cU r.2.f0),.lit (.int .i64 r.2.f1)]:=by
 unfold F.f91 at hF
 refine MutCall.enter Tryz.func133 (by kernel_rfl) rfl Tryz.ntmps133 (by simp) (by simp) (by simp) (by simp) ?_
 repeat first|refine cg ?_|simp -dsimp
 have hF:=ob hF;obtain⟨v,e1,hF⟩:=hF
 refine((C.f90 B hB1 hB2 v e1)).goW (by simp) (by simp) ?_
 repeat first|refine cg ?_|simp -dsimp
 have hF:=ob hF;obtain⟨v2,e3,hF⟩:=hF
 refine((C.f0 B hB1 hB2 r' (IntKind.i64.wrap ((v.length:Int) -1)) v2 e3)).go 0 rfl (by simp) (by simp) (by simp) ?_
 have hF:=ob hF;obtain⟨x,e4a,hF⟩:=hF
 have e4a:=at_some e4a;obtain⟨ne4,e4⟩:=e4a
 have le4:=lt_of_get e4
 repeat first|refine cg ?_|simp -dsimp[↓e4]
 have hF:=ob hF;obtain⟨v5,e6,hF⟩:=hF
 refine((C.f37 B hB1 hB2 x v5 e6)).goW (by simp_all) (by simp) ?_
 cases hF
 repeat first|refine cg ?_|simp -dsimp
theorem C.f92 (t:Ty)(r:Int)(hF:F.f92 t=some r):PureCall Tryz.prog B 173 [.agg [.lit (.int .i64 t.data),.lit (.int .i64 t.index)]] (.lit (.int .i64 r)):=by
 unfold F.f92 at hF
 refine PureCall.enterLe Tryz.func173 (by kernel_rfl) rfl Tryz.ntmps173 (by simp) (by simp) ?_
 cases hF
 repeat first|refine cg ?_|simp -dsimp
theorem C.f93 (table:List Int)(t:Ty)(r:Int)(hF:F.f93 table t=some r):PureCall Tryz.prog B 135 [.arr (List.map cI table),.agg [.lit (.int .i64 t.data),.lit (.int .i64 t.index)]] (.lit (.int .i64 r)):=by
 unfold F.f93 at hF
 refine PureCall.enterLe Tryz.func135 (by kernel_rfl) rfl Tryz.ntmps135 (by simp) (by simp) ?_
 repeat first|refine cg ?_|simp -dsimp
 revert hF;refine abr.sp ?_ ?_<;>intro h1 q2 hF
 ·cases hF
  repeat first|refine cg ?_|simp -dsimp[h1]
 ·repeat first|refine cg ?_|simp -dsimp[q2]
  have hF:=ob hF;obtain⟨v,e3,hF⟩:=hF
  refine((C.f92 B hB1 hB2 t v e3)).goW (by simp_all) (by simp) ?_
  have hF:=ob hF;obtain⟨x,e4a,hF⟩:=hF
  have e4a:=at_some e4a;obtain⟨ne4,e4⟩:=e4a
  have le4:=lt_of_get e4
  cases hF
  repeat first|refine cg ?_|simp -dsimp[↓e4]
theorem CC.f94 (table:List Int)(v:List Ty):(∀(most:Int) (i:Nat) (o:Lo Int Int),F.f94 table v most i=some o→∀(c:Code),navO [1,1,1,0,1,0,0] (bodyOf Tryz.f172)=some c→∀(Q:Exit→ASt→Prop),o.post (fun r=>∀st,Post Tryz.prog Tryz.f172 (fun r' _=>r'.le (.lit (.int .i64 r))) .ret st→Q .ret st) (fun s=>Q (.exit 0) ⟨[(10,.lit (.int .i64 s))],[]⟩)→ALoopU Tryz.prog B 0 37 (hold c .mk) ⟨[(1,.arr (List.map cI table)),(9,.arr (List.map Ty.c v)),(10,.lit (.int .i64 most)),(11,.lit (.int .i64 (i:Int)))],[]⟩ (hold Q .mk)):=by
 refine F.f94.partial_correctness table v
  _
  ?_
 ·intro _f_f94 ih_f94 most i o hF
  intro c hc Q hq
  obtain rfl:c=_:=navEq hc rfl
  refine ALoopU.know fun hk hs=> ?_
  have b1:=hk 1
  simp -dsimp at b1
  have b9:=hk 9
  simp -dsimp at b9
  clear hk hs
  refine ALoopU.enter ?_
  repeat first|refine cg ?_|simp -dsimp
  revert hF;refine abr.sp ?_ ?_<;>intro h2 q3 hF
  ·have z4:((i:Int)<(v.length:Int)):=auz
   have hF:=ob hF;obtain⟨x,e5,hF⟩:=hF
   have le5:=lt_of_get e5
   repeat first|refine cg ?_|simp -dsimp[h2,z4,↓e5]
   have hF:=ob hF;obtain⟨v6,e7,hF⟩:=hF
   refine((C.f93 B hB1 hB2 table x v6 e7)).goW (by simp_all) (by simp) ?_
   repeat first|refine cg ?_|simp -dsimp
   revert hF;refine abr.sp ?_ ?_<;>intro h8 q9 hF
   ·cases hF
    repeat first|refine cg ?_|simp -dsimp[eq_true h8]
    refine Leave.go _ (Gh.refl _) (hq _ ?_)
    repeat first|refine cg ?_|simp -dsimp
   ·repeat first|refine cg ?_|simp -dsimp[h8,q9]
    revert hF;refine abr.sp ?_ ?_<;>intro h10 q11 hF
    ·have w12:IntKind.i64.wrap ((i:Int)+1)=(i:Int)+1:=wrap_in (by omega) (by omega)
     repeat first|refine cg ?_|simp -dsimp[h10,w12]
     refine Again.go _ ?_ ((ih_f94 v6 (i+1) o hF) _ rfl _ hq)
     exact(Gh.to3 (by simp) (by simp_all))
    ·have w13:IntKind.i64.wrap ((i:Int)+1)=(i:Int)+1:=wrap_in (by omega) (by omega)
     repeat first|refine cg ?_|simp -dsimp[h10,q11,w13]
     refine Again.go _ ?_ ((ih_f94 most (i+1) o hF) _ rfl _ hq)
     exact(Gh.to3 (by simp) (by simp_all))
  ·have z4:¬((i:Int)<(v.length:Int)):=auz
   cases hF
   repeat first|refine cg ?_|simp -dsimp[h2,q3,z4]
   refine Leave.go _ (Gh.to3 (by simp) (by simp_all)) hq
theorem C.f95 (w:List Vl.Data)(table:List Int)(t:Ty)(ctor:Int)(r:Int)(hF:F.f95 w table t ctor=some r):PureCall Tryz.prog B 172 [.arr (List.map Vl.Data.c w),.arr (List.map cI table),.agg [.lit (.int .i64 t.data),.lit (.int .i64 t.index)],.lit (.int .i64 ctor)] (.lit (.int .i64 r)):=by
 unfold F.f95 at hF
 refine PureCall.enterLe Tryz.func172 (by kernel_rfl) rfl Tryz.ntmps172 (by simp) (by simp) ?_
 repeat first|refine cg ?_|simp -dsimp
 have hF:=ob hF;obtain⟨v,e1,hF⟩:=hF
 refine((C.f44 B hB1 hB2 w t ctor v e1)).goW (by simp) (by simp) ?_
 repeat first|refine cg ?_|simp -dsimp
 have hF:=ob hF;obtain⟨o',ho14,hF⟩:=hF
 refine ALoop.goU _ ?_ (((CC.f94 B hB1 hB2 table v) 0 0 o' ho14) _ rfl _ ?_)
 ·exact(Gh.to3 (by simp) (by simp -dsimp))
 rcases o' with r0|sx
 ·dsimp only at hF
  cases hF
  intro st h
  simpa using h
 ·dsimp only at hF
  cases hF
  repeat first|refine cg ?_|simp -dsimp
theorem CC.f96 (w:List Vl.Data)(n:Nat)(s:Nat)(v:List Int):(∀(table10:List Int) (i:Nat) (o:List Int),F.f96 w n s v table10 i=some o→∀(c:Code),navO [1,1,0,1,0,0,1,0,0,1,0,0,1,0,0,1,1,1,0,0] (bodyOf Tryz.f134)=some c→∀(Q:Exit→ASt→Prop),(Q (.exit 4) ⟨[(0,.arr (List.map Vl.Data.c w)),(3,.own 0 (List.length (α:=Int) o)),(4,.lit (.int .i64 (n:Int))),(5,.lit (.int .i64 (s:Int)))],[.elems 1 (List.map cI o)]⟩)→ALoopU Tryz.prog B 0 70 (hold c .mk) ⟨[(0,.arr (List.map Vl.Data.c w)),(3,.own 0 (List.length (α:=Int) table10)),(4,.lit (.int .i64 (n:Int))),(5,.lit (.int .i64 (s:Int))),(6,.ptr 1 0),(7,.arr (List.map cI v)),(8,.lit (.int .i64 (i:Int)))],[.elems 1 (List.map cI table10),.cells [.lit (.int .i64 (IntKind.i64.wrap ((s:Int).tdiv 4))),.lit (.int .i64 ((s:Int).tmod 4))]]⟩ (hold Q .mk)):=by
 refine F.f96.partial_correctness w n s v
  _
  ?_
 ·intro _f_f96 ih_f96 table10 i o hF
  intro c hc Q hq
  obtain rfl:c=_:=navEq hc rfl
  refine ALoopU.know fun hk hs=> ?_
  have b0:=hk 0
  simp -dsimp at b0
  have b7:=hk 7
  simp -dsimp at b7
  have d0:=hs 0 _ rfl
  simp -dsimp[Blk.bnd]at d0
  clear hk hs
  refine ALoopU.enter ?_
  repeat first|refine cg ?_|simp -dsimp
  revert hF;refine abr.sp ?_ ?_<;>intro h11 q12 hF
  ·have z13:((i:Int)<(v.length:Int)):=auz
   repeat first|refine cg ?_|simp -dsimp[h11,z13]
   refine ADraw.eff [172] [(0,0),(0,0),(0,0),(0,0),(0,0),(0,0),(0,0),(0,1),(1,1)] [1,1,1,1,1,1,1,1,1] follows (by kernel_rfl) (by kernel_rfl) (by kernel_rfl) ?_
   have hF:=ob hF;obtain⟨x,e14,hF⟩:=hF
   have le14:=lt_of_get e14
   repeat first|refine cg ?_|simp -dsimp[h11,z13,↓e14]
   have hF:=ob hF;obtain⟨v15,e16,hF⟩:=hF
   refine((C.f95 B hB1 hB2 w table10 (⟨IntKind.i64.wrap ((s:Int).tdiv 4),(s:Int).tmod 4⟩:Ty) x v15 e16)).elend (by simp -dsimp[h11,z13,↓e14]) (by simp -dsimp) ?_
   repeat first|refine cg ?_|simp -dsimp[h11,z13,↓e14]
   revert hF;refine abr.sp ?_ ?_<;>intro h17 q18 hF
   ·have hF:=ob hF;obtain⟨x19,e20,hF⟩:=hF
    have le20:=lt_of_get e20
    repeat first|refine cg ?_|simp -dsimp[h11,z13,↓e14,h17,↓e20]
    revert hF;refine abr.ns ?_ ?_<;>intro h21 q22 hF
    ·repeat first|refine cg ?_|simp -dsimp[h11,z13,↓e14,h17,↓e20,h21,q22]
     revert hF;refine abr.sp ?_ ?_<;>intro h23 q24 hF
     ·have w25:IntKind.i64.wrap ((i:Int)+1)=(i:Int)+1:=wrap_in (by omega) (by omega)
      repeat first|refine cg ?_|simp -dsimp[h11,z13,↓e14,h17,↓e20,h21,q22,h23,w25]
      refine Again.go _ ?_ ((ih_f96 (table10.set s v15) (i+1) o hF) _ rfl _ hq)
      exact(Gh.to3 (by simp) (by simp -dsimp[h11,z13,↓e14,h17,↓e20,h21,q22,h23,w25]))
     ·have w26:IntKind.i64.wrap ((i:Int)+1)=(i:Int)+1:=wrap_in (by omega) (by omega)
      repeat first|refine cg ?_|simp -dsimp[h11,z13,↓e14,h17,↓e20,h21,q22,h23,q24,w26]
      refine Again.go _ ?_ ((ih_f96 table10 (i+1) o hF) _ rfl _ hq)
      exact(Gh.to3 (by simp) (by simp -dsimp[h11,z13,↓e14,h17,↓e20,h21,q22,h23,q24,w26]))
    ·have w27:IntKind.i64.wrap ((i:Int)+1)=(i:Int)+1:=wrap_in (by omega) (by omega)
     repeat first|refine cg ?_|simp -dsimp[h11,z13,↓e14,h17,↓e20,eq_true h21,eq_true q22,w27]
     refine Again.go _ ?_ ((ih_f96 (table10.set s v15) (i+1) o hF) _ rfl _ hq)
     exact(Gh.to3 (by simp) (by simp -dsimp[h11,z13,↓e14,h17,↓e20,eq_true h21,eq_true q22,w27]))
   ·have w28:IntKind.i64.wrap ((i:Int)+1)=(i:Int)+1:=wrap_in (by omega) (by omega)
    repeat first|refine cg ?_|simp -dsimp[h11,z13,↓e14,h17,q18,w28]
    refine Again.go _ ?_ ((ih_f96 table10 (i+1) o hF) _ rfl _ hq)
    exact(Gh.to3 (by simp) (by simp -dsimp[h11,z13,↓e14,h17,q18,w28]))
  ·have z13:¬((i:Int)<(v.length:Int)):=auz
   cases hF
   repeat first|refine cg ?_|simp -dsimp[h11,q12,z13]
   refine Leave.go _ (Gh.to3 (by simp) (by simp -dsimp[h11,q12,z13])) hq
theorem CC.f97 (w:List Vl.Data)(n:Nat):(∀(table5:List Int) (s:Nat) (o:List Int),F.f97 w n table5 s=some o→∀(c:Code),navO [1,1,0,1,0,0,1,0,0,1,0,0] (bodyOf Tryz.f134)=some c→∀(Q:Exit→ASt→Prop),(Q (.exit 2) ⟨[(0,.arr (List.map Vl.Data.c w)),(3,.own 0 (List.length (α:=Int) o)),(4,.lit (.int .i64 (n:Int)))],[.elems 1 (List.map cI o)]⟩)→ALoopU Tryz.prog B 0 70 (hold c .mk) ⟨[(0,.arr (List.map Vl.Data.c w)),(3,.own 0 (List.length (α:=Int) table5)),(4,.lit (.int .i64 (n:Int))),(5,.lit (.int .i64 (s:Int)))],[.elems 1 (List.map cI table5)]⟩ (hold Q .mk)):=by
 refine F.f97.partial_correctness w n
  _
  ?_
 ·intro _f_f97 ih_f97 table5 s o hF
  intro c hc Q hq
  obtain rfl:c=_:=navEq hc rfl
  refine ALoopU.know fun hk hs=> ?_
  have b0:=hk 0
  simp -dsimp at b0
  have d0:=hs 0 _ rfl
  simp -dsimp[Blk.bnd]at d0
  clear hk hs
  refine ALoopU.enter ?_
  repeat first|refine cg ?_|simp -dsimp
  revert hF;refine abr.sp ?_ ?_<;>intro h6 q7 hF
  ·have z8:((s:Int)<(table5.length:Int)):=auz
   repeat first|refine cg ?_|simp -dsimp[h6,z8]
   have hF:=ob hF;obtain⟨v,e9,hF⟩:=hF
   refine((C.f50 B hB1 hB2 w (⟨IntKind.i64.wrap ((s:Int).tdiv 4),(s:Int).tmod 4⟩:Ty) v e9)).goW (by simp_all) (by simp) ?_
   repeat first|refine cg ?_|simp -dsimp
   have hF:=ob hF;obtain⟨o',ho29,hF⟩:=hF
   refine ALoop.goU _ ?_ (((CC.f96 B hB1 hB2 w n s v) table5 0 o' ho29) _ rfl _ ?_)
   ·exact(Gh.to3 (by simp) (by simp_all))
   have hF:=oc hF;obtain⟨c30,hF⟩:=hF
   have w31:IntKind.i64.wrap ((s:Int)+1)=(s:Int)+1:=wrap_in (by omega) (by omega)
   repeat first|refine cg ?_|simp -dsimp[w31]
   refine Again.go _ ?_ ((ih_f97 o' (s+1) o hF) _ rfl _ hq)
   exact(Gh.to3 (by simp) (by simp_all))
  ·have z8:¬((s:Int)<(table5.length:Int)):=auz
   cases hF
   repeat first|refine cg ?_|simp -dsimp[h6,q7,z8]
   refine Leave.go _ (Gh.to3 (by simp) (by simp_all)) hq
theorem CC.f98 (w:List Vl.Data):(∀(table:List Int) (n:Nat) (o:List Int),F.f98 w table n=some o→∀(c:Code),navO [1,1,0,1,0,0] (bodyOf Tryz.f134)=some c→∀(Q:Exit→ASt→Prop),(Q (.exit 0) ⟨[(3,.own 0 (List.length (α:=Int) o))],[.elems 1 (List.map cI o)]⟩)→ALoopU Tryz.prog B 0 70 (hold c .mk) ⟨[(0,.arr (List.map Vl.Data.c w)),(3,.own 0 (List.length (α:=Int) table)),(4,.lit (.int .i64 (n:Int)))],[.elems 1 (List.map cI table)]⟩ (hold Q .mk)):=by
 refine F.f98.partial_correctness w
  _
  ?_
 ·intro _f_f98 ih_f98 table n o hF
  intro c hc Q hq
  obtain rfl:c=_:=navEq hc rfl
  refine ALoopU.know fun hk hs=> ?_
  have b0:=hk 0
  simp -dsimp at b0
  have d0:=hs 0 _ rfl
  simp -dsimp[Blk.bnd]at d0
  clear hk hs
  refine ALoopU.enter ?_
  repeat first|refine cg ?_|simp -dsimp
  revert hF;refine abr.sp ?_ ?_<;>intro h2 q3 hF
  ·have z4:((n:Int)≤(table.length:Int)):=auz
   repeat first|refine cg ?_|simp -dsimp[h2,z4]
   have hF:=ob hF;obtain⟨o'33,ho32,hF⟩:=hF
   refine ALoop.goU _ ?_ (((CC.f97 B hB1 hB2 w n) table 0 o'33 ho32) _ rfl _ ?_)
   ·exact(Gh.to3 (by simp) (by simp_all))
   have hF:=oc hF;obtain⟨c34,hF⟩:=hF
   have w35:IntKind.i64.wrap ((n:Int)+1)=(n:Int)+1:=wrap_in (by omega) (by omega)
   repeat first|refine cg ?_|simp -dsimp[w35]
   refine Again.go _ ?_ ((ih_f98 o'33 (n+1) o hF) _ rfl _ hq)
   exact(Gh.to3 (by simp) (by simp_all))
  ·have z4:¬((n:Int)≤(table.length:Int)):=auz
   cases hF
   repeat first|refine cg ?_|simp -dsimp[h2,q3,z4]
   refine Leave.go _ (Gh.to3 (by simp) (by simp_all)) hq
theorem C.f99 (w:List Vl.Data)(r:List Int)(hF:F.f99 w=some r):PureCall Tryz.prog B 134 [.arr (List.map Vl.Data.c w)] (.arr (List.map cI r)):=by
 unfold F.f99 at hF
 refine PureCall.enterLe Tryz.func134 (by kernel_rfl) rfl Tryz.ntmps134 (by simp) (by simp) ?_
 have hF:=oc hF;obtain⟨c1,hF⟩:=hF
 repeat first|refine cg ?_|simp -dsimp
 have hF:=ob hF;obtain⟨o'37,ho36,hF⟩:=hF
 refine ALoop.goU _ ?_ (((CC.f98 B hB1 hB2 w) (List.replicate ((IntKind.i64.wrap ((w.length:Int)*4)).toNat) 0) 0 o'37 ho36) _ rfl _ ?_)
 ·exact(Gh.to3 (by simp) (by simp -dsimp))
 cases hF
 repeat first|refine cg ?_|simp -dsimp
theorem C.f100 (r':T_spec_l17Rd)(list:List Int)(r:Int×T_spec_l17Rd)(hF:F.f100 r' list=some r):MutCall Tryz.prog B 94 [.arr (List.map cU r'.f0),.lit (.int .i64 r'.f1)] [.ptr 0 0,.arr (List.map cI list)] (.lit (.int .i64 r.1)) [.arr (List.map cU r.2.f0),.lit (.int .i64 r.2.f1)]:=by
 unfold F.f100 at hF
 refine MutCall.enter Tryz.func94 (by kernel_rfl) rfl Tryz.ntmps94 (by simp) (by simp) (by simp) (by simp) ?_
 repeat first|refine cg ?_|simp -dsimp
 have hF:=ob hF;obtain⟨v,e1,hF⟩:=hF
 refine((C.f0 B hB1 hB2 r' (list.length:Int) v e1)).go 0 rfl (by simp) (by simp) (by simp) ?_
 have hF:=ob hF;obtain⟨x,e2a,hF⟩:=hF
 have e2a:=at_some e2a;obtain⟨ne2,e2⟩:=e2a
 have le2:=lt_of_get e2
 cases hF
 repeat first|refine cg ?_|simp -dsimp[↓e2]
theorem CC.f101 (r':T_spec_l17Rd)(w:List Vl.Data)(table:List Int)(t:Ty)(depth:Int)(v4:List Int):(∀(fine:List Int) (i:Nat) (o:List Int),F.f101 r' w table t depth v4 fine i=some o→∀(c:Code),navO [1,1,1,1,0,1,0,0] (bodyOf Tryz.f136)=some c→∀(Q:Exit→ASt→Prop),(Q (.exit 0) ⟨[(0,.ptr 0 0),(1,.arr (List.map Vl.Data.c w)),(2,.arr (List.map cI table)),(4,.lit (.int .i64 depth)),(8,.ptr 1 0),(10,.ptr 2 0),(12,.own 3 (List.length (α:=Int) o))],[.cells [.arr (List.map cU r'.f0),.lit (.int .i64 r'.f1)],.cells [.lit (.int .i64 t.data),.lit (.int .i64 t.index)],.cells [.lit (.int .i64 0),.lit (.int .i64 0),.lit (.slice none 0 0)],.elems 1 (List.map cI o)]⟩)→ALoopU Tryz.prog B 1 98 (hold c .mk) ⟨[(0,.ptr 0 0),(1,.arr (List.map Vl.Data.c w)),(2,.arr (List.map cI table)),(4,.lit (.int .i64 depth)),(8,.ptr 1 0),(10,.ptr 2 0),(11,.arr (List.map cI v4)),(12,.own 3 (List.length (α:=Int) fine)),(13,.lit (.int .i64 (i:Int)))],[.cells [.arr (List.map cU r'.f0),.lit (.int .i64 r'.f1)],.cells [.lit (.int .i64 t.data),.lit (.int .i64 t.index)],.cells [.lit (.int .i64 0),.lit (.int .i64 0),.lit (.slice none 0 0)],.elems 1 (List.map cI fine)]⟩ (hold Q .mk)):=by
 refine F.f101.partial_correctness r' w table t depth v4
  _
  ?_
 ·intro _f_f101 ih_f101 fine i o hF
  intro c hc Q hq
  obtain rfl:c=_:=navEq hc rfl
  refine ALoopU.know fun hk hs=> ?_
  have b1:=hk 1
  simp -dsimp at b1
  have b2:=hk 2
  simp -dsimp at b2
  have b11:=hk 11
  simp -dsimp at b11
  have d0:=hs 0 _ rfl
  simp -dsimp[Blk.bnd]at d0
  have d3:=hs 3 _ rfl
  simp -dsimp[Blk.bnd]at d3
  clear hk hs
  refine ALoopU.enter ?_
  repeat first|refine cg ?_|simp -dsimp
  revert hF;refine abr.sp ?_ ?_<;>intro h6 q7 hF
  ·have z8:((i:Int)<(v4.length:Int)):=auz
   repeat first|refine cg ?_|simp -dsimp[h6,z8]
   refine ADraw.simple follows (by kernel_rfl) (by kernel_rfl) ?_
   have hF:=ob hF;obtain⟨x,e9,hF⟩:=hF
   have le9:=lt_of_get e9
   repeat first|refine cg ?_|simp -dsimp[h6,z8,↓e9]
   have hF:=ob hF;obtain⟨v10,e11,hF⟩:=hF
   refine((C.f95 B hB1 hB2 w table t x v10 e11)).pgoW (by simp[h6,z8,↓e9]) (by simp) ?_
   repeat first|refine cg ?_|simp -dsimp[h6,z8,↓e9]
   revert hF;refine abr.sp ?_ ?_<;>intro h12 q13 hF
   ·repeat first|refine cg ?_|simp -dsimp[h6,z8,↓e9,h12]
    revert hF;refine abr.ns ?_ ?_<;>intro h14 q15 hF
    ·repeat first|refine cg ?_|simp -dsimp[h6,z8,↓e9,h12,h14,q15]
     have hF:=ob hF;obtain⟨v16,e17,hF⟩:=hF
     refine((C.f93 B hB1 hB2 table t v16 e17)).goW (by simp[h6,z8,↓e9,h12,h14,q15]) (by simp) ?_
     repeat first|refine cg ?_|simp -dsimp[h6,z8,↓e9,h12,h14,q15]
     revert hF;refine abr.sp ?_ ?_<;>intro h18 q19 hF
     ·have hF:=oc hF;obtain⟨c20,hF⟩:=hF
      have w21:IntKind.i64.wrap ((i:Int)+1)=(i:Int)+1:=wrap_in (by omega) (by omega)
      repeat first|refine cg ?_|simp -dsimp[h6,z8,↓e9,h12,h14,q15,h18,w21]
      refine Again.go _ ?_ ((ih_f101 (fine++[x]) (i+1) o hF) _ rfl _ hq)
      exact(Gh.to3 (by simp) (by simp -dsimp[h6,z8,↓e9,h12,h14,q15,h18,w21]))
     ·have w22:IntKind.i64.wrap ((i:Int)+1)=(i:Int)+1:=wrap_in (by omega) (by omega)
      repeat first|refine cg ?_|simp -dsimp[h6,z8,↓e9,h12,h14,q15,h18,q19,w22]
      refine Again.go _ ?_ ((ih_f101 fine (i+1) o hF) _ rfl _ hq)
      exact(Gh.to3 (by simp) (by simp -dsimp[h6,z8,↓e9,h12,h14,q15,h18,q19,w22]))
    ·have hF:=oc hF;obtain⟨c23,hF⟩:=hF
     have w24:IntKind.i64.wrap ((i:Int)+1)=(i:Int)+1:=wrap_in (by omega) (by omega)
     repeat first|refine cg ?_|simp -dsimp[h6,z8,↓e9,h12,h14,q15,w24]
     refine Again.go _ ?_ ((ih_f101 (fine++[x]) (i+1) o hF) _ rfl _ hq)
     exact(Gh.to3 (by simp) (by simp -dsimp[h6,z8,↓e9,h12,h14,q15,w24]))
   ·have w25:IntKind.i64.wrap ((i:Int)+1)=(i:Int)+1:=wrap_in (by omega) (by omega)
    repeat first|refine cg ?_|simp -dsimp[h6,z8,↓e9,h12,q13,w25]
    refine Again.go _ ?_ ((ih_f101 fine (i+1) o hF) _ rfl _ hq)
    exact(Gh.to3 (by simp) (by simp -dsimp[h6,z8,↓e9,h12,q13,w25]))
  ·have z8:¬((i:Int)<(v4.length:Int)):=auz
   cases hF
   repeat first|refine cg ?_|simp -dsimp[h6,q7,z8]
   refine Leave.go _ (Gh.to3 (by simp) (by simp -dsimp[h6,q7,z8])) hq
theorem CC.f102 (w:List Vl.Data)(table:List Int):(∀(r':T_spec_l17Rd) (t:Ty) (depth:Int) (r:Vl.Value×T_spec_l17Rd),F.f102 r' w table t depth=some r→MutCall Tryz.prog B 136 [.arr (List.map cU r'.f0),.lit (.int .i64 r'.f1)] [.ptr 0 0,.arr (List.map Vl.Data.c w),.arr (List.map cI table),.agg [.lit (.int .i64 t.data),.lit (.int .i64 t.index)],.lit (.int .i64 depth)] (.agg [.lit (.int .i64 r.1.ctor),.lit (.int .i64 r.1.n),.arr (List.map Vl.Value.c r.1.kids)]) [.arr (List.map cU r.2.f0),.lit (.int .i64 r.2.f1)])∧
  (∀(depth:Int) (x29:Int) (v31:List Ty) (z:List Int) (z33:Int) (out:List Vl.Value) (i34:Nat) (o:(List Int)×Int×(List Vl.Value)),F.f103 w table depth x29 v31 z z33 out i34=some o→∀(c:Code),navO [1,1,1,1,1,1,1,0,1,0,0] (bodyOf Tryz.f136)=some c→∀(Q:Exit→ASt→Prop),(Q (.exit 2) ⟨[(10,.ptr 2 0),(15,.ptr 4 0)],[.cells [.arr (List.map cU o.1),.lit (.int .i64 o.2.1)],.dead,.cells [.lit (.int .i64 0),.lit (.int .i64 0),.lit (.slice none 0 0)],.dead,.cells [.lit (.int .i64 x29),.lit (.int .i64 0),.own 5 (List.length (α:=Vl.Value) o.2.2)],.elems 3 (List.map Vl.Value.c o.2.2)]⟩)→ALoopU Tryz.prog B 1 98 (hold c .mk) ⟨[(0,.ptr 0 0),(1,.arr (List.map Vl.Data.c w)),(2,.arr (List.map cI table)),(4,.lit (.int .i64 depth)),(10,.ptr 2 0),(15,.ptr 4 0),(16,.arr (List.map Ty.c v31)),(17,.lit (.int .i64 (i34:Int)))],[.cells [.arr (List.map cU z),.lit (.int .i64 z33)],.dead,.cells [.lit (.int .i64 0),.lit (.int .i64 0),.lit (.slice none 0 0)],.dead,.cells [.lit (.int .i64 x29),.lit (.int .i64 0),.own 5 (List.length (α:=Vl.Value) out)],.elems 3 (List.map Vl.Value.c out)]⟩ (hold Q .mk)):=by
 refine F.f102.mutual_partial_correctness w table
  _ _
  ?_ ?_
 ·intro _f_f103 ih_f103 r' t depth r hF
  refine MutCall.enter Tryz.func136 (by kernel_rfl) rfl Tryz.ntmps136 (by simp) (by simp) (by simp) (by simp) ?_
  repeat first|refine cg ?_|simp -dsimp
  revert hF;refine abr.sp ?_ ?_<;>intro h1 q2 hF
  ·repeat first|refine cg ?_|simp -dsimp[h1]
   have hF:=ob hF;obtain⟨v,e3,hF⟩:=hF
   refine((C.f0 B hB1 hB2 r' 10 v e3)).go 0 rfl (by simp_all) (by simp) (by simp_all) ?_
   cases hF
   repeat first|refine cg ?_|simp -dsimp
  ·repeat first|refine cg ?_|simp -dsimp[q2]
   have hF:=ob hF;obtain⟨v4,e5,hF⟩:=hF
   refine((C.f50 B hB1 hB2 w t v4 e5)).goW (by simp_all) (by simp) ?_
   repeat first|refine cg ?_|simp -dsimp
   have hF:=ob hF;obtain⟨o',ho26,hF⟩:=hF
   refine ALoop.goU _ ?_ (((CC.f101 B hB1 hB2 r' w table t depth v4) [] 0 o' ho26) _ rfl _ ?_)
   ·exact(Gh.to3 (by simp) (by simp_all))
   repeat first|refine cg ?_|simp -dsimp
   have hF:=ob hF;obtain⟨v27,e28,hF⟩:=hF
   refine((C.f0 B hB1 hB2 r' (o'.length:Int) v27 e28)).go 0 rfl (by simp) (by simp) (by simp) ?_
   have hF:=ob hF;obtain⟨x29,e30a,hF⟩:=hF
   have e30a:=at_some e30a;obtain⟨ne30,e30⟩:=e30a
   have le30:=lt_of_get e30
   repeat first|refine cg ?_|simp -dsimp[↓e30]
   have hF:=ob hF;obtain⟨v31,e32,hF⟩:=hF
   refine((C.f44 B hB1 hB2 w t x29 v31 e32)).goW (by simp_all) (by simp) ?_
   repeat first|refine cg ?_|simp -dsimp
   have hF:=ob hF;obtain⟨o'45,ho44,hF⟩:=hF
   refine ALoop.goU ⟨[(0,.ptr 0 0),(1,.arr (List.map Vl.Data.c w)),(2,.arr (List.map cI table)),(4,.lit (.int .i64 depth)),(10,.ptr 2 0),(15,.ptr 4 0),(16,.arr (List.map Ty.c v31)),(17,.lit (.int .i64 0))],[.cells [.arr (List.map cU v27.2.f0),.lit (.int .i64 v27.2.f1)],.dead,.cells [.lit (.int .i64 0),.lit (.int .i64 0),.lit (.slice none 0 0)],.dead,.cells [.lit (.int .i64 x29),.lit (.int .i64 0),.own 5 (List.length (α:=Vl.Value) [])],.elems 3 (List.map Vl.Value.c [])]⟩ (by refine Gh.trans (Gh.nilCell 4 2 3 (by simp -dsimp;rfl) (by simp -dsimp)) ?_;exact(Gh.to3 (by simp) (by simp_all))) ?_
   refine(ih_f103 depth x29 v31 v27.2.f0 v27.2.f1 [] 0 o'45 ho44) _ rfl _ ?_
   cases hF
   repeat first|refine cg ?_|simp -dsimp
 ·intro _f_f102 _f_f103 ih_f102 ih_f103 depth x29 v31 z z33 out i34 o hF
  intro c hc Q hq
  obtain rfl:c=_:=navEq hc rfl
  refine ALoopU.know fun hk hs=> ?_
  have b1:=hk 1
  simp -dsimp at b1
  have b2:=hk 2
  simp -dsimp at b2
  have b16:=hk 16
  simp -dsimp at b16
  have d0:=hs 0 _ rfl
  simp -dsimp[Blk.bnd]at d0
  have d5:=hs 5 _ rfl
  simp -dsimp[Blk.bnd]at d5
  clear hk hs
  refine ALoopU.enter ?_
  repeat first|refine cg ?_|simp -dsimp
  revert hF;refine abr.sp ?_ ?_<;>intro h35 q36 hF
  ·have z37:((i34:Int)<(v31.length:Int)):=auz
   repeat first|refine cg ?_|simp -dsimp[h35,z37]
   refine ADraw.eff [136] [(0,2),(0,2),(0,0),(0,0),(0,0),(0,0),(0,0),(0,0),(0,0),(0,0),(0,0),(0,4),(0,4),(0,4),(3,3),(0,4)] [0,2,1,1,1,1,1,1,1,1,1,1,1,1,1,1] follows (by kernel_rfl) (by kernel_rfl) (by kernel_rfl) ?_
   have hF:=ob hF;obtain⟨x38,e39,hF⟩:=hF
   have le39:=lt_of_get e39
   repeat first|refine cg ?_|simp -dsimp[↓e39]
   have hF:=ob hF;obtain⟨v40,e41,hF⟩:=hF
   refine((ih_f102 (⟨z,z33⟩:T_spec_l17Rd) x38 (IntKind.i64.wrap (depth-1)) v40 e41)).ego 0 rfl (by simp_all) (by simp) (by simp_all) ?_
   have hF:=oc hF;obtain⟨c42,hF⟩:=hF
   have w43:IntKind.i64.wrap ((i34:Int)+1)=(i34:Int)+1:=wrap_in (by omega) (by omega)
   repeat first|refine cg ?_|simp -dsimp[w43]
   refine Again.go _ ?_ ((ih_f103 depth x29 v31 v40.2.f0 v40.2.f1 (out++[v40.1]) (i34+1) o hF) _ rfl _ hq)
   exact(Gh.to3 (by simp) (by simp_all))
  ·have z37:¬((i34:Int)<(v31.length:Int)):=auz
   cases hF
   repeat first|refine cg ?_|simp -dsimp[h35,q36,z37]
   refine Leave.go _ (Gh.to3 (by simp) (by simp_all)) hq
theorem C.f104 (r':T_spec_l17Rd)(r:(List Vl.Data)×Ty×Vl.Value×T_spec_l17Rd)(hF:F.f104 r'=some r):MutCall Tryz.prog B 79 [.arr (List.map cU r'.f0),.lit (.int .i64 r'.f1)] [.ptr 0 0] (.tup [.arr (List.map Vl.Data.c r.1),.agg [.lit (.int .i64 r.2.1.data),.lit (.int .i64 r.2.1.index)],.agg [.lit (.int .i64 r.2.2.1.ctor),.lit (.int .i64 r.2.2.1.n),.arr (List.map Vl.Value.c r.2.2.1.kids)]]) [.arr (List.map cU r.2.2.2.f0),.lit (.int .i64 r.2.2.2.f1)]:=by
 unfold F.f104 at hF
 refine MutCall.enter Tryz.func79 (by kernel_rfl) rfl Tryz.ntmps79 (by simp) (by simp) (by simp) (by simp) ?_
 repeat first|refine cg ?_|simp -dsimp
 have hF:=ob hF;obtain⟨v,e1,hF⟩:=hF
 refine((C.f91 B hB1 hB2 r' v e1)).go 0 rfl (by simp) (by simp) (by simp) ?_
 repeat first|refine cg ?_|simp -dsimp
 have hF:=ob hF;obtain⟨v2,e3,hF⟩:=hF
 refine((C.f99 B hB1 hB2 v.1 v2 e3)).goW (by simp) (by simp) ?_
 repeat first|refine cg ?_|simp -dsimp
 have hF:=ob hF;obtain⟨v4,e5,hF⟩:=hF
 refine((C.f0 B hB1 hB2 v.2 (v.1.length:Int) v4 e5)).go 0 rfl (by simp) (by simp) (by simp) ?_
 repeat first|refine cg ?_|simp -dsimp
 have hF:=ob hF;obtain⟨v6,e7,hF⟩:=hF
 refine ACall.frz ?_ ((C.f100 B hB1 hB2 v4.2 [0,0,1,2] v6 e7)).ent
 repeat first|refine cg ?_|simp -dsimp
 refine((C.f100 B hB1 hB2 v4.2 [0,0,1,2] v6 e7)).go 0 rfl (by simp) (by simp) (by simp) ?_
 repeat first|refine cg ?_|simp -dsimp
 have hF:=ob hF;obtain⟨v8,e9,hF⟩:=hF
 refine((C.f93 B hB1 hB2 v2 (⟨v4.1,v6.1⟩:Ty) v8 e9)).goW (by simp) (by simp) ?_
 repeat first|refine cg ?_|simp -dsimp
 revert hF;refine abr.sp ?_ ?_<;>intro h10 q11 hF
 ·repeat first|refine cg ?_|simp -dsimp[eq_true h10]
  refine ADraw.eff [94,136] [(0,3),(0,3),(0,2),(0,2),(0,2),(0,2),(0,1),(0,5),(0,5),(0,5),(3,3),(0,5),(0,5)] [1,2,1,1,1,2,1,1,1,1,1,1,1] follows (by kernel_rfl) (by kernel_rfl) (by kernel_rfl) ?_
  repeat first|refine cg ?_|simp -dsimp
  have hF:=ob hF;obtain⟨v12,e13,hF⟩:=hF
  refine ECallA.frz ?_ ((C.f100 B hB1 hB2 v6.2 [3,2,4,1] v12 e13)).ent
  repeat first|refine cg ?_|simp -dsimp
  refine((C.f100 B hB1 hB2 v6.2 [3,2,4,1] v12 e13)).ego 0 rfl (by simp_all) (by simp) (by simp_all) ?_
  repeat first|refine cg ?_|simp -dsimp
  have hF:=ob hF;obtain⟨v14,e15,hF⟩:=hF
  refine(((CC.f102 B hB1 hB2 v.1 v2).1 v12.2 (⟨(-1),0⟩:Ty) v12.1 v14 e15)).ego 0 rfl (by simp_all) (by simp) (by simp_all) ?_
  cases hF
  repeat first|refine cg ?_|simp -dsimp
 ·repeat first|refine cg ?_|simp -dsimp[h10,q11]
  refine ADraw.eff [94,136] [(0,3),(0,3),(0,2),(0,2),(0,2),(0,2),(0,1),(0,5),(0,5),(0,5),(3,3),(0,5),(0,5)] [1,2,1,1,1,2,1,1,1,1,1,1,1] follows (by kernel_rfl) (by kernel_rfl) (by kernel_rfl) ?_
  repeat first|refine cg ?_|simp -dsimp
  have hF:=ob hF;obtain⟨v16,e17,hF⟩:=hF
  refine ECallA.frz ?_ ((C.f100 B hB1 hB2 v6.2 [3,2,4,1] v16 e17)).ent
  repeat first|refine cg ?_|simp -dsimp
  refine((C.f100 B hB1 hB2 v6.2 [3,2,4,1] v16 e17)).ego 0 rfl (by simp_all) (by simp) (by simp_all) ?_
  repeat first|refine cg ?_|simp -dsimp
  have hF:=ob hF;obtain⟨v18,e19,hF⟩:=hF
  refine(((CC.f102 B hB1 hB2 v.1 v2).1 v16.2 (⟨v4.1,v6.1⟩:Ty) v16.1 v18 e19)).ego 0 rfl (by simp_all) (by simp) (by simp_all) ?_
  cases hF
  repeat first|refine cg ?_|simp -dsimp
theorem CC.f105 (w:List Vl.Data):(∀(r':T_spec_l17Rd) (t:Ty) (depth:Int) (r:Pattern×T_spec_l17Rd),F.f105 r' w t depth=some r→MutCall Tryz.prog B 93 [.arr (List.map cU r'.f0),.lit (.int .i64 r'.f1)] [.ptr 0 0,.arr (List.map Vl.Data.c w),.agg [.lit (.int .i64 t.data),.lit (.int .i64 t.index)],.lit (.int .i64 depth)] (.agg [.lit (.int .i64 r.1.op),.lit (.int .i64 r.1.ctor),.lit (.int .i64 r.1.n),.lit (.int .i64 r.1.m),.lit (.int .i64 r.1.var),.arr (List.map Pattern.c r.1.kids)]) [.arr (List.map cU r.2.f0),.lit (.int .i64 r.2.f1)])∧
  (∀(depth:Int) (x:Int) (v30:List Ty) (z:List Int) (z32:Int) (out:List Pattern) (i:Nat) (o:(List Int)×Int×(List Pattern)),F.f106 w depth x v30 z z32 out i=some o→∀(c:Code),navO [1,1,1,1,1,1,1,1,0,1,0,0] (bodyOf Tryz.f93)=some c→∀(Q:Exit→ASt→Prop),(Q (.exit 0) ⟨[(8,.ptr 2 0),(11,.ptr 3 0)],[.cells [.arr (List.map cU o.1),.lit (.int .i64 o.2.1)],.dead,.cells [.lit (.int .i64 0),.lit (.int .i64 0),.lit (.int .i64 0),.lit (.int .i64 0),.lit (.int .i64 0),.lit (.slice none 0 0)],.cells [.lit (.int .i64 4),.lit (.int .i64 x),.lit (.int .i64 0),.lit (.int .i64 0),.lit (.int .i64 0),.own 4 (List.length (α:=Pattern) o.2.2)],.elems 6 (List.map Pattern.c o.2.2)]⟩)→ALoopU Tryz.prog B 1 96 (hold c .mk) ⟨[(0,.ptr 0 0),(1,.arr (List.map Vl.Data.c w)),(3,.lit (.int .i64 depth)),(8,.ptr 2 0),(11,.ptr 3 0),(12,.arr (List.map Ty.c v30)),(13,.lit (.int .i64 (i:Int)))],[.cells [.arr (List.map cU z),.lit (.int .i64 z32)],.dead,.cells [.lit (.int .i64 0),.lit (.int .i64 0),.lit (.int .i64 0),.lit (.int .i64 0),.lit (.int .i64 0),.lit (.slice none 0 0)],.cells [.lit (.int .i64 4),.lit (.int .i64 x),.lit (.int .i64 0),.lit (.int .i64 0),.lit (.int .i64 0),.own 4 (List.length (α:=Pattern) out)],.elems 6 (List.map Pattern.c out)]⟩ (hold Q .mk)):=by
 refine F.f105.mutual_partial_correctness w
  _ _
  ?_ ?_
 ·intro _f_f105 _f_f106 ih_f105 ih_f106 r' t depth r hF
  refine MutCall.enter Tryz.func93 (by kernel_rfl) rfl Tryz.ntmps93 (by simp) (by simp) (by simp) (by simp) ?_
  repeat first|refine cg ?_|simp -dsimp
  revert hF;refine abr.ns ?_ ?_<;>intro h1 q2 hF
  ·repeat first|refine cg ?_|simp -dsimp[h1,q2]
   have hF:=ob hF;obtain⟨v,e3,hF⟩:=hF
   refine((C.f0 B hB1 hB2 r' 4 v e3)).go 0 rfl (by simp[h1,q2]) (by simp) (by simp[h1,q2]) ?_
   repeat first|refine cg ?_|simp -dsimp[h1,q2]
   revert hF;refine abr.sp ?_ ?_<;>intro h4 q5 hF
   ·cases hF
    repeat first|refine cg ?_|simp -dsimp[h1,q2,h4]
   ·repeat first|refine cg ?_|simp -dsimp[h1,q2,h4,q5]
    have hF:=ob hF;obtain⟨v6,e7,hF⟩:=hF
    refine((C.f0 B hB1 hB2 v.2 6 v6 e7)).go 0 rfl (by simp[h1,q2,h4,q5]) (by simp) (by simp[h1,q2,h4,q5]) ?_
    repeat first|refine cg ?_|simp -dsimp[h1,q2,h4,q5]
    revert hF;refine abr.sp ?_ ?_<;>intro h8 q9 hF
    ·repeat first|refine cg ?_|simp -dsimp[h1,q2,h4,q5,h8]
     refine ADraw.eff [93,1000028] [(0,0),(0,0),(0,0),(0,0),(0,0),(0,5),(0,1),(0,1),(0,1),(0,1),(0,1),(0,5),(0,5),(0,5),(0,5)] [1,1,1,1,1,1,1,1,2,1,1,1,1,1,1] follows (by kernel_rfl) (by kernel_rfl) (by kernel_rfl) ?_
     repeat first|refine cg ?_|simp -dsimp[h1,q2,h4,q5,h8]
     have hF:=ob hF;obtain⟨v10,e11,hF⟩:=hF
     refine((ih_f105 v6.2 t (IntKind.i64.wrap (depth-1)) v10 e11)).ego 0 rfl (by simp[h1,q2,h4,q5,h8]) (by simp) (by simp[h1,q2,h4,q5,h8]) ?_
     repeat first|refine cg ?_|simp -dsimp[h1,q2,h4,q5,h8]
     have hF:=ob hF;obtain⟨v12,e13,hF⟩:=hF
     refine((ih_f105 v10.2 t (IntKind.i64.wrap (depth-1)) v12 e13)).ego 0 rfl (by simp[h1,q2,h4,q5,h8]) (by simp) (by simp[h1,q2,h4,q5,h8]) ?_
     cases hF
     repeat first|refine cg ?_|simp -dsimp[h1,q2,h4,q5,h8]
    ·repeat first|refine cg ?_|simp -dsimp[h1,q2,h4,q5,h8,q9]
     revert hF;refine abr.sp ?_ ?_<;>intro h14 q15 hF
     ·repeat first|refine cg ?_|simp -dsimp[h1,q2,h4,q5,h8,q9,h14]
      have hF:=ob hF;obtain⟨v16,e17,hF⟩:=hF
      refine((C.f0 B hB1 hB2 v6.2 10 v16 e17)).go 0 rfl (by simp[h1,q2,h4,q5,h8,q9,h14]) (by simp) (by simp[h1,q2,h4,q5,h8,q9,h14]) ?_
      repeat first|refine cg ?_|simp -dsimp[h1,q2,h4,q5,h8,q9,h14]
      have hF:=ob hF;obtain⟨v18,e19,hF⟩:=hF
      refine((C.f0 B hB1 hB2 v16.2 (IntKind.i64.wrap (10-v16.1)) v18 e19)).go 0 rfl (by simp[h1,q2,h4,q5,h8,q9,h14]) (by simp) (by simp[h1,q2,h4,q5,h8,q9,h14]) ?_
      repeat first|refine cg ?_|simp -dsimp[h1,q2,h4,q5,h8,q9,h14]
      have hF:=ob hF;obtain⟨v20,e21,hF⟩:=hF
      refine((C.f0 B hB1 hB2 v18.2 2 v20 e21)).go 0 rfl (by simp[h1,q2,h4,q5,h8,q9,h14]) (by simp) (by simp[h1,q2,h4,q5,h8,q9,h14]) ?_
      cases hF
      repeat first|refine cg ?_|simp -dsimp[h1,q2,h4,q5,h8,q9,h14]
     ·repeat first|refine cg ?_|simp -dsimp[h1,q2,h4,q5,h8,q9,h14,q15]
      have hF:=ob hF;obtain⟨v22,e23,hF⟩:=hF
      refine((C.f50 B hB1 hB2 w t v22 e23)).goW (by simp[h1,q2,h4,q5,h8,q9,h14,q15]) (by simp) ?_
      repeat first|refine cg ?_|simp -dsimp[h1,q2,h4,q5,h8,q9,h14,q15]
      revert hF;refine abr.sp ?_ ?_<;>intro h24 q25 hF
      ·have z26:((v22.length:Int)=0):=auz
       cases hF
       repeat first|refine cg ?_|simp -dsimp[h1,q2,h4,q5,h8,q9,h14,q15,h24,z26]
      ·have z26:¬((v22.length:Int)=0):=auz
       repeat first|refine cg ?_|simp -dsimp[h1,q2,h4,q5,h8,q9,h14,q15,h24,q25,z26]
       have hF:=ob hF;obtain⟨v27,e28,hF⟩:=hF
       refine((C.f0 B hB1 hB2 v6.2 (v22.length:Int) v27 e28)).go 0 rfl (by simp[h1,q2,h4,q5,h8,q9,h14,q15,h24,q25,z26]) (by simp) (by simp[h1,q2,h4,q5,h8,q9,h14,q15,h24,q25,z26]) ?_
       have hF:=ob hF;obtain⟨x,e29a,hF⟩:=hF
       have e29a:=at_some e29a;obtain⟨ne29,e29⟩:=e29a
       have le29:=lt_of_get e29
       repeat first|refine cg ?_|simp -dsimp[h1,q2,h4,q5,h8,q9,h14,q15,h24,q25,z26,↓e29]
       have hF:=ob hF;obtain⟨v30,e31,hF⟩:=hF
       refine((C.f44 B hB1 hB2 w t x v30 e31)).goW (by simp[h1,q2,h4,q5,h8,q9,h14,q15,h24,q25,z26,↓e29]) (by simp) ?_
       repeat first|refine cg ?_|simp -dsimp[h1,q2,h4,q5,h8,q9,h14,q15,h24,q25,z26,↓e29]
       have hF:=ob hF;obtain⟨o',ho42,hF⟩:=hF
       refine ALoop.goU ⟨[(0,.ptr 0 0),(1,.arr (List.map Vl.Data.c w)),(3,.lit (.int .i64 depth)),(8,.ptr 2 0),(11,.ptr 3 0),(12,.arr (List.map Ty.c v30)),(13,.lit (.int .i64 0))],[.cells [.arr (List.map cU v27.2.f0),.lit (.int .i64 v27.2.f1)],.dead,.cells [.lit (.int .i64 0),.lit (.int .i64 0),.lit (.int .i64 0),.lit (.int .i64 0),.lit (.int .i64 0),.lit (.slice none 0 0)],.cells [.lit (.int .i64 4),.lit (.int .i64 x),.lit (.int .i64 0),.lit (.int .i64 0),.lit (.int .i64 0),.own 4 (List.length (α:=Pattern) [])],.elems 6 (List.map Pattern.c [])]⟩ (by refine Gh.trans (Gh.nilCell 3 5 6 (by simp -dsimp;rfl) (by simp -dsimp)) ?_;exact(Gh.to3 (by simp) (by simp -dsimp[h1,q2,h4,q5,h8,q9,h14,q15,h24,q25,z26,↓e29]))) ?_
       refine(ih_f106 depth x v30 v27.2.f0 v27.2.f1 [] 0 o' ho42) _ rfl _ ?_
       cases hF
       repeat first|refine cg ?_|simp -dsimp
  ·cases hF
   repeat first|refine cg ?_|simp -dsimp[h1,q2]
 ·intro _f_f105 _f_f106 ih_f105 ih_f106 depth x v30 z z32 out i o hF
  intro c hc Q hq
  obtain rfl:c=_:=navEq hc rfl
  refine ALoopU.know fun hk hs=> ?_
  have b1:=hk 1
  simp -dsimp at b1
  have b12:=hk 12
  simp -dsimp at b12
  have d0:=hs 0 _ rfl
  simp -dsimp[Blk.bnd]at d0
  have d4:=hs 4 _ rfl
  simp -dsimp[Blk.bnd]at d4
  clear hk hs
  refine ALoopU.enter ?_
  repeat first|refine cg ?_|simp -dsimp
  revert hF;refine abr.sp ?_ ?_<;>intro h33 q34 hF
  ·have z35:((i:Int)<(v30.length:Int)):=auz
   repeat first|refine cg ?_|simp -dsimp[h33,z35]
   refine ADraw.eff [93] [(0,2),(0,2),(0,0),(0,0),(0,0),(0,0),(0,0),(0,0),(0,0),(0,0),(0,4),(0,4),(0,4),(3,3),(0,4)] [0,2,1,1,1,1,1,1,1,1,1,1,1,1,1] follows (by kernel_rfl) (by kernel_rfl) (by kernel_rfl) ?_
   have hF:=ob hF;obtain⟨x36,e37,hF⟩:=hF
   have le37:=lt_of_get e37
   repeat first|refine cg ?_|simp -dsimp[h33,z35,↓e37]
   have hF:=ob hF;obtain⟨v38,e39,hF⟩:=hF
   refine((ih_f105 (⟨z,z32⟩:T_spec_l17Rd) x36 (IntKind.i64.wrap (depth-1)) v38 e39)).ego 0 rfl (by simp[h33,z35,↓e37]) (by simp) (by simp[h33,z35,↓e37]) ?_
   have hF:=oc hF;obtain⟨c40,hF⟩:=hF
   have w41:IntKind.i64.wrap ((i:Int)+1)=(i:Int)+1:=wrap_in (by omega) (by omega)
   repeat first|refine cg ?_|simp -dsimp[h33,z35,↓e37,w41]
   refine Again.go _ ?_ ((ih_f106 depth x v30 v38.2.f0 v38.2.f1 (out++[v38.1]) (i+1) o hF) _ rfl _ hq)
   exact(Gh.to3 (by simp) (by simp -dsimp[h33,z35,↓e37,w41]))
  ·have z35:¬((i:Int)<(v30.length:Int)):=auz
   cases hF
   repeat first|refine cg ?_|simp -dsimp[h33,q34,z35]
   refine Leave.go _ (Gh.to3 (by simp) (by simp -dsimp[h33,q34,z35])) hq
theorem CC.f107  :(∀(r':T_spec_l17Rd) (p:Pattern) (n:Int) (r:Pattern×Int×T_spec_l17Rd),F.f107 r' p n=some r→MutCall Tryz.prog B 92 [.arr (List.map cU r'.f0),.lit (.int .i64 r'.f1)] [.ptr 0 0,.agg [.lit (.int .i64 p.op),.lit (.int .i64 p.ctor),.lit (.int .i64 p.n),.lit (.int .i64 p.m),.lit (.int .i64 p.var),.arr (List.map Pattern.c p.kids)],.lit (.int .i64 n)] (.tup [.agg [.lit (.int .i64 r.1.op),.lit (.int .i64 r.1.ctor),.lit (.int .i64 r.1.n),.lit (.int .i64 r.1.m),.lit (.int .i64 r.1.var),.arr (List.map Pattern.c r.1.kids)],.lit (.int .i64 r.2.1)]) [.arr (List.map cU r.2.2.f0),.lit (.int .i64 r.2.2.f1)])∧
  (∀(p:Pattern) (n:Int) (z28:List Int) (z29:Int) (out30:List Pattern) (i31:Nat) (next32:Int) (o:(List Int)×Int×(List Pattern)×Int),F.f109 p n z28 z29 out30 i31 next32=some o→∀(c:Code),navO [1,1,1,1,1,1,0,1,0,0] (bodyOf Tryz.f92)=some c→∀(Q:Exit→ASt→Prop),(Q (.exit 0) ⟨[(0,.ptr 0 0),(6,.ptr 2 0),(8,.ptr 3 0),(9,.lit (.int .i64 o.2.2.2))],[.cells [.arr (List.map cU o.1),.lit (.int .i64 o.2.1)],.dead,.cells [.lit (.int .i64 0),.lit (.int .i64 0),.lit (.int .i64 0),.lit (.int .i64 0),.lit (.int .i64 0),.lit (.slice none 0 0)],.cells [.lit (.int .i64 p.op),.lit (.int .i64 p.ctor),.lit (.int .i64 p.n),.lit (.int .i64 p.m),.lit (.int .i64 p.var),.own 4 (List.length (α:=Pattern) o.2.2.1)],.elems 6 (List.map Pattern.c o.2.2.1)]⟩)→ALoopU Tryz.prog B 1 82 (hold c .mk) ⟨[(0,.ptr 0 0),(4,.ptr 1 0),(6,.ptr 2 0),(8,.ptr 3 0),(9,.lit (.int .i64 next32)),(10,.lit (.int .i64 (i31:Int)))],[.cells [.arr (List.map cU z28),.lit (.int .i64 z29)],.cells [.lit (.int .i64 p.op),.lit (.int .i64 p.ctor),.lit (.int .i64 p.n),.lit (.int .i64 p.m),.lit (.int .i64 p.var),.arr (List.map Pattern.c p.kids)],.cells [.lit (.int .i64 0),.lit (.int .i64 0),.lit (.int .i64 0),.lit (.int .i64 0),.lit (.int .i64 0),.lit (.slice none 0 0)],.cells [.lit (.int .i64 p.op),.lit (.int .i64 p.ctor),.lit (.int .i64 p.n),.lit (.int .i64 p.m),.lit (.int .i64 p.var),.own 4 (List.length (α:=Pattern) out30)],.elems 6 (List.map Pattern.c out30)]⟩ (hold Q .mk))∧
  (∀(p:Pattern) (n:Int) (z:List Int) (z12:Int) (out:List Pattern) (i:Nat) (next:Int) (o:(List Int)×Int×(List Pattern)×Int),F.f108 p n z z12 out i next=some o→∀(c:Code),navO [1,1,1,1,1,1,0,1,0,0] (bodyOf Tryz.f92)=some c→∀(Q:Exit→ASt→Prop),(Q (.exit 0) ⟨[(0,.ptr 0 0),(6,.ptr 2 0),(8,.ptr 3 0),(9,.lit (.int .i64 o.2.2.2))],[.cells [.arr (List.map cU o.1),.lit (.int .i64 o.2.1)],.dead,.cells [.lit (.int .i64 0),.lit (.int .i64 0),.lit (.int .i64 0),.lit (.int .i64 0),.lit (.int .i64 0),.lit (.slice none 0 0)],.cells [.lit (.int .i64 p.op),.lit (.int .i64 p.ctor),.lit (.int .i64 p.n),.lit (.int .i64 p.m),.lit (.int .i64 p.var),.own 4 (List.length (α:=Pattern) o.2.2.1)],.elems 6 (List.map Pattern.c o.2.2.1)]⟩)→ALoopU Tryz.prog B 1 82 (hold c .mk) ⟨[(0,.ptr 0 0),(4,.ptr 1 0),(6,.ptr 2 0),(8,.ptr 3 0),(9,.lit (.int .i64 next)),(10,.lit (.int .i64 (i:Int)))],[.cells [.arr (List.map cU z),.lit (.int .i64 z12)],.cells [.lit (.int .i64 p.op),.lit (.int .i64 p.ctor),.lit (.int .i64 p.n),.lit (.int .i64 p.m),.lit (.int .i64 p.var),.arr (List.map Pattern.c p.kids)],.cells [.lit (.int .i64 0),.lit (.int .i64 0),.lit (.int .i64 0),.lit (.int .i64 0),.lit (.int .i64 0),.lit (.slice none 0 0)],.cells [.lit (.int .i64 p.op),.lit (.int .i64 p.ctor),.lit (.int .i64 p.n),.lit (.int .i64 p.m),.lit (.int .i64 p.var),.own 4 (List.length (α:=Pattern) out)],.elems 6 (List.map Pattern.c out)]⟩ (hold Q .mk)):=by
 refine F.f107.mutual_partial_correctness 
  _ _ _
  ?_ ?_ ?_
 ·intro _f_f109 _f_f108 ih_f109 ih_f108 r' p n r hF
  refine MutCall.enter Tryz.func92 (by kernel_rfl) rfl Tryz.ntmps92 (by simp) (by simp) (by simp) (by simp) ?_
  repeat first|refine cg ?_|simp -dsimp
  revert hF;refine abr.ns ?_ ?_<;>intro h1 q2 hF
  ·repeat first|refine cg ?_|simp -dsimp[h1,q2]
   revert hF;refine abr.ns ?_ ?_<;>intro h3 q4 hF
   ·repeat first|refine cg ?_|simp -dsimp[h1,q2,h3,q4]
    revert hF;refine abr.sp ?_ ?_<;>intro h5 q6 hF
    ·cases hF
     repeat first|refine cg ?_|simp -dsimp[h1,q2,h3,q4,h5]
    ·repeat first|refine cg ?_|simp -dsimp[h1,q2,h3,q4,h5,q6]
     revert hF;refine abr.sp ?_ ?_<;>intro h7 q8 hF
     ·repeat first|refine cg ?_|simp -dsimp[h1,q2,h3,q4,h5,q6,h7]
      have hF:=ob hF;obtain⟨v,e9,hF⟩:=hF
      refine((C.f0 B hB1 hB2 r' 2 v e9)).go 0 rfl (by simp[h1,q2,h3,q4,h5,q6,h7]) (by simp) (by simp[h1,q2,h3,q4,h5,q6,h7]) ?_
      repeat first|refine cg ?_|simp -dsimp[h1,q2,h3,q4,h5,q6,h7]
      revert hF;refine abr.sp ?_ ?_<;>intro h10 q11 hF
      ·cases hF
       repeat first|refine cg ?_|simp -dsimp[h1,q2,h3,q4,h5,q6,h7,h10]
      ·repeat first|refine cg ?_|simp -dsimp[h1,q2,h3,q4,h5,q6,h7,h10,q11]
       have hF:=ob hF;obtain⟨o',ho21,hF⟩:=hF
       refine ALoop.goU ⟨[(0,.ptr 0 0),(4,.ptr 1 0),(6,.ptr 2 0),(8,.ptr 3 0),(9,.lit (.int .i64 n)),(10,.lit (.int .i64 0))],[.cells [.arr (List.map cU v.2.f0),.lit (.int .i64 v.2.f1)],.cells [.lit (.int .i64 p.op),.lit (.int .i64 p.ctor),.lit (.int .i64 p.n),.lit (.int .i64 p.m),.lit (.int .i64 p.var),.arr (List.map Pattern.c p.kids)],.cells [.lit (.int .i64 0),.lit (.int .i64 0),.lit (.int .i64 0),.lit (.int .i64 0),.lit (.int .i64 0),.lit (.slice none 0 0)],.cells [.lit (.int .i64 p.op),.lit (.int .i64 p.ctor),.lit (.int .i64 p.n),.lit (.int .i64 p.m),.lit (.int .i64 p.var),.own 4 (List.length (α:=Pattern) [])],.elems 6 (List.map Pattern.c [])]⟩ (by refine Gh.trans (Gh.nilCell 3 5 6 (by simp -dsimp;rfl) (by simp -dsimp)) ?_;exact(Gh.to3 (by simp) (by simp -dsimp[h1,q2,h3,q4,h5,q6,h7,h10,q11]))) ?_
       refine(ih_f108 p n v.2.f0 v.2.f1 [] 0 n o' ho21) _ rfl _ ?_
       repeat first|refine cg ?_|simp -dsimp
       revert hF;refine abr.sp ?_ ?_<;>intro h22 q23 hF
       ·repeat first|refine cg ?_|simp -dsimp[h22]
        have hF:=ob hF;obtain⟨v24,e25,hF⟩:=hF
        refine((C.f0 B hB1 hB2 (⟨o'.1,o'.2.1⟩:T_spec_l17Rd) 6 v24 e25)).go 0 rfl (by simp[h22]) (by simp) (by simp[h22]) ?_
        repeat first|refine cg ?_|simp -dsimp[h22]
        revert hF;refine abr.sp ?_ ?_<;>intro h26 q27 hF
        ·cases hF
         repeat first|refine cg ?_|simp -dsimp[h22,h26]
        ·cases hF
         repeat first|refine cg ?_|simp -dsimp[h22,h26,q27]
       ·cases hF
        repeat first|refine cg ?_|simp -dsimp[h22,q23]
     ·repeat first|refine cg ?_|simp -dsimp[h1,q2,h3,q4,h5,q6,h7,q8]
      have hF:=ob hF;obtain⟨o'43,ho42,hF⟩:=hF
      refine ALoop.goU ⟨[(0,.ptr 0 0),(4,.ptr 1 0),(6,.ptr 2 0),(8,.ptr 3 0),(9,.lit (.int .i64 n)),(10,.lit (.int .i64 0))],[.cells [.arr (List.map cU r'.f0),.lit (.int .i64 r'.f1)],.cells [.lit (.int .i64 p.op),.lit (.int .i64 p.ctor),.lit (.int .i64 p.n),.lit (.int .i64 p.m),.lit (.int .i64 p.var),.arr (List.map Pattern.c p.kids)],.cells [.lit (.int .i64 0),.lit (.int .i64 0),.lit (.int .i64 0),.lit (.int .i64 0),.lit (.int .i64 0),.lit (.slice none 0 0)],.cells [.lit (.int .i64 p.op),.lit (.int .i64 p.ctor),.lit (.int .i64 p.n),.lit (.int .i64 p.m),.lit (.int .i64 p.var),.own 4 (List.length (α:=Pattern) [])],.elems 6 (List.map Pattern.c [])]⟩ (by refine Gh.trans (Gh.nilCell 3 5 6 (by simp -dsimp;rfl) (by simp -dsimp)) ?_;exact(Gh.to3 (by simp) (by simp -dsimp[h1,q2,h3,q4,h5,q6,h7,q8]))) ?_
      refine(ih_f109 p n r'.f0 r'.f1 [] 0 n o'43 ho42) _ rfl _ ?_
      repeat first|refine cg ?_|simp -dsimp
      revert hF;refine abr.sp ?_ ?_<;>intro h44 q45 hF
      ·repeat first|refine cg ?_|simp -dsimp[h44]
       have hF:=ob hF;obtain⟨v46,e47,hF⟩:=hF
       refine((C.f0 B hB1 hB2 (⟨o'43.1,o'43.2.1⟩:T_spec_l17Rd) 6 v46 e47)).go 0 rfl (by simp[h44]) (by simp) (by simp[h44]) ?_
       repeat first|refine cg ?_|simp -dsimp[h44]
       revert hF;refine abr.sp ?_ ?_<;>intro h48 q49 hF
       ·cases hF
        repeat first|refine cg ?_|simp -dsimp[h44,h48]
       ·cases hF
        repeat first|refine cg ?_|simp -dsimp[h44,h48,q49]
      ·cases hF
       repeat first|refine cg ?_|simp -dsimp[h44,q45]
   ·cases hF
    repeat first|refine cg ?_|simp -dsimp[h1,q2,h3,q4]
  ·cases hF
   repeat first|refine cg ?_|simp -dsimp[h1,q2]
 ·intro _f_f107 _f_f109 ih_f107 ih_f109 p n z28 z29 out30 i31 next32 o hF
  intro c hc Q hq
  obtain rfl:c=_:=navEq hc rfl
  refine ALoopU.know fun hk hs=> ?_
  have d0:=hs 0 _ rfl
  simp -dsimp[Blk.bnd]at d0
  have d1:=hs 1 _ rfl
  simp -dsimp[Blk.bnd]at d1
  have d4:=hs 4 _ rfl
  simp -dsimp[Blk.bnd]at d4
  clear hk hs
  refine ALoopU.enter ?_
  repeat first|refine cg ?_|simp -dsimp
  revert hF;refine abr.sp ?_ ?_<;>intro h33 q34 hF
  ·have z35:((i31:Int)<(p.kids.length:Int)):=auz
   have hF:=ob hF;obtain⟨x36,e37,hF⟩:=hF
   have le37:=lt_of_get e37
   repeat first|refine cg ?_|simp -dsimp[h33,z35,↓e37]
   have hF:=ob hF;obtain⟨v38,e39,hF⟩:=hF
   refine((ih_f107 (⟨z28,z29⟩:T_spec_l17Rd) x36 next32 v38 e39)).go 0 rfl (by simp[h33,z35,↓e37]) (by simp) (by simp[h33,z35,↓e37]) ?_
   have hF:=oc hF;obtain⟨c40,hF⟩:=hF
   have w41:IntKind.i64.wrap ((i31:Int)+1)=(i31:Int)+1:=wrap_in (by omega) (by omega)
   repeat first|refine cg ?_|simp -dsimp[h33,z35,↓e37,w41]
   refine Again.go _ ?_ ((ih_f109 p n v38.2.2.f0 v38.2.2.f1 (out30++[v38.1]) (i31+1) v38.2.1 o hF) _ rfl _ hq)
   exact(Gh.to3 (by simp) (by simp -dsimp[h33,z35,↓e37,w41]))
  ·have z35:¬((i31:Int)<(p.kids.length:Int)):=auz
   cases hF
   repeat first|refine cg ?_|simp -dsimp[h33,q34,z35]
   refine Leave.go _ (Gh.to3 (by simp) (by simp -dsimp[h33,q34,z35])) hq
 ·intro _f_f107 _f_f108 ih_f107 ih_f108 p n z z12 out i next o hF
  intro c hc Q hq
  obtain rfl:c=_:=navEq hc rfl
  refine ALoopU.know fun hk hs=> ?_
  have d0:=hs 0 _ rfl
  simp -dsimp[Blk.bnd]at d0
  have d1:=hs 1 _ rfl
  simp -dsimp[Blk.bnd]at d1
  have d4:=hs 4 _ rfl
  simp -dsimp[Blk.bnd]at d4
  clear hk hs
  refine ALoopU.enter ?_
  repeat first|refine cg ?_|simp -dsimp
  revert hF;refine abr.sp ?_ ?_<;>intro h13 q14 hF
  ·have z15:((i:Int)<(p.kids.length:Int)):=auz
   have hF:=ob hF;obtain⟨x,e16,hF⟩:=hF
   have le16:=lt_of_get e16
   repeat first|refine cg ?_|simp -dsimp[h13,z15,↓e16]
   have hF:=ob hF;obtain⟨v17,e18,hF⟩:=hF
   refine((ih_f107 (⟨z,z12⟩:T_spec_l17Rd) x next v17 e18)).go 0 rfl (by simp[h13,z15,↓e16]) (by simp) (by simp[h13,z15,↓e16]) ?_
   have hF:=oc hF;obtain⟨c19,hF⟩:=hF
   have w20:IntKind.i64.wrap ((i:Int)+1)=(i:Int)+1:=wrap_in (by omega) (by omega)
   repeat first|refine cg ?_|simp -dsimp[h13,z15,↓e16,w20]
   refine Again.go _ ?_ ((ih_f108 p n v17.2.2.f0 v17.2.2.f1 (out++[v17.1]) (i+1) v17.2.1 o hF) _ rfl _ hq)
   exact(Gh.to3 (by simp) (by simp -dsimp[h13,z15,↓e16,w20]))
  ·have z15:¬((i:Int)<(p.kids.length:Int)):=auz
   cases hF
   repeat first|refine cg ?_|simp -dsimp[h13,q14,z15]
   refine Leave.go _ (Gh.to3 (by simp) (by simp -dsimp[h13,q14,z15])) hq
theorem C.f110 (r':T_spec_l17Rd)(w:List Vl.Data)(t:Ty)(r:Pattern×T_spec_l17Rd)(hF:F.f110 r' w t=some r):MutCall Tryz.prog B 45 [.arr (List.map cU r'.f0),.lit (.int .i64 r'.f1)] [.ptr 0 0,.arr (List.map Vl.Data.c w),.agg [.lit (.int .i64 t.data),.lit (.int .i64 t.index)]] (.agg [.lit (.int .i64 r.1.op),.lit (.int .i64 r.1.ctor),.lit (.int .i64 r.1.n),.lit (.int .i64 r.1.m),.lit (.int .i64 r.1.var),.arr (List.map Pattern.c r.1.kids)]) [.arr (List.map cU r.2.f0),.lit (.int .i64 r.2.f1)]:=by
 unfold F.f110 at hF
 refine MutCall.enter Tryz.func45 (by kernel_rfl) rfl Tryz.ntmps45 (by simp) (by simp) (by simp) (by simp) ?_
 repeat first|refine cg ?_|simp -dsimp
 refine ADraw.effL [(5,12),(6,12),(7,12),(8,12)] 12 [92,93,94] [(0,3),(0,2),(0,2),(0,2),(0,1),(0,6),(0,6),(0,6),(0,6),(4,5),(4,5),(4,6),(0,6),(0,6),(6,6)] [1,1,1,2,1,1,1,1,1,1,0,0,1,1,1] follows (by kernel_rfl) (by kernel_rfl) (by kernel_rfl) (by kernel_rfl) (by intro d hd;cases hd;rfl) ?_
 repeat first|refine cg ?_|simp -dsimp
 have hF:=ob hF;obtain⟨v,e1,hF⟩:=hF
 refine ECallA.frz ?_ ((C.f100 B hB1 hB2 r' [3,2,4,1] v e1)).ent
 repeat first|refine cg ?_|simp -dsimp
 refine((C.f100 B hB1 hB2 r' [3,2,4,1] v e1)).ego 0 rfl (by simp) (by simp) (by simp) ?_
 repeat first|refine cg ?_|simp -dsimp
 have hF:=ob hF;obtain⟨v2,e3,hF⟩:=hF
 refine(((CC.f105 B hB1 hB2 w).1 v.2 t v.1 v2 e3)).ego 0 rfl (by simp) (by simp) (by simp) ?_
 repeat first|refine cg ?_|simp -dsimp
 have hF:=ob hF;obtain⟨v4,e5,hF⟩:=hF
 refine(((CC.f107 B hB1 hB2).1 v2.2 v2.1 0 v4 e5)).ego 0 rfl (by simp) (by simp) (by simp) ?_
 repeat first|refine cg ?_|simp -dsimp
 have hF:=ob hF;obtain⟨v6,e7,hF⟩:=hF
 refine((C.f77 B hB1 hB2 w t v4.1 v6 e7)).goW (by simp) (by simp) ?_
 repeat first|refine cg ?_|simp -dsimp
 revert hF;refine abr.ns (fun h8 q9 hF=> ?_) (fun h8 q9 hF=> ?_)
 ·cases hF
  repeat first|refine cg ?_|simp -dsimp[h8,q9]
  all_goals(try first|omega|rfl)
 ·cases hF
  repeat first|refine cg ?_|simp -dsimp[h8,q9]
  all_goals(try first|omega|rfl)
theorem CC.f111 (v:Pattern×T_spec_l17Rd)(vars:List VarType):(∀(z:List Int) (z4:Int) (z5:Int) (z6:Int) (z7:Int) (i:Nat) (o:(List Int)×Int×Int×Int×Int),F.f111 v z z4 z5 z6 z7 vars i=some o→∀(c:Code),navO [1,1,1,0,1,0,0] (bodyOf Tryz.f81)=some c→∀(Q:Exit→ASt→Prop),(Q (.exit 0) ⟨[(6,.ptr 2 0),(7,.ptr 3 0)],[.cells [.arr (List.map cU o.1),.lit (.int .i64 o.2.1)],.dead,.cells [.lit (.int .i64 0),.lit (.int .i64 0),.lit (.int .i64 0),.lit (.int .i64 0),.lit (.int .i64 0),.lit (.slice none 0 0),.lit (.int .i64 0),.lit (.int .i64 0),.lit (.int .i64 0)],.cells [.lit (.int .i64 v.1.op),.lit (.int .i64 v.1.ctor),.lit (.int .i64 v.1.n),.lit (.int .i64 v.1.m),.lit (.int .i64 v.1.var),.arr (List.map Pattern.c v.1.kids),.lit (.int .i64 o.2.2.1),.lit (.int .i64 o.2.2.2.1),.lit (.int .i64 o.2.2.2.2)]]⟩)→ALoopU Tryz.prog B 1 51 (hold c .mk) ⟨[(0,.ptr 0 0),(6,.ptr 2 0),(7,.ptr 3 0),(8,.arr (List.map VarType.c vars)),(9,.lit (.int .i64 (i:Int)))],[.cells [.arr (List.map cU z),.lit (.int .i64 z4)],.dead,.cells [.lit (.int .i64 0),.lit (.int .i64 0),.lit (.int .i64 0),.lit (.int .i64 0),.lit (.int .i64 0),.lit (.slice none 0 0),.lit (.int .i64 0),.lit (.int .i64 0),.lit (.int .i64 0)],.cells [.lit (.int .i64 v.1.op),.lit (.int .i64 v.1.ctor),.lit (.int .i64 v.1.n),.lit (.int .i64 v.1.m),.lit (.int .i64 v.1.var),.arr (List.map Pattern.c v.1.kids),.lit (.int .i64 z5),.lit (.int .i64 z6),.lit (.int .i64 z7)],.dead]⟩ (hold Q .mk)):=by
 refine F.f111.partial_correctness v vars
  _
  ?_
 ·intro _f_f111 ih_f111 z z4 z5 z6 z7 i o hF
  intro c hc Q hq
  obtain rfl:c=_:=navEq hc rfl
  refine ALoopU.know fun hk hs=> ?_
  have b8:=hk 8
  simp -dsimp at b8
  have d0:=hs 0 _ rfl
  simp -dsimp[Blk.bnd]at d0
  have d3:=hs 3 _ rfl
  simp -dsimp[Blk.bnd]at d3
  clear hk hs
  refine ALoopU.enter ?_
  repeat first|refine cg ?_|simp -dsimp
  revert hF;refine abr.sp ?_ ?_<;>intro h8 q9 hF
  ·have z10:((i:Int)<(vars.length:Int)):=auz
   have hF:=ob hF;obtain⟨x,e11,hF⟩:=hF
   have le11:=lt_of_get e11
   repeat first|refine cg ?_|simp -dsimp[h8,z10,↓e11]
   revert hF;refine abr.sp ?_ ?_<;>intro h12 q13 hF
   ·repeat first|refine cg ?_|simp -dsimp[h8,z10,↓e11,h12]
    have hF:=ob hF;obtain⟨v14,e15,hF⟩:=hF
    refine((C.f0 B hB1 hB2 (⟨z,z4⟩:T_spec_l17Rd) 2 v14 e15)).go 0 rfl (by simp[h8,z10,↓e11,h12]) (by simp) (by simp[h8,z10,↓e11,h12]) ?_
    repeat first|refine cg ?_|simp -dsimp[h8,z10,↓e11,h12]
    revert hF;refine abr.sp ?_ ?_<;>intro h16 q17 hF
    ·repeat first|refine cg ?_|simp -dsimp[h8,z10,↓e11,h12,h16]
     refine ADraw.eff [30] [(0,0),(0,3),(1,2),(0,2),(0,2),(0,2),(0,2),(0,2),(0,1),(0,3),(2,2),(2,2),(0,3)] [1,1,1,1,1,0,0,0,1,1,1,1,1] follows (by kernel_rfl) (by kernel_rfl) (by kernel_rfl) ?_
     repeat first|refine cg ?_|simp -dsimp[h8,z10,↓e11,h12,h16]
     have hF:=ob hF;obtain⟨v18,e19,hF⟩:=hF
     refine((C.f0 B hB1 hB2 v14.2 2 v18 e19)).ego 0 rfl (by simp[h8,z10,↓e11,h12,h16]) (by simp) (by simp[h8,z10,↓e11,h12,h16]) ?_
     repeat first|refine cg ?_|simp -dsimp[h8,z10,↓e11,h12,h16]
     have hF:=ob hF;obtain⟨v20,e21,hF⟩:=hF
     refine((C.f0 B hB1 hB2 v18.2 10 v20 e21)).ego 0 rfl (by simp[h8,z10,↓e11,h12,h16]) (by simp) (by simp[h8,z10,↓e11,h12,h16]) ?_
     have w22:IntKind.i64.wrap ((i:Int)+1)=(i:Int)+1:=wrap_in (by omega) (by omega)
     repeat first|refine cg ?_|simp -dsimp[h8,z10,↓e11,h12,h16,w22]
     refine Again.go _ ?_ ((ih_f111 v20.2.f0 v20.2.f1 (IntKind.i64.wrap (1+v18.1)) x.var v20.1 (i+1) o hF) _ rfl _ hq)
     exact(Gh.to3 (by simp) (by simp -dsimp[h8,z10,↓e11,h12,h16,w22]))
    ·have w23:IntKind.i64.wrap ((i:Int)+1)=(i:Int)+1:=wrap_in (by omega) (by omega)
     repeat first|refine cg ?_|simp -dsimp[h8,z10,↓e11,h12,h16,q17,w23]
     refine Again.go _ ?_ ((ih_f111 v14.2.f0 v14.2.f1 z5 z6 z7 (i+1) o hF) _ rfl _ hq)
     exact(Gh.to3 (by simp) (by simp -dsimp[h8,z10,↓e11,h12,h16,q17,w23]))
   ·have w24:IntKind.i64.wrap ((i:Int)+1)=(i:Int)+1:=wrap_in (by omega) (by omega)
    repeat first|refine cg ?_|simp -dsimp[h8,z10,↓e11,h12,q13,w24]
    refine Again.go _ ?_ ((ih_f111 z z4 z5 z6 z7 (i+1) o hF) _ rfl _ hq)
    exact(Gh.to3 (by simp) (by simp -dsimp[h8,z10,↓e11,h12,q13,w24]))
  ·have z10:¬((i:Int)<(vars.length:Int)):=auz
   cases hF
   repeat first|refine cg ?_|simp -dsimp[h8,q9,z10]
   refine Leave.go _ (Gh.to3 (by simp) (by simp -dsimp[h8,q9,z10])) hq
theorem C.f112 (r':T_spec_l17Rd)(w:List Vl.Data)(t:Ty)(r:Clause×T_spec_l17Rd)(hF:F.f112 r' w t=some r):MutCall Tryz.prog B 81 [.arr (List.map cU r'.f0),.lit (.int .i64 r'.f1)] [.ptr 0 0,.arr (List.map Vl.Data.c w),.agg [.lit (.int .i64 t.data),.lit (.int .i64 t.index)]] (.agg [.lit (.int .i64 r.1.pat.op),.lit (.int .i64 r.1.pat.ctor),.lit (.int .i64 r.1.pat.n),.lit (.int .i64 r.1.pat.m),.lit (.int .i64 r.1.pat.var),.arr (List.map Pattern.c r.1.pat.kids),.lit (.int .i64 r.1.guard.op),.lit (.int .i64 r.1.guard.var),.lit (.int .i64 r.1.guard.n)]) [.arr (List.map cU r.2.f0),.lit (.int .i64 r.2.f1)]:=by
 unfold F.f112 at hF
 refine MutCall.enter Tryz.func81 (by kernel_rfl) rfl Tryz.ntmps81 (by simp) (by simp) (by simp) (by simp) ?_
 repeat first|refine cg ?_|simp -dsimp
 have hF:=ob hF;obtain⟨v,e1,hF⟩:=hF
 refine((C.f110 B hB1 hB2 r' w t v e1)).go 0 rfl (by simp) (by simp) (by simp) ?_
 repeat first|refine cg ?_|simp -dsimp
 have hF:=ob hF;obtain⟨v2,e3,hF⟩:=hF
 refine ACall.nilArg 0 3 (by simp) ?_
 repeat first|refine cg ?_|simp -dsimp
 refine(((CC.f66 B hB1 hB2 w).1 [] t v.1 v2 e3)).go (pl [4]) (by simp) (by simp) (plInj _ rfl (by decide)) (by intro i hi hi';simp at hi hi';first|omega|(subst hi';simp[pl])) (by simp) (by simp) ?_
 repeat first|refine cg ?_|simp -dsimp
 have hF:=ob hF;obtain⟨o',ho25,hF⟩:=hF
 refine ALoop.goU ⟨[(0,.ptr 0 0),(6,.ptr 2 0),(7,.ptr 3 0),(8,.arr (List.map VarType.c v2)),(9,.lit (.int .i64 0))],[.cells [.arr (List.map cU v.2.f0),.lit (.int .i64 v.2.f1)],.dead,.cells [.lit (.int .i64 0),.lit (.int .i64 0),.lit (.int .i64 0),.lit (.int .i64 0),.lit (.int .i64 0),.lit (.slice none 0 0),.lit (.int .i64 0),.lit (.int .i64 0),.lit (.int .i64 0)],.cells [.lit (.int .i64 v.1.op),.lit (.int .i64 v.1.ctor),.lit (.int .i64 v.1.n),.lit (.int .i64 v.1.m),.lit (.int .i64 v.1.var),.arr (List.map Pattern.c v.1.kids),.lit (.int .i64 0),.lit (.int .i64 0),.lit (.int .i64 0)],.dead]⟩ (by refine Gh.trans (Gh.frzSlot 8 (l:=4) (n:=List.length (α:=VarType) v2) (sz:=3) (es:=List.map VarType.c v2) (by simp) (by simp) (by simp) (by simp)) ?_;exact(Gh.to3 (by simp) (by simp -dsimp))) ?_
 refine((CC.f111 B hB1 hB2 v v2) v.2.f0 v.2.f1 0 0 0 0 o' ho25) _ rfl _ ?_
 cases hF
 repeat first|refine cg ?_|simp -dsimp
theorem C.f113 (r':T_spec_l17Rd)(p:Pattern)(r:Pattern×T_spec_l17Rd)(hF:F.f113 r' p=some r):MutCall Tryz.prog B 47 [.arr (List.map cU r'.f0),.lit (.int .i64 r'.f1)] [.ptr 0 0,.agg [.lit (.int .i64 p.op),.lit (.int .i64 p.ctor),.lit (.int .i64 p.n),.lit (.int .i64 p.m),.lit (.int .i64 p.var),.arr (List.map Pattern.c p.kids)]] (.agg [.lit (.int .i64 r.1.op),.lit (.int .i64 r.1.ctor),.lit (.int .i64 r.1.n),.lit (.int .i64 r.1.m),.lit (.int .i64 r.1.var),.arr (List.map Pattern.c r.1.kids)]) [.arr (List.map cU r.2.f0),.lit (.int .i64 r.2.f1)]:=by
 unfold F.f113 at hF
 refine MutCall.enter Tryz.func47 (by kernel_rfl) rfl Tryz.ntmps47 (by simp) (by simp) (by simp) (by simp) ?_
 have hF:=oc hF;obtain⟨c1,hF⟩:=hF
 repeat first|refine cg ?_|simp -dsimp
 have hF:=ob hF;obtain⟨v,e2,hF⟩:=hF
 refine((C.f0 B hB1 hB2 r' 30 v e2)).go 0 rfl (by simp) (by simp) (by simp) ?_
 repeat first|refine cg ?_|simp -dsimp
 revert hF;refine abr.sp ?_ ?_<;>intro h3 q4 hF
 ·repeat first|refine cg ?_|simp -dsimp[h3]
  have hF:=ob hF;obtain⟨v5,e6,hF⟩:=hF
  refine ACall.frz ?_ ((C.f100 B hB1 hB2 v.2 [0,7,1,2,5] v5 e6)).ent
  repeat first|refine cg ?_|simp -dsimp
  refine((C.f100 B hB1 hB2 v.2 [0,7,1,2,5] v5 e6)).go 0 rfl (by simp_all) (by simp) (by simp_all) ?_
  cases hF
  repeat first|refine cg ?_|simp -dsimp
 ·repeat first|refine cg ?_|simp -dsimp[q4]
  revert hF;refine abr.sp ?_ ?_<;>intro h7 q8 hF
  ·repeat first|refine cg ?_|simp -dsimp[h7]
   have hF:=ob hF;obtain⟨v9,e10,hF⟩:=hF
   refine ACall.frz ?_ ((C.f100 B hB1 hB2 v.2 [6,(-1),1] v9 e10)).ent
   repeat first|refine cg ?_|simp -dsimp
   refine((C.f100 B hB1 hB2 v.2 [6,(-1),1] v9 e10)).go 0 rfl (by simp_all) (by simp) (by simp_all) ?_
   cases hF
   repeat first|refine cg ?_|simp -dsimp
  ·repeat first|refine cg ?_|simp -dsimp[q8]
   revert hF;refine abr.sp ?_ ?_<;>intro h11 q12 hF
   ·repeat first|refine cg ?_|simp -dsimp[h11]
    have hF:=ob hF;obtain⟨v13,e14,hF⟩:=hF
    refine ACall.frz ?_ ((C.f100 B hB1 hB2 v.2 [9,(-1),1] v13 e14)).ent
    repeat first|refine cg ?_|simp -dsimp
    refine((C.f100 B hB1 hB2 v.2 [9,(-1),1] v13 e14)).go 0 rfl (by simp_all) (by simp) (by simp_all) ?_
    cases hF
    repeat first|refine cg ?_|simp -dsimp
   ·repeat first|refine cg ?_|simp -dsimp[q12]
    revert hF;refine abr.sp ?_ ?_<;>intro h15 q16 hF
    ·have hF:=oc hF;obtain⟨c17,hF⟩:=hF
     cases hF
     repeat first|refine cg ?_|simp -dsimp[h15]
    ·repeat first|refine cg ?_|simp -dsimp[q16]
     revert hF;refine abr.sp ?_ ?_<;>intro h18 q19 hF
     ·repeat first|refine cg ?_|simp -dsimp[h18]
      revert hF;refine abr.sp ?_ ?_<;>intro h20 q21 hF
      ·have z22:(0<(p.kids.length:Int)):=auz
       have hF:=ob hF;obtain⟨x,e23,hF⟩:=hF
       have le23:=lt_of_get e23
       cases hF
       repeat first|refine cg ?_|simp -dsimp[h20,z22,↓e23]
      ·have z22:¬(0<(p.kids.length:Int)):=auz
       cases hF
       repeat first|refine cg ?_|simp -dsimp[h20,q21,z22]
     ·repeat first|refine cg ?_|simp -dsimp[q19]
      revert hF;refine abr.sp ?_ ?_<;>intro h24 q25 hF
      ·repeat first|refine cg ?_|simp -dsimp[h24]
       have hF:=ob hF;obtain⟨v26,e27,hF⟩:=hF
       refine ACall.frz ?_ ((C.f100 B hB1 hB2 v.2 [10,(-1),5] v26 e27)).ent
       repeat first|refine cg ?_|simp -dsimp
       refine((C.f100 B hB1 hB2 v.2 [10,(-1),5] v26 e27)).go 0 rfl (by simp_all) (by simp) (by simp_all) ?_
       cases hF
       repeat first|refine cg ?_|simp -dsimp
      ·cases hF
       repeat first|refine cg ?_|simp -dsimp[q25]
theorem CC.f114 (v:Int×T_spec_l17Rd):(∀(out:List Clause) (o:List Clause),F.f114 v out=some o→∀(c:Code),navO [1,1,0,1,0,1,1,1,1,1,0,0,0] (bodyOf Tryz.f80)=some c→∀(Q:Exit→ASt→Prop),(Q (.exit 1) ⟨[(5,.own 1 (List.length (α:=Clause) o))],[.cells [.arr (List.map cU v.2.f0),.lit (.int .i64 v.2.f1)],.elems 9 (List.map Clause.c o)]⟩)→ALoopU Tryz.prog B 1 56 (hold c .mk) ⟨[(5,.own 1 (List.length (α:=Clause) out))],[.cells [.arr (List.map cU v.2.f0),.lit (.int .i64 v.2.f1)],.elems 9 (List.map Clause.c out)]⟩ (hold Q .mk)):=by
 refine F.f114.partial_correctness v
  _
  ?_
 ·intro _f_f114 ih_f114 out o hF
  intro c hc Q hq
  obtain rfl:c=_:=navEq hc rfl
  refine ALoopU.know fun hk hs=> ?_
  have d0:=hs 0 _ rfl
  simp -dsimp[Blk.bnd]at d0
  have d1:=hs 1 _ rfl
  simp -dsimp[Blk.bnd]at d1
  clear hk hs
  refine ALoopU.enter ?_
  repeat first|refine cg ?_|simp -dsimp
  revert hF;refine abr.sp ?_ ?_<;>intro h28 q29 hF
  ·have z30:((out.length:Int)≤8):=auz
   have hF:=oc hF;obtain⟨c31,hF⟩:=hF
   repeat first|refine cg ?_|simp -dsimp[h28,z30]
   refine Again.go _ ?_ ((ih_f114 (out++[(⟨(⟨1,0,0,0,0,[]⟩:Pattern),(⟨0,0,0⟩:Guard)⟩:Clause)]) o hF) _ rfl _ hq)
   exact(Gh.to3 (by simp) (by first|simp -dsimp[h28,z30];done|simp_all))
  ·have z30:¬((out.length:Int)≤8):=auz
   cases hF
   repeat first|refine cg ?_|simp -dsimp[h28,q29,z30]
   refine Leave.go _ (Gh.to3 (by simp) (by first|simp -dsimp[h28,q29,z30];done|simp_all)) hq
theorem C.f115 (r':T_spec_l17Rd)(list:List Clause)(r:(List Clause)×T_spec_l17Rd)(hF:F.f115 r' list=some r):MutCall Tryz.prog B 80 [.arr (List.map cU r'.f0),.lit (.int .i64 r'.f1)] [.ptr 0 0,.arr (List.map Clause.c list)] (.arr (List.map Clause.c r.1)) [.arr (List.map cU r.2.f0),.lit (.int .i64 r.2.f1)]:=by
 unfold F.f115 at hF
 refine MutCall.enter Tryz.func80 (by kernel_rfl) rfl Tryz.ntmps80 (by simp) (by simp) (by simp) (by simp) ?_
 have hF:=oc hF;obtain⟨c1,hF⟩:=hF
 repeat first|refine cg ?_|simp -dsimp
 have hF:=ob hF;obtain⟨v,e2,hF⟩:=hF
 refine((C.f0 B hB1 hB2 r' 24 v e2)).go 0 rfl (by simp) (by simp) (by simp) ?_
 repeat first|refine cg ?_|simp -dsimp
 revert hF;refine abr.sp ?_ ?_<;>intro h3 q4 hF
 ·repeat first|refine cg ?_|simp -dsimp[h3]
  revert hF;refine abr.sp ?_ ?_<;>intro h5 q6 hF
  ·have z7:(0<(list.length:Int)):=auz
   repeat first|refine cg ?_|simp -dsimp[h3,h5,z7]
   have hF:=ob hF;obtain⟨v8,e9,hF⟩:=hF
   refine ACall.frz ?_ ((C.f100 B hB1 hB2 v.2 [1,2,3,(-1)] v8 e9)).ent
   repeat first|refine cg ?_|simp -dsimp[h3,h5,z7]
   refine((C.f100 B hB1 hB2 v.2 [1,2,3,(-1)] v8 e9)).go 0 rfl (by first|simp[h3,h5,z7];done|simp_all) (by simp) (by first|simp[h3,h5,z7];done|simp_all) ?_
   repeat first|refine cg ?_|simp -dsimp[h3,h5,z7]
   have hF:=ob hF;obtain⟨v10,e11,hF⟩:=hF
   refine ACall.frz ?_ ((C.f100 B hB1 hB2 v8.2 [0,5,9] v10 e11)).ent
   repeat first|refine cg ?_|simp -dsimp[h3,h5,z7]
   refine((C.f100 B hB1 hB2 v8.2 [0,5,9] v10 e11)).go 0 rfl (by first|simp[h3,h5,z7];done|simp_all) (by simp) (by first|simp[h3,h5,z7];done|simp_all) ?_
   repeat first|refine cg ?_|simp -dsimp[h3,h5,z7]
   have hF:=ob hF;obtain⟨v12,e13,hF⟩:=hF
   refine ACall.frz ?_ ((C.f100 B hB1 hB2 v10.2 [3,10,(-1)] v12 e13)).ent
   repeat first|refine cg ?_|simp -dsimp[h3,h5,z7]
   refine((C.f100 B hB1 hB2 v10.2 [3,10,(-1)] v12 e13)).go 0 rfl (by first|simp[h3,h5,z7];done|simp_all) (by simp) (by first|simp[h3,h5,z7];done|simp_all) ?_
   have hF:=ob hF;obtain⟨x,e14,hF⟩:=hF
   have le14:=lt_of_get e14
   cases hF
   repeat first|refine cg ?_|simp -dsimp[h3,h5,z7,↓e14]
   all_goals(try first|omega|rfl)
  ·have z7:¬(0<(list.length:Int)):=auz
   cases hF
   repeat first|refine cg ?_|simp -dsimp[h3,h5,q6,z7]
   all_goals(try first|omega|rfl)
 ·repeat first|refine cg ?_|simp -dsimp[h3,q4]
  revert hF;refine abr.sp ?_ ?_<;>intro h15 q16 hF
  ·repeat first|refine cg ?_|simp -dsimp[h3,q4,h15]
   revert hF;refine abr.sp ?_ ?_<;>intro h17 q18 hF
   ·have z19:(0<(list.length:Int)):=auz
    have hF:=ob hF;obtain⟨x20,e21,hF⟩:=hF
    have le21:=lt_of_get e21
    repeat first|refine cg ?_|simp -dsimp[h3,q4,h15,h17,z19,↓e21]
    have hF:=ob hF;obtain⟨v22,e23,hF⟩:=hF
    refine((C.f113 B hB1 hB2 v.2 x20.pat v22 e23)).go 0 rfl (by first|simp[h3,q4,h15,h17,z19,↓e21];done|simp_all) (by simp) (by first|simp[h3,q4,h15,h17,z19,↓e21];done|simp_all) ?_
    repeat first|refine cg ?_|simp -dsimp[h3,q4,h15,h17,z19,↓e21]
    have hF:=ob hF;obtain⟨v24,e25,hF⟩:=hF
    refine((C.f113 B hB1 hB2 v22.2 v22.1 v24 e25)).go 0 rfl (by first|simp[h3,q4,h15,h17,z19,↓e21];done|simp_all) (by simp) (by first|simp[h3,q4,h15,h17,z19,↓e21];done|simp_all) ?_
    cases hF
    repeat first|refine cg ?_|simp -dsimp[h3,q4,h15,h17,z19,↓e21]
    all_goals(try first|omega|rfl)
   ·have z19:¬(0<(list.length:Int)):=auz
    cases hF
    repeat first|refine cg ?_|simp -dsimp[h3,q4,h15,h17,q18,z19]
    all_goals(try first|omega|rfl)
  ·repeat first|refine cg ?_|simp -dsimp[h3,q4,h15,q16]
   revert hF;refine abr.sp ?_ ?_<;>intro h26 q27 hF
   ·repeat first|refine cg ?_|simp -dsimp[h3,q4,h15,q16,h26]
    have hF:=ob hF;obtain⟨o',ho32,hF⟩:=hF
    refine ALoop.goU _ ?_ (((CC.f114 B hB1 hB2 v) list o' ho32) _ rfl _ ?_)
    ·exact(Gh.to3 (by simp) (by first|simp -dsimp[h3,q4,h15,q16,h26];done|simp_all))
    cases hF
    repeat first|refine cg ?_|simp -dsimp
    all_goals(try first|omega|rfl)
   ·cases hF
    repeat first|refine cg ?_|simp -dsimp[h3,q4,h15,q16,h26,q27]
    all_goals(try first|omega|rfl)
theorem C.f116 (code:List Int)(r:(List Vl.Data)×Ty×Clause)(hF:F.f116 code=some r):PureCall Tryz.prog B 33 [.arr (List.map cU code)] (.tup [.arr (List.map Vl.Data.c r.1),.agg [.lit (.int .i64 r.2.1.data),.lit (.int .i64 r.2.1.index)],.agg [.lit (.int .i64 r.2.2.pat.op),.lit (.int .i64 r.2.2.pat.ctor),.lit (.int .i64 r.2.2.pat.n),.lit (.int .i64 r.2.2.pat.m),.lit (.int .i64 r.2.2.pat.var),.arr (List.map Pattern.c r.2.2.pat.kids),.lit (.int .i64 r.2.2.guard.op),.lit (.int .i64 r.2.2.guard.var),.lit (.int .i64 r.2.2.guard.n)]]):=by
 unfold F.f116 at hF
 refine PureCall.enterLe Tryz.func33 (by kernel_rfl) rfl Tryz.ntmps33 (by simp) (by simp) ?_
 repeat first|refine cg ?_|simp -dsimp
 refine ACall.inl Tryz.func29 (by kernel_rfl) rfl Tryz.ntmps29 (by simp) ?_
 repeat first|refine cg ?_|simp -dsimp
 revert hF;refine abr.sp ?_ ?_<;>intro h1 q2 hF
 ·have z3:(2000<(code.length:Int)):=auz
  have hF:=oc hF;obtain⟨c4,hF⟩:=hF
  repeat first|refine cg ?_|simp -dsimp[h1,z3]
  have hF:=ob hF;obtain⟨v,e5,hF⟩:=hF
  refine((C.f104 B hB1 hB2 (⟨(code.drop 0).take (2000-0),0⟩:T_spec_l17Rd) v e5)).go 2 rfl (by first|simp[h1,z3];done|simp_all) (by simp) (by first|simp[h1,z3];done|simp_all) ?_
  repeat first|refine cg ?_|simp -dsimp[h1,z3]
  refine ADraw.eff [80,81] [(0,3),(0,3),(0,2),(0,0),(0,0),(0,0),(0,5),(0,5),(0,5),(3,4),(3,4),(3,3),(0,5),(0,5)] [1,2,1,1,1,1,1,1,1,0,0,1,1,1] follows (by kernel_rfl) (by kernel_rfl) (by kernel_rfl) ?_
  repeat first|refine cg ?_|simp -dsimp[h1,z3]
  have hF:=ob hF;obtain⟨v6,e7,hF⟩:=hF
  refine((C.f112 B hB1 hB2 v.2.2.2 v.1 v.2.1 v6 e7)).ego 2 rfl (by first|simp[h1,z3];done|simp_all) (by simp) (by first|simp[h1,z3];done|simp_all) ?_
  repeat first|refine cg ?_|simp -dsimp[h1,z3]
  have hF:=ob hF;obtain⟨v8,e9,hF⟩:=hF
  refine ECallA.frz ?_ ((C.f115 B hB1 hB2 v6.2 [v6.1] v8 e9)).ent
  repeat first|refine cg ?_|simp -dsimp[h1,z3]
  refine((C.f115 B hB1 hB2 v6.2 [v6.1] v8 e9)).ego 2 rfl (by first|simp[h1,z3];done|simp_all) (by simp) (by first|simp[h1,z3];done|simp_all) ?_
  have hF:=ob hF;obtain⟨x,e10,hF⟩:=hF
  have le10:=lt_of_get e10
  cases hF
  repeat first|refine cg ?_|simp -dsimp[h1,z3,↓e10]
  all_goals(try first|omega|rfl)
 ·have z3:¬(2000<(code.length:Int)):=auz
  repeat first|refine cg ?_|simp -dsimp[h1,q2,z3]
  have hF:=ob hF;obtain⟨v11,e12,hF⟩:=hF
  refine((C.f104 B hB1 hB2 (⟨code,0⟩:T_spec_l17Rd) v11 e12)).go 2 rfl (by first|simp[h1,q2,z3];done|simp_all) (by simp) (by first|simp[h1,q2,z3];done|simp_all) ?_
  repeat first|refine cg ?_|simp -dsimp[h1,q2,z3]
  refine ADraw.eff [80,81] [(0,3),(0,3),(0,2),(0,0),(0,0),(0,0),(0,5),(0,5),(0,5),(3,4),(3,4),(3,3),(0,5),(0,5)] [1,2,1,1,1,1,1,1,1,0,0,1,1,1] follows (by kernel_rfl) (by kernel_rfl) (by kernel_rfl) ?_
  repeat first|refine cg ?_|simp -dsimp[h1,q2,z3]
  have hF:=ob hF;obtain⟨v13,e14,hF⟩:=hF
  refine((C.f112 B hB1 hB2 v11.2.2.2 v11.1 v11.2.1 v13 e14)).ego 2 rfl (by first|simp[h1,q2,z3];done|simp_all) (by simp) (by first|simp[h1,q2,z3];done|simp_all) ?_
  repeat first|refine cg ?_|simp -dsimp[h1,q2,z3]
  have hF:=ob hF;obtain⟨v15,e16,hF⟩:=hF
  refine ECallA.frz ?_ ((C.f115 B hB1 hB2 v13.2 [v13.1] v15 e16)).ent
  repeat first|refine cg ?_|simp -dsimp[h1,q2,z3]
  refine((C.f115 B hB1 hB2 v13.2 [v13.1] v15 e16)).ego 2 rfl (by first|simp[h1,q2,z3];done|simp_all) (by simp) (by first|simp[h1,q2,z3];done|simp_all) ?_
  have hF:=ob hF;obtain⟨x17,e18,hF⟩:=hF
  have le18:=lt_of_get e18
  cases hF
  repeat first|refine cg ?_|simp -dsimp[h1,q2,z3,↓e18]
  all_goals(try first|omega|rfl)
theorem C.f117 (code:List Int)(r:(List Vl.Data)×Ty×Clause)(hF:F.f117 code=some r):PureCall Tryz.prog B 8 [.arr (List.map cU code)] (.tup [.arr (List.map Vl.Data.c r.1),.agg [.lit (.int .i64 r.2.1.data),.lit (.int .i64 r.2.1.index)],.agg [.lit (.int .i64 r.2.2.pat.op),.lit (.int .i64 r.2.2.pat.ctor),.lit (.int .i64 r.2.2.pat.n),.lit (.int .i64 r.2.2.pat.m),.lit (.int .i64 r.2.2.pat.var),.arr (List.map Pattern.c r.2.2.pat.kids),.lit (.int .i64 r.2.2.guard.op),.lit (.int .i64 r.2.2.guard.var),.lit (.int .i64 r.2.2.guard.n)]]):=by
 unfold F.f117 at hF
 refine PureCall.enterLe Tryz.func8 (by kernel_rfl) rfl Tryz.ntmps8 (by simp) (by simp) ?_
 repeat first|refine cg ?_|simp -dsimp
 refine ACall.inl Tryz.func29 (by kernel_rfl) rfl Tryz.ntmps29 (by simp) ?_
 repeat first|refine cg ?_|simp -dsimp
 revert hF;refine abr.sp ?_ ?_<;>intro h1 q2 hF
 ·have z3:(2000<(code.length:Int)):=auz
  have hF:=oc hF;obtain⟨c4,hF⟩:=hF
  repeat first|refine cg ?_|simp -dsimp[h1,z3]
  have hF:=ob hF;obtain⟨v,e5,hF⟩:=hF
  refine((C.f0 B hB1 hB2 (⟨(code.drop 0).take (2000-0),0⟩:T_spec_l17Rd) 2 v e5)).go 2 rfl (by first|simp[h1,z3];done|simp_all) (by simp) (by first|simp[h1,z3];done|simp_all) ?_
  repeat first|refine cg ?_|simp -dsimp[h1,z3]
  revert hF;refine abr.sp ?_ ?_<;>intro h6 q7 hF
  ·repeat first|refine cg ?_|simp -dsimp[h1,z3,h6]
   have hF:=ob hF;obtain⟨v8,e9,hF⟩:=hF
   refine((C.f37 B hB1 hB2 (⟨#[76,61,78,105,108,124,67,111,110,115,40,73,44,76,41]⟩:ByteArray) v8 e9)).goW (by first|simp[h1,z3,h6];done|simp_all) (by simp) ?_
   repeat first|refine cg ?_|simp -dsimp[h1,z3,h6]
   have hF:=ob hF;obtain⟨v10,e11,hF⟩:=hF
   refine((C.f0 B hB1 hB2 v.2 6 v10 e11)).go 2 rfl (by first|simp[h1,z3,h6];done|simp_all) (by simp) (by first|simp[h1,z3,h6];done|simp_all) ?_
   have hF:=ob hF;obtain⟨x,e12a,hF⟩:=hF
   have e12a:=at_some e12a;obtain⟨ne12,e12⟩:=e12a
   have le12:=lt_of_get e12
   have me12:(List.map cS [(⟨#[67,111,110,115,40,97,44,95,41,32,97,60,51]⟩:ByteArray),(⟨#[67,111,110,115,40,97,64,50,45,53,44,98,41,32,97,61,52]⟩:ByteArray),(⟨#[67,111,110,115,40,97,64,40,49,124,55,41,44,95,41,32,97,60,53]⟩:ByteArray),(⟨#[67,111,110,115,40,97,44,67,111,110,115,40,98,44,95,41,41,32,98,60,48]⟩:ByteArray),(⟨#[40,67,111,110,115,40,97,44,78,105,108,41,124,67,111,110,115,40,95,44,67,111,110,115,40,97,44,95,41,41,41,32,97,61,50]⟩:ByteArray),(⟨#[67,111,110,115,40,97,64,51,44,95,41,32,97,61,52]⟩:ByteArray)])[v10.1.toNat]? =some (cS x):=by rw[List.getElem?_map,e12];rfl
   simp only[List.map_cons,List.map_nil,cS_eq,cI_eq]at me12
   repeat first|refine cg ?_|simp -dsimp[h1,z3,h6,↓e12,↓me12]
   have hF:=ob hF;obtain⟨v13,e14,hF⟩:=hF
   refine((C.f89 B hB1 hB2 v8.1 (⟨0,0⟩:Ty) x v13 e14)).goW (by first|simp[h1,z3,h6,↓e12,↓me12];done|simp_all) (by simp) ?_
   repeat first|refine cg ?_|simp -dsimp[h1,z3,h6,↓e12,↓me12]
   refine ADraw.eff [] [(0,0),(0,0),(0,1),(0,1),(0,1),(0,0),(0,2),(0,2)] [1,1,1,0,0,1,1,1] follows (by kernel_rfl) (by kernel_rfl) (by kernel_rfl) ?_
   have hF:=ob hF;obtain⟨x15,e16,hF⟩:=hF
   have le16:=lt_of_get e16
   cases hF
   repeat first|refine cg ?_|simp -dsimp[h1,z3,h6,↓e12,↓me12,↓e16]
   all_goals(try first|omega|rfl)
  ·repeat first|refine cg ?_|simp -dsimp[h1,z3,h6,q7]
   have hF:=ob hF;obtain⟨v17,e18,hF⟩:=hF
   refine((C.f116 B hB1 hB2 code v17 e18)).goW (by first|simp[h1,z3,h6,q7];done|simp_all) (by simp) ?_
   cases hF
   repeat first|refine cg ?_|simp -dsimp[h1,z3,h6,q7]
   all_goals(try first|omega|rfl)
 ·have z3:¬(2000<(code.length:Int)):=auz
  repeat first|refine cg ?_|simp -dsimp[h1,q2,z3]
  have hF:=ob hF;obtain⟨v19,e20,hF⟩:=hF
  refine((C.f0 B hB1 hB2 (⟨code,0⟩:T_spec_l17Rd) 2 v19 e20)).go 2 rfl (by first|simp[h1,q2,z3];done|simp_all) (by simp) (by first|simp[h1,q2,z3];done|simp_all) ?_
  repeat first|refine cg ?_|simp -dsimp[h1,q2,z3]
  revert hF;refine abr.sp ?_ ?_<;>intro h21 q22 hF
  ·repeat first|refine cg ?_|simp -dsimp[h1,q2,z3,h21]
   have hF:=ob hF;obtain⟨v23,e24,hF⟩:=hF
   refine((C.f37 B hB1 hB2 (⟨#[76,61,78,105,108,124,67,111,110,115,40,73,44,76,41]⟩:ByteArray) v23 e24)).goW (by first|simp[h1,q2,z3,h21];done|simp_all) (by simp) ?_
   repeat first|refine cg ?_|simp -dsimp[h1,q2,z3,h21]
   have hF:=ob hF;obtain⟨v25,e26,hF⟩:=hF
   refine((C.f0 B hB1 hB2 v19.2 6 v25 e26)).go 2 rfl (by first|simp[h1,q2,z3,h21];done|simp_all) (by simp) (by first|simp[h1,q2,z3,h21];done|simp_all) ?_
   have hF:=ob hF;obtain⟨x27,e28a,hF⟩:=hF
   have e28a:=at_some e28a;obtain⟨ne28,e28⟩:=e28a
   have le28:=lt_of_get e28
   have me28:(List.map cS [(⟨#[67,111,110,115,40,97,44,95,41,32,97,60,51]⟩:ByteArray),(⟨#[67,111,110,115,40,97,64,50,45,53,44,98,41,32,97,61,52]⟩:ByteArray),(⟨#[67,111,110,115,40,97,64,40,49,124,55,41,44,95,41,32,97,60,53]⟩:ByteArray),(⟨#[67,111,110,115,40,97,44,67,111,110,115,40,98,44,95,41,41,32,98,60,48]⟩:ByteArray),(⟨#[40,67,111,110,115,40,97,44,78,105,108,41,124,67,111,110,115,40,95,44,67,111,110,115,40,97,44,95,41,41,41,32,97,61,50]⟩:ByteArray),(⟨#[67,111,110,115,40,97,64,51,44,95,41,32,97,61,52]⟩:ByteArray)])[v25.1.toNat]? =some (cS x27):=by rw[List.getElem?_map,e28];rfl
   simp only[List.map_cons,List.map_nil,cS_eq,cI_eq]at me28
   repeat first|refine cg ?_|simp -dsimp[h1,q2,z3,h21,↓e28,↓me28]
   have hF:=ob hF;obtain⟨v29,e30,hF⟩:=hF
   refine((C.f89 B hB1 hB2 v23.1 (⟨0,0⟩:Ty) x27 v29 e30)).goW (by first|simp[h1,q2,z3,h21,↓e28,↓me28];done|simp_all) (by simp) ?_
   repeat first|refine cg ?_|simp -dsimp[h1,q2,z3,h21,↓e28,↓me28]
   refine ADraw.eff [] [(0,0),(0,0),(0,1),(0,1),(0,1),(0,0),(0,2),(0,2)] [1,1,1,0,0,1,1,1] follows (by kernel_rfl) (by kernel_rfl) (by kernel_rfl) ?_
   have hF:=ob hF;obtain⟨x31,e32,hF⟩:=hF
   have le32:=lt_of_get e32
   cases hF
   repeat first|refine cg ?_|simp -dsimp[h1,q2,z3,h21,↓e28,↓me28,↓e32]
   all_goals(try first|omega|rfl)
  ·repeat first|refine cg ?_|simp -dsimp[h1,q2,z3,h21,q22]
   have hF:=ob hF;obtain⟨v33,e34,hF⟩:=hF
   refine((C.f116 B hB1 hB2 code v33 e34)).goW (by first|simp[h1,q2,z3,h21,q22];done|simp_all) (by simp) ?_
   cases hF
   repeat first|refine cg ?_|simp -dsimp[h1,q2,z3,h21,q22]
   all_goals(try first|omega|rfl)
theorem C.f118 (n:Int)(low:Int)(high:Int)(r:Bool)(hF:F.f118 n low high=some r):PureCall Tryz.prog B 65 [.lit (.int .i64 n),.lit (.int .i64 low),.lit (.int .i64 high)] (.lit (.bool r)):=by
 unfold F.f118 at hF
 refine PureCall.enterLe Tryz.func65 (by kernel_rfl) rfl Tryz.ntmps65 (by simp) (by simp) ?_
 repeat first|refine cg ?_|simp -dsimp
 revert hF;refine abr.sp ?_ ?_<;>intro h1 q2 hF
 ·cases hF
  repeat first|refine cg ?_|simp -dsimp[h1]
  all_goals(try first|omega|rfl)
 ·cases hF
  repeat first|refine cg ?_|simp -dsimp[h1,q2]
  all_goals(try first|omega|rfl)
theorem CC.f119 (s:ByteArray):(∀(i:Nat) (o:Lo Bool Unit),F.f119 s i=some o→∀(c:Code),navO [1,1,0,1,0,0] (bodyOf Tryz.f191)=some c→∀(Q:Exit→ASt→Prop),o.post (fun r=>∀st,Post Tryz.prog Tryz.f191 (fun r' _=>r'.le (.lit (.bool r))) .ret st→Q .ret st) (fun s=>Q (.exit 0) ⟨[],[]⟩)→ALoopU Tryz.prog B 0 34 (hold c .mk) ⟨[(0,.lit (.string s)),(3,.lit (.int .i64 (i:Int)))],[]⟩ (hold Q .mk)):=by
 refine F.f119.partial_correctness s
  _
  ?_
 ·intro _f_f119 ih_f119 i o hF
  intro c hc Q hq
  obtain rfl:c=_:=navEq hc rfl
  refine ALoopU.know fun hk hs=> ?_
  clear hk hs
  refine ALoopU.enter ?_
  repeat first|refine cg ?_|simp -dsimp
  revert hF;refine abr.sp ?_ ?_<;>intro h11 q12 hF
  ·have z13:((i:Int)<(s.size:Int)):=auz
   repeat first|refine cg ?_|simp -dsimp[h11,z13]
   revert hF;refine abr.ns ?_ ?_<;>intro h14 q15 hF
   ·have z16:¬(((byteAt s i:Nat):Int)<97):=auz
    repeat first|refine cg ?_|simp -dsimp[h11,z13,h14,q15,z16]
    revert hF;refine abr.sp ?_ ?_<;>intro h17 q18 hF
    ·have z19:(122<((byteAt s i:Nat):Int)):=auz
     cases hF
     repeat first|refine cg ?_|simp -dsimp[h11,z13,h14,q15,z16,h17,z19]
     refine Leave.go _ (Gh.refl _) (hq _ ?_)
     repeat first|refine cg ?_|simp -dsimp[h11,z13,h14,q15,z16,h17,z19]
    ·have z19:¬(122<((byteAt s i:Nat):Int)):=auz
     have hF:=oc hF;obtain⟨c20,hF⟩:=hF
     have w21:IntKind.i64.wrap ((i:Int)+1)=(i:Int)+1:=wrap_in (by omega) (by omega)
     repeat first|refine cg ?_|simp -dsimp[h11,z13,h14,q15,z16,h17,q18,z19,w21]
     refine Again.go _ ?_ ((ih_f119 (i+1) o hF) _ rfl _ hq)
     exact(Gh.to3 (by simp) (by first|simp -dsimp[h11,z13,h14,q15,z16,h17,q18,z19,w21];done|simp_all))
   ·have z16:(((byteAt s i:Nat):Int)<97):=auz
    cases hF
    repeat first|refine cg ?_|simp -dsimp[h11,z13,h14,q15,z16]
    refine Leave.go _ (Gh.refl _) (hq _ ?_)
    repeat first|refine cg ?_|simp -dsimp[h11,z13,h14,q15,z16]
  ·have z13:¬((i:Int)<(s.size:Int)):=auz
   cases hF
   repeat first|refine cg ?_|simp -dsimp[h11,q12,z13]
   refine Leave.go _ (Gh.to3 (by simp) (by first|simp -dsimp[h11,q12,z13];done|simp_all)) hq
theorem C.f120 (s:ByteArray)(r:Bool)(hF:F.f120 s=some r):PureCall Tryz.prog B 191 [.lit (.string s)] (.lit (.bool r)):=by
 unfold F.f120 at hF
 refine PureCall.enterLe Tryz.func191 (by kernel_rfl) rfl Tryz.ntmps191 (by simp) (by simp) ?_
 repeat first|refine cg ?_|simp -dsimp
 have hF:=ob hF;obtain⟨v,e1,hF⟩:=hF
 refine((C.f118 B hB1 hB2 (s.size:Int) 1 5 v e1)).goW (by simp) (by simp) ?_
 repeat first|refine cg ?_|simp -dsimp
 revert hF;refine abr.sp (fun h2 q3 hF=> ?_) (fun h2 q3 hF=> ?_)
 ·have hF:=oc hF;obtain⟨c4,hF⟩:=hF
  repeat first|refine cg ?_|simp -dsimp[h2]
  revert hF;refine abr.ns ?_ ?_<;>intro h5 q6 hF
  ·have z7:¬(((byteAt s 0:Nat):Int)<65):=auz
   repeat first|refine cg ?_|simp -dsimp[h2,h5,q6,z7]
   revert hF;refine abr.sp ?_ ?_<;>intro h8 q9 hF
   ·have z10:(90<((byteAt s 0:Nat):Int)):=auz
    cases hF
    repeat first|refine cg ?_|simp -dsimp[h2,h5,q6,z7,h8,z10]
    all_goals(try first|omega|rfl)
   ·have z10:¬(90<((byteAt s 0:Nat):Int)):=auz
    repeat first|refine cg ?_|simp -dsimp[h2,h5,q6,z7,h8,q9,z10]
    have hF:=ob hF;obtain⟨o',ho22,hF⟩:=hF
    refine ALoop.goU _ ?_ (((CC.f119 B hB1 hB2 s) 1 o' ho22) _ rfl _ ?_)
    ·exact(Gh.to3 (by simp) (by first|simp -dsimp[h2,h5,q6,z7,h8,q9,z10];done|simp_all))
    rcases o' with r0|sx
    ·dsimp only at hF
     cases hF
     intro st h
     simpa using h
    ·dsimp only at hF
     cases hF
     repeat first|refine cg ?_|simp -dsimp
     all_goals(try first|omega|rfl)
  ·have z7:(((byteAt s 0:Nat):Int)<65):=auz
   cases hF
   repeat first|refine cg ?_|simp -dsimp[h2,h5,q6,z7]
   all_goals(try first|omega|rfl)
 ·cases hF
  repeat first|refine cg ?_|simp -dsimp[h2,q3]
  all_goals(try first|omega|rfl)
theorem C.f121 (w:List Vl.Data)(t:Ty)(r:Bool)(hF:F.f121 w t=some r):PureCall Tryz.prog B 194 [.arr (List.map Vl.Data.c w),.agg [.lit (.int .i64 t.data),.lit (.int .i64 t.index)]] (.lit (.bool r)):=by
 unfold F.f121 at hF
 refine PureCall.enterLe Tryz.func194 (by kernel_rfl) rfl Tryz.ntmps194 (by simp) (by simp) ?_
 repeat first|refine cg ?_|simp -dsimp
 revert hF;refine abr.ns (fun h1 q2 hF=> ?_) (fun h1 q2 hF=> ?_)
 ·repeat first|refine cg ?_|simp -dsimp[h1,q2]
  have hF:=ob hF;obtain⟨v,e3,hF⟩:=hF
  refine((C.f118 B hB1 hB2 t.data 0 (IntKind.i64.wrap ((w.length:Int) -1)) v e3)).goW (by first|simp[h1,q2];done|simp_all) (by simp) ?_
  repeat first|refine cg ?_|simp -dsimp[h1,q2]
  revert hF;refine abr.sp (fun h4 q5 hF=> ?_) (fun h4 q5 hF=> ?_)
  ·repeat first|refine cg ?_|simp -dsimp[h1,q2,h4]
   have hF:=ob hF;obtain⟨v6,e7,hF⟩:=hF
   refine((C.f118 B hB1 hB2 t.index (-1) 3 v6 e7)).goW (by first|simp[h1,q2,h4];done|simp_all) (by simp) ?_
   cases hF
   repeat first|refine cg ?_|simp -dsimp[h1,q2,h4]
   all_goals(try first|omega|rfl)
  ·cases hF
   repeat first|refine cg ?_|simp -dsimp[h1,q2,h4,q5]
   all_goals(try first|omega|rfl)
 ·cases hF
  repeat first|refine cg ?_|simp -dsimp[h1,q2]
  all_goals(try first|omega|rfl)
theorem C.f122 (t:Ty)(a1:List Vl.Data)(r:Bool)(hF:F.f122 t a1=some r):PureCall Tryz.prog B 193 [.agg [.lit (.int .i64 t.data),.lit (.int .i64 t.index)],.rptr [.arr (List.map Vl.Data.c a1)] 0] (.lit (.bool r)):=by
 unfold F.f122 at hF
 refine PureCall.enterLe Tryz.func193 (by kernel_rfl) rfl Tryz.ntmps193 (by simp) (by simp) ?_
 repeat first|refine cg ?_|simp -dsimp
 have hF:=ob hF;obtain⟨v,e1,hF⟩:=hF
 refine((C.f121 B hB1 hB2 a1 t v e1)).goW (by simp) (by simp) ?_
 cases hF
 repeat first|refine cg ?_|simp -dsimp
 all_goals(try first|omega|rfl)
theorem CC.f123 (s:List Ty)(k0:List Vl.Data):(∀(i:Nat) (o:Lo Int Unit),F.f123 s k0 i=some o→∀(c:Code),navO [1,0,1,0,0] (bodyOf Tryz.f204)=some c→∀(Q:Exit→ASt→Prop),o.post (fun r=>∀st,Post Tryz.prog Tryz.f204 (fun r' _=>r'.le (.lit (.int .i64 r))) .ret st→Q .ret st) (fun s=>Q (.exit 0) ⟨[],[]⟩)→ALoopU Tryz.prog B 0 19 (hold c .mk) ⟨[(0,.arr (List.map Ty.c s)),(1,.fn (.func 193) [] [.rptr [.arr (List.map Vl.Data.c k0)] 0]),(7,.lit (.int .i64 (s.length:Int))),(8,.lit (.int .i64 (i:Int)))],[]⟩ (hold Q .mk)):=by
 refine F.f123.partial_correctness s k0
  _
  ?_
 ·intro _f_f123 ih_f123 i o hF
  intro c hc Q hq
  obtain rfl:c=_:=navEq hc rfl
  refine ALoopU.know fun hk hs=> ?_
  have b0:=hk 0
  simp -dsimp at b0
  clear hk hs
  refine ALoopU.enter ?_
  repeat first|refine cg ?_|simp -dsimp
  revert hF;refine abr.sp ?_ ?_<;>intro h1 q2 hF
  ·have z3:((i:Int)<(s.length:Int)):=auz
   have hF:=ob hF;obtain⟨x,e4,hF⟩:=hF
   have le4:=lt_of_get e4
   repeat first|refine cg ?_|simp -dsimp[h1,z3,↓e4]
   have hF:=ob hF;obtain⟨v,e5,hF⟩:=hF
   refine((C.f122 B hB1 hB2 x k0 v e5)).goW (by first|simp[h1,z3,↓e4];done|simp_all) (by simp) ?_
   repeat first|refine cg ?_|simp -dsimp[h1,z3,↓e4]
   revert hF;refine abr.sp (fun h6 q7 hF=> ?_) (fun h6 q7 hF=> ?_)
   ·cases hF
    repeat first|refine cg ?_|simp -dsimp[h1,z3,↓e4,h6]
    refine Leave.go _ (Gh.refl _) (hq _ ?_)
    repeat first|refine cg ?_|simp -dsimp[h1,z3,↓e4,h6]
   ·have w8:IntKind.i64.wrap ((i:Int)+1)=(i:Int)+1:=wrap_in (by omega) (by omega)
    repeat first|refine cg ?_|simp -dsimp[h1,z3,↓e4,h6,q7,w8]
    refine Again.go _ ?_ ((ih_f123 (i+1) o hF) _ rfl _ hq)
    exact(Gh.to3 (by simp) (by first|simp -dsimp[h1,z3,↓e4,h6,q7,w8];done|simp_all))
  ·have z3:¬((i:Int)<(s.length:Int)):=auz
   cases hF
   repeat first|refine cg ?_|simp -dsimp[h1,q2,z3]
   refine Leave.go _ (Gh.to3 (by simp) (by first|simp -dsimp[h1,q2,z3];done|simp_all)) hq
theorem C.f124 (s:List Ty)(k0:List Vl.Data)(r:Int)(hF:F.f124 s k0=some r):PureCall Tryz.prog B 204 [.arr (List.map Ty.c s),.fn (.func 193) [] [.rptr [.arr (List.map Vl.Data.c k0)] 0]] (.lit (.int .i64 r)):=by
 unfold F.f124 at hF
 refine PureCall.enterLe Tryz.func204 (by kernel_rfl) rfl Tryz.ntmps204 (by simp) (by simp) ?_
 repeat first|refine cg ?_|simp -dsimp
 have hF:=ob hF;obtain⟨o',ho9,hF⟩:=hF
 refine ALoop.goU _ ?_ (((CC.f123 B hB1 hB2 s k0) 0 o' ho9) _ rfl _ ?_)
 ·exact(Gh.to3 (by simp) (by simp -dsimp))
 rcases o' with r0|sx
 ·dsimp only at hF
  cases hF
  intro st h
  simpa using h
 ·dsimp only at hF
  cases hF
  repeat first|refine cg ?_|simp -dsimp
  all_goals(try first|omega|rfl)
theorem C.f125 (s:List Ty)(k0:List Vl.Data)(r:Bool)(hF:F.f125 s k0=some r):PureCall Tryz.prog B 192 [.arr (List.map Ty.c s),.fn (.func 193) [] [.rptr [.arr (List.map Vl.Data.c k0)] 0]] (.lit (.bool r)):=by
 unfold F.f125 at hF
 refine PureCall.enterLe Tryz.func192 (by kernel_rfl) rfl Tryz.ntmps192 (by simp) (by simp) ?_
 repeat first|refine cg ?_|simp -dsimp
 have hF:=ob hF;obtain⟨v,e1,hF⟩:=hF
 refine((C.f124 B hB1 hB2 s k0 v e1)).goW (by simp) (by simp) ?_
 cases hF
 repeat first|refine cg ?_|simp -dsimp
 all_goals(try first|omega|rfl)
theorem C.f126 (w:List Vl.Data)(c':Ctor)(r:Bool)(hF:F.f126 w c'=some r):PureCall Tryz.prog B 174 [.arr (List.map Vl.Data.c w),.agg [.lit (.string c'.name),.arr (List.map Ty.c c'.args),.lit (.int .i64 c'.index)]] (.lit (.bool r)):=by
 unfold F.f126 at hF
 refine PureCall.enterLe Tryz.func174 (by kernel_rfl) rfl Tryz.ntmps174 (by simp) (by simp) ?_
 repeat first|refine cg ?_|simp -dsimp
 have hF:=ob hF;obtain⟨v,e1,hF⟩:=hF
 refine((C.f120 B hB1 hB2 c'.name v e1)).goW (by simp) (by simp) ?_
 repeat first|refine cg ?_|simp -dsimp
 revert hF;refine abr.sp (fun h2 q3 hF=> ?_) (fun h2 q3 hF=> ?_)
 ·repeat first|refine cg ?_|simp -dsimp[h2]
  revert hF;refine abr.sp ?_ ?_<;>intro h4 q5 hF
  ·have z6:((c'.args.length:Int)≤3):=auz
   repeat first|refine cg ?_|simp -dsimp[h2,h4,z6]
   have hF:=ob hF;obtain⟨v7,e8,hF⟩:=hF
   refine((C.f118 B hB1 hB2 c'.index 0 3 v7 e8)).goW (by first|simp[h2,h4,z6];done|simp_all) (by simp) ?_
   repeat first|refine cg ?_|simp -dsimp[h2,h4,z6]
   revert hF;refine abr.sp (fun h9 q10 hF=> ?_) (fun h9 q10 hF=> ?_)
   ·repeat first|refine cg ?_|simp -dsimp[h2,h4,z6,h9]
    have hF:=ob hF;obtain⟨v11,e12,hF⟩:=hF
    refine((C.f125 B hB1 hB2 c'.args w v11 e12)).lend (by first|simp -dsimp[h2,h4,z6,h9];done|simp_all) (by simp -dsimp) ?_
    cases hF
    repeat first|refine cg ?_|simp -dsimp[h2,h4,z6,h9]
    all_goals(try first|omega|rfl)
   ·cases hF
    repeat first|refine cg ?_|simp -dsimp[h2,h4,z6,h9,q10]
    all_goals(try first|omega|rfl)
  ·have z6:¬((c'.args.length:Int)≤3):=auz
   cases hF
   repeat first|refine cg ?_|simp -dsimp[h2,h4,q5,z6]
   all_goals(try first|omega|rfl)
 ·cases hF
  repeat first|refine cg ?_|simp -dsimp[h2,q3]
  all_goals(try first|omega|rfl)
theorem CC.f127 (w:List Vl.Data)(met4:List ByteArray)(i:Nat)(x:Vl.Data):(∀(met26:List ByteArray) (i27:Nat) (o:Lo Bool (List ByteArray)),F.f127 w met4 i x met26 i27=some o→∀(b1 b2:Nat),¬b1=b2→∀(c:Code),navO [1,1,1,1,0,1,0,0,1,1,0,0,1,1,1,1,0,0] (bodyOf Tryz.f137)=some c→∀(Q:Exit→ASt→Ms→Prop),o.post (fun r=>∀st,Post Tryz.prog Tryz.f137 (fun r' _=>r'=(.lit (.bool r))) .ret st→∀ms,Q .ret st ms) (fun s=>Q (.exit 2) ⟨[(0,.arr (List.map Vl.Data.c w)),(3,.lit (.map (some b1))),(4,.lit (.map (some b2))),(14,.arr (List.map Vl.Data.c w)),(15,.lit (.int .i64 (w.length:Int))),(16,.lit (.int .i64 (i:Int)))],[]⟩ [(b1,s),(b2,msIns met4 x.name)])→MLoop Tryz.prog B 79 (hold c .mk) ⟨[(0,.arr (List.map Vl.Data.c w)),(3,.lit (.map (some b1))),(4,.lit (.map (some b2))),(14,.arr (List.map Vl.Data.c w)),(15,.lit (.int .i64 (w.length:Int))),(16,.lit (.int .i64 (i:Int))),(58,.arr (List.map Ctor.c x.ctors)),(59,.lit (.int .i64 (x.ctors.length:Int))),(60,.lit (.int .i64 (i27:Int)))],[]⟩ [(b1,met26),(b2,msIns met4 x.name)] (hold Q .mk)):=by
 refine F.f127.partial_correctness w met4 i x
  _
  ?_
 ·intro _f_f127 ih_f127 met26 i27 o hF
  intro b1 b2 hb2 c hc Q hq
  obtain rfl:c=_:=navEq hc rfl
  refine MLoop.know fun hk hs=> ?_
  have b0:=hk 0
  simp -dsimp at b0
  have b14:=hk 14
  simp -dsimp at b14
  have b58:=hk 58
  simp -dsimp at b58
  clear hk hs
  refine MLoop.enter ?_
  repeat first|refine cg ?_|simp -dsimp[hb2]
  revert hF;refine abr.sp ?_ ?_<;>intro h28 q29 hF
  ·have z30:((i27:Int)<(x.ctors.length:Int)):=auz
   have hF:=ob hF;obtain⟨x31,e32,hF⟩:=hF
   have le32:=lt_of_get e32
   repeat first|refine cg ?_|simp -dsimp[hb2,h28,z30,↓e32]
   have hF:=ob hF;obtain⟨v33,e34,hF⟩:=hF
   refine((C.f126 B hB1 hB2 w x31 v33 e34)).goW (by first|simp[hb2,h28,z30,↓e32];done|simp_all) (by simp) ?_
   repeat first|refine cg ?_|simp -dsimp[hb2,h28,z30,↓e32]
   revert hF;refine abr.sp (fun h35 q36 hF=> ?_) (fun h35 q36 hF=> ?_)
   ·repeat first|refine cg ?_|simp -dsimp[hb2,h28,z30,↓e32,h35]
    revert hF;refine abr.sp (fun h37 q38 hF=> ?_) (fun h37 q38 hF=> ?_)
    ·cases hF
     repeat first|refine cg ?_|simp -dsimp[hb2,h28,z30,↓e32,h35,h37]
     refine LeaveM.go _ (Gh.refl _) (hq _ ?_ _)
     repeat first|refine cg ?_|simp -dsimp[hb2,h28,z30,↓e32,h35,h37]
    ·have w39:IntKind.i64.wrap ((i27:Int)+1)=(i27:Int)+1:=wrap_in (by omega) (by omega)
     repeat first|refine cg ?_|simp -dsimp[hb2,h28,z30,↓e32,h35,h37,q38,w39]
     refine AgainM.go ⟨[(0,.arr (List.map Vl.Data.c w)),(3,.lit (.map (some b1))),(4,.lit (.map (some b2))),(14,.arr (List.map Vl.Data.c w)),(15,.lit (.int .i64 (w.length:Int))),(16,.lit (.int .i64 (i:Int))),(58,.arr (List.map Ctor.c x.ctors)),(59,.lit (.int .i64 (x.ctors.length:Int))),(60,.lit (.int .i64 ((i27+1):Int)))],[]⟩ (Gh.to3 (by simp) (by first|simp -dsimp[hb2,h28,z30,↓e32,h35,h37,q38,w39];done|simp_all)) ?_
     exact(ih_f127 (msIns met26 x31.name) (i27+1) o hF) b1 b2 hb2 _ rfl _ hq
   ·cases hF
    repeat first|refine cg ?_|simp -dsimp[hb2,h28,z30,↓e32,h35,q36]
    refine LeaveM.go _ (Gh.refl _) (hq _ ?_ _)
    repeat first|refine cg ?_|simp -dsimp[hb2,h28,z30,↓e32,h35,q36]
  ·have z30:¬((i27:Int)<(x.ctors.length:Int)):=auz
   cases hF
   repeat first|refine cg ?_|simp -dsimp[hb2,h28,q29,z30]
   refine LeaveM.go ⟨[(0,.arr (List.map Vl.Data.c w)),(3,.lit (.map (some b1))),(4,.lit (.map (some b2))),(14,.arr (List.map Vl.Data.c w)),(15,.lit (.int .i64 (w.length:Int))),(16,.lit (.int .i64 (i:Int)))],[]⟩ (Gh.to3 (by simp) (by first|simp -dsimp[hb2,h28,q29,z30];done|simp_all)) ?_
   exact hq
theorem CC.f128 (w:List Vl.Data):(∀(met:List ByteArray) (met4:List ByteArray) (i:Nat) (o:Lo Bool ((List ByteArray)×(List ByteArray))),F.f128 w met met4 i=some o→∀(b1 b2:Nat),¬b1=b2→∀(c:Code),navO [1,1,1,1,0,1,0,0] (bodyOf Tryz.f137)=some c→∀(Q:Exit→ASt→Ms→Prop),o.post (fun r=>∀st,Post Tryz.prog Tryz.f137 (fun r' _=>r'=(.lit (.bool r))) .ret st→∀ms,Q .ret st ms) (fun s=>Q (.exit 0) ⟨[],[]⟩ [(b1,s.1),(b2,s.2)])→MLoop Tryz.prog B 79 (hold c .mk) ⟨[(0,.arr (List.map Vl.Data.c w)),(3,.lit (.map (some b1))),(4,.lit (.map (some b2))),(14,.arr (List.map Vl.Data.c w)),(15,.lit (.int .i64 (w.length:Int))),(16,.lit (.int .i64 (i:Int)))],[]⟩ [(b1,met),(b2,met4)] (hold Q .mk)):=by
 refine F.f128.partial_correctness w
  _
  ?_
 ·intro _f_f128 ih_f128 met met4 i o hF
  intro b1 b2 hb2 c hc Q hq
  obtain rfl:c=_:=navEq hc rfl
  refine MLoop.know fun hk hs=> ?_
  have b0:=hk 0
  simp -dsimp at b0
  have b14:=hk 14
  simp -dsimp at b14
  clear hk hs
  refine MLoop.enter ?_
  repeat first|refine cg ?_|simp -dsimp[hb2]
  revert hF;refine abr.sp ?_ ?_<;>intro h5 q6 hF
  ·have z7:((i:Int)<(w.length:Int)):=auz
   have hF:=ob hF;obtain⟨x,e8,hF⟩:=hF
   have le8:=lt_of_get e8
   repeat first|refine cg ?_|simp -dsimp[hb2,h5,z7,↓e8]
   revert hF;refine abr.sp ?_ ?_<;>intro h9 q10 hF
   ·have z11:((x.name.size:Int)=1):=auz
    have hF:=oc hF;obtain⟨c12,hF⟩:=hF
    repeat first|refine cg ?_|simp -dsimp[hb2,h5,z7,↓e8,h9,z11]
    revert hF;refine abr.ns ?_ ?_<;>intro h13 q14 hF
    ·have z15:¬(((byteAt x.name 0:Nat):Int)<65):=auz
     repeat first|refine cg ?_|simp -dsimp[hb2,h5,z7,↓e8,h9,z11,h13,q14,z15]
     revert hF;refine abr.ns ?_ ?_<;>intro h16 q17 hF
     ·have z18:¬(90<((byteAt x.name 0:Nat):Int)):=auz
      repeat first|refine cg ?_|simp -dsimp[hb2,h5,z7,↓e8,h9,z11,h13,q14,z15,h16,q17,z18]
      revert hF;refine abr.ns ?_ ?_<;>intro h19 q20 hF
      ·repeat first|refine cg ?_|simp -dsimp[hb2,h5,z7,↓e8,h9,z11,h13,q14,z15,h16,q17,z18,h19,q20]
       revert hF;refine abr.ns (fun h21 q22 hF=> ?_) (fun h21 q22 hF=> ?_)
       ·repeat first|refine cg ?_|simp -dsimp[hb2,h5,z7,↓e8,h9,z11,h13,q14,z15,h16,q17,z18,h19,q20,h21,q22]
        have hF:=ob hF;obtain⟨v,e23,hF⟩:=hF
        refine((C.f118 B hB1 hB2 (x.ctors.length:Int) 1 4 v e23)).goW (by first|simp[hb2,h5,z7,↓e8,h9,z11,h13,q14,z15,h16,q17,z18,h19,q20,h21,q22];done|simp_all) (by simp) ?_
        repeat first|refine cg ?_|simp -dsimp[hb2,h5,z7,↓e8,h9,z11,h13,q14,z15,h16,q17,z18,h19,q20,h21,q22]
        revert hF;refine abr.ns (fun h24 q25 hF=> ?_) (fun h24 q25 hF=> ?_)
        ·cases hF
         repeat first|refine cg ?_|simp -dsimp[hb2,h5,z7,↓e8,h9,z11,h13,q14,z15,h16,q17,z18,h19,q20,h21,q22,h24,q25]
         refine LeaveM.go _ (Gh.refl _) (hq _ ?_ _)
         repeat first|refine cg ?_|simp -dsimp[hb2,h5,z7,↓e8,h9,z11,h13,q14,z15,h16,q17,z18,h19,q20,h21,q22,h24,q25]
        ·repeat first|refine cg ?_|simp -dsimp[hb2,h5,z7,↓e8,h9,z11,h13,q14,z15,h16,q17,z18,h19,q20,h21,q22,h24,q25]
         have hF:=ob hF;obtain⟨o',ho40,hF⟩:=hF
         refine MLoop.goU ⟨[(0,.arr (List.map Vl.Data.c w)),(3,.lit (.map (some b1))),(4,.lit (.map (some b2))),(14,.arr (List.map Vl.Data.c w)),(15,.lit (.int .i64 (w.length:Int))),(16,.lit (.int .i64 (i:Int))),(58,.arr (List.map Ctor.c x.ctors)),(59,.lit (.int .i64 (x.ctors.length:Int))),(60,.lit (.int .i64 0))],[]⟩ (Gh.to3 (by simp) (by first|simp -dsimp[hb2,h5,z7,↓e8,h9,z11,h13,q14,z15,h16,q17,z18,h19,q20,h21,q22,h24,q25];done|simp_all)) ?_
         refine((CC.f127 B hB1 hB2 w met4 i x) met 0 o' ho40) b1 b2 hb2 _ rfl _ ?_
         rcases o' with r0|sx
         ·dsimp only at hF
          cases hF
          intro st h ms
          simp -dsimp
          refine LeaveM.go st (Gh.refl _) (hq st h ms)
         ·dsimp only at hF
          have hF:=oc hF;obtain⟨c41,hF⟩:=hF
          have w42:IntKind.i64.wrap ((i:Int)+1)=(i:Int)+1:=wrap_in (by omega) (by omega)
          repeat first|refine cg ?_|simp -dsimp[w42]
          refine AgainM.go ⟨[(0,.arr (List.map Vl.Data.c w)),(3,.lit (.map (some b1))),(4,.lit (.map (some b2))),(14,.arr (List.map Vl.Data.c w)),(15,.lit (.int .i64 (w.length:Int))),(16,.lit (.int .i64 ((i+1):Int)))],[]⟩ (Gh.to3 (by simp) (by first|simp -dsimp[w42];done|simp_all)) ?_
          exact(ih_f128 sx (msIns met4 x.name) (i+1) o hF) b1 b2 hb2 _ rfl _ hq
       ·cases hF
        repeat first|refine cg ?_|simp -dsimp[hb2,h5,z7,↓e8,h9,z11,h13,q14,z15,h16,q17,z18,h19,q20,h21,q22]
        refine LeaveM.go _ (Gh.refl _) (hq _ ?_ _)
        repeat first|refine cg ?_|simp -dsimp[hb2,h5,z7,↓e8,h9,z11,h13,q14,z15,h16,q17,z18,h19,q20,h21,q22]
      ·cases hF
       repeat first|refine cg ?_|simp -dsimp[hb2,h5,z7,↓e8,h9,z11,h13,q14,z15,h16,q17,z18,h19,q20]
       refine LeaveM.go _ (Gh.refl _) (hq _ ?_ _)
       repeat first|refine cg ?_|simp -dsimp[hb2,h5,z7,↓e8,h9,z11,h13,q14,z15,h16,q17,z18,h19,q20]
     ·have z18:(90<((byteAt x.name 0:Nat):Int)):=auz
      cases hF
      repeat first|refine cg ?_|simp -dsimp[hb2,h5,z7,↓e8,h9,z11,h13,q14,z15,h16,q17,z18]
      refine LeaveM.go _ (Gh.refl _) (hq _ ?_ _)
      repeat first|refine cg ?_|simp -dsimp[hb2,h5,z7,↓e8,h9,z11,h13,q14,z15,h16,q17,z18]
    ·have z15:(((byteAt x.name 0:Nat):Int)<65):=auz
     cases hF
     repeat first|refine cg ?_|simp -dsimp[hb2,h5,z7,↓e8,h9,z11,h13,q14,z15]
     refine LeaveM.go _ (Gh.refl _) (hq _ ?_ _)
     repeat first|refine cg ?_|simp -dsimp[hb2,h5,z7,↓e8,h9,z11,h13,q14,z15]
   ·have z11:¬((x.name.size:Int)=1):=auz
    cases hF
    repeat first|refine cg ?_|simp -dsimp[hb2,h5,z7,↓e8,h9,q10,z11]
    refine LeaveM.go _ (Gh.refl _) (hq _ ?_ _)
    repeat first|refine cg ?_|simp -dsimp[hb2,h5,z7,↓e8,h9,q10,z11]
  ·have z7:¬((i:Int)<(w.length:Int)):=auz
   cases hF
   repeat first|refine cg ?_|simp -dsimp[hb2,h5,q6,z7]
   refine LeaveM.go ⟨[],[]⟩ (Gh.to3 (by simp) (by first|simp -dsimp[hb2,h5,q6,z7];done|simp_all)) ?_
   exact hq
theorem C.f129 (w:List Vl.Data)(r:Bool)(hF:F.f129 w=some r):PureCall Tryz.prog B 137 [.arr (List.map Vl.Data.c w)] (.lit (.bool r)):=by
 unfold F.f129 at hF
 refine PureCall.enterM Tryz.func137 (by kernel_rfl) rfl Tryz.ntmps137 (by simp) ?_
 repeat first|refine cg ?_|simp -dsimp
 revert hF;refine abr.sp ?_ ?_<;>intro h1 q2 hF
 ·have z3:(4<(w.length:Int)):=auz
  cases hF
  repeat first|refine cg ?_|simp -dsimp[h1,z3]
  all_goals(try first|omega|rfl)
 ·have z3:¬(4<(w.length:Int)):=auz
  repeat first|refine cg ?_|simp -dsimp[h1,q2,z3]
  refine AMake.go fun b1 hb1=> ?_
  repeat first|refine cg ?_|simp -dsimp[h1,q2,z3]
  refine AMake.go fun b2 hb2=> ?_
  simp at hb2
  repeat first|refine cg ?_|simp -dsimp[h1,q2,z3,hb2]
  have hF:=ob hF;obtain⟨o'44,ho43,hF⟩:=hF
  refine MLoop.goU ⟨[(0,.arr (List.map Vl.Data.c w)),(3,.lit (.map (some b1))),(4,.lit (.map (some b2))),(14,.arr (List.map Vl.Data.c w)),(15,.lit (.int .i64 (w.length:Int))),(16,.lit (.int .i64 0))],[]⟩ (Gh.to3 (by simp) (by first|simp -dsimp[h1,q2,z3,hb2];done|simp_all)) ?_
  refine((CC.f128 B hB1 hB2 w) [] [] 0 o'44 ho43) b1 b2 hb2 _ rfl _ ?_
  rcases o'44 with r046|sx45
  ·dsimp only at hF
   cases hF
   intro st h ms
   simpa using h
  ·dsimp only at hF
   cases hF
   repeat first|refine cg ?_|simp -dsimp
   all_goals(try first|omega|rfl)
theorem C.f130 (w:List Vl.Data)(t:Ty)(r:Bool)(hF:F.f130 w t=some r):PureCall Tryz.prog B 138 [.arr (List.map Vl.Data.c w),.agg [.lit (.int .i64 t.data),.lit (.int .i64 t.index)]] (.lit (.bool r)):=by
 unfold F.f130 at hF
 refine PureCall.enterLe Tryz.func138 (by kernel_rfl) rfl Tryz.ntmps138 (by simp) (by simp) ?_
 repeat first|refine cg ?_|simp -dsimp
 revert hF;refine abr.ns (fun h1 q2 hF=> ?_) (fun h1 q2 hF=> ?_)
 ·repeat first|refine cg ?_|simp -dsimp[h1,q2]
  have hF:=ob hF;obtain⟨v,e3,hF⟩:=hF
  refine((C.f118 B hB1 hB2 t.data 0 (IntKind.i64.wrap ((w.length:Int) -1)) v e3)).goW (by first|simp[h1,q2];done|simp_all) (by simp) ?_
  repeat first|refine cg ?_|simp -dsimp[h1,q2]
  revert hF;refine abr.sp (fun h4 q5 hF=> ?_) (fun h4 q5 hF=> ?_)
  ·repeat first|refine cg ?_|simp -dsimp[h1,q2,h4]
   have hF:=ob hF;obtain⟨v6,e7,hF⟩:=hF
   refine((C.f118 B hB1 hB2 t.index 0 3 v6 e7)).goW (by first|simp[h1,q2,h4];done|simp_all) (by simp) ?_
   cases hF
   repeat first|refine cg ?_|simp -dsimp[h1,q2,h4]
   all_goals(try first|omega|rfl)
  ·cases hF
   repeat first|refine cg ?_|simp -dsimp[h1,q2,h4,q5]
   all_goals(try first|omega|rfl)
 ·cases hF
  repeat first|refine cg ?_|simp -dsimp[h1,q2]
  all_goals(try first|omega|rfl)
theorem C.f131 (w:List Vl.Data)(t:Ty)(r:Bool)(hF:F.f131 w t=some r):PureCall Tryz.prog B 82 [.arr (List.map Vl.Data.c w),.agg [.lit (.int .i64 t.data),.lit (.int .i64 t.index)]] (.lit (.bool r)):=by
 unfold F.f131 at hF
 refine PureCall.enterLe Tryz.func82 (by kernel_rfl) rfl Tryz.ntmps82 (by simp) (by simp) ?_
 repeat first|refine cg ?_|simp -dsimp
 have hF:=ob hF;obtain⟨v,e1,hF⟩:=hF
 refine((C.f129 B hB1 hB2 w v e1)).goW (by simp) (by simp) ?_
 repeat first|refine cg ?_|simp -dsimp
 revert hF;refine abr.sp (fun h2 q3 hF=> ?_) (fun h2 q3 hF=> ?_)
 ·repeat first|refine cg ?_|simp -dsimp[h2]
  have hF:=ob hF;obtain⟨v4,e5,hF⟩:=hF
  refine((C.f130 B hB1 hB2 w t v4 e5)).goW (by first|simp[h2];done|simp_all) (by simp) ?_
  cases hF
  repeat first|refine cg ?_|simp -dsimp[h2]
  all_goals(try first|omega|rfl)
 ·cases hF
  repeat first|refine cg ?_|simp -dsimp[h2,q3]
  all_goals(try first|omega|rfl)
theorem C.f132 (p:Pattern)(ctor:Bool)(numbers:Bool)(variable':Bool)(kids:Int)(r:Bool)(hF:F.f132 p ctor numbers variable' kids=some r):PureCall Tryz.prog B 181 [.agg [.lit (.int .i64 p.op),.lit (.int .i64 p.ctor),.lit (.int .i64 p.n),.lit (.int .i64 p.m),.lit (.int .i64 p.var),.arr (List.map Pattern.c p.kids)],.lit (.bool ctor),.lit (.bool numbers),.lit (.bool variable'),.lit (.int .i64 kids)] (.lit (.bool r)):=by
 unfold F.f132 at hF
 refine PureCall.enterLe Tryz.func181 (by kernel_rfl) rfl Tryz.ntmps181 (by simp) (by simp) ?_
 repeat first|refine cg ?_|simp -dsimp
 revert hF;refine abr.ns (fun h1 q2 hF=> ?_) (fun h1 q2 hF=> ?_)
 ·repeat first|refine cg ?_|simp -dsimp[h1,q2]
  revert hF;refine abr.sp ?_ ?_<;>intro h3 q4 hF
  ·repeat first|refine cg ?_|simp -dsimp[h1,q2,h3]
   revert hF;refine abr.ns (fun h5 q6 hF=> ?_) (fun h5 q6 hF=> ?_)
   ·repeat first|refine cg ?_|simp -dsimp[h1,q2,h3,h5,q6]
    revert hF;refine abr.sp ?_ ?_<;>intro h7 q8 hF
    ·repeat first|refine cg ?_|simp -dsimp[h1,q2,h3,h5,q6,h7]
     revert hF;refine abr.sp ?_ ?_<;>intro h9 q10 hF
     ·repeat first|refine cg ?_|simp -dsimp[h1,q2,h3,h5,q6,h7,h9]
      revert hF;refine abr.ns (fun h11 q12 hF=> ?_) (fun h11 q12 hF=> ?_)
      ·repeat first|refine cg ?_|simp -dsimp[h1,q2,h3,h5,q6,h7,h9,h11,q12]
       revert hF;refine abr.sp ?_ ?_<;>intro h13 q14 hF
       ·cases hF
        repeat first|refine cg ?_|simp -dsimp[h1,q2,h3,h5,q6,h7,h9,h11,q12,h13]
        all_goals(try first|omega|rfl)
       ·cases hF
        repeat first|refine cg ?_|simp -dsimp[h1,q2,h3,h5,q6,h7,h9,h11,q12,h13,q14]
        all_goals(try first|omega|rfl)
      ·cases hF
       repeat first|refine cg ?_|simp -dsimp[h1,q2,h3,h5,q6,h7,h9,h11,q12]
       all_goals(try first|omega|rfl)
     ·cases hF
      repeat first|refine cg ?_|simp -dsimp[h1,q2,h3,h5,q6,h7,h9,q10]
      all_goals(try first|omega|rfl)
    ·cases hF
     repeat first|refine cg ?_|simp -dsimp[h1,q2,h3,h5,q6,h7,q8]
     all_goals(try first|omega|rfl)
   ·repeat first|refine cg ?_|simp -dsimp[h1,q2,h3,h5,q6]
    revert hF;refine abr.ns (fun h15 q16 hF=> ?_) (fun h15 q16 hF=> ?_)
    ·repeat first|refine cg ?_|simp -dsimp[h1,q2,h3,h5,q6,h15,q16]
     revert hF;refine abr.sp ?_ ?_<;>intro h17 q18 hF
     ·cases hF
      repeat first|refine cg ?_|simp -dsimp[h1,q2,h3,h5,q6,h15,q16,h17]
      all_goals(try first|omega|rfl)
     ·cases hF
      repeat first|refine cg ?_|simp -dsimp[h1,q2,h3,h5,q6,h15,q16,h17,q18]
      all_goals(try first|omega|rfl)
    ·cases hF
     repeat first|refine cg ?_|simp -dsimp[h1,q2,h3,h5,q6,h15,q16]
     all_goals(try first|omega|rfl)
  ·cases hF
   repeat first|refine cg ?_|simp -dsimp[h1,q2,h3,q4]
   all_goals(try first|omega|rfl)
 ·repeat first|refine cg ?_|simp -dsimp[h1,q2]
  revert hF;refine abr.ns (fun h19 q20 hF=> ?_) (fun h19 q20 hF=> ?_)
  ·repeat first|refine cg ?_|simp -dsimp[h1,q2,h19,q20]
   revert hF;refine abr.sp ?_ ?_<;>intro h21 q22 hF
   ·repeat first|refine cg ?_|simp -dsimp[h1,q2,h19,q20,h21]
    revert hF;refine abr.sp ?_ ?_<;>intro h23 q24 hF
    ·repeat first|refine cg ?_|simp -dsimp[h1,q2,h19,q20,h21,h23]
     revert hF;refine abr.ns (fun h25 q26 hF=> ?_) (fun h25 q26 hF=> ?_)
     ·repeat first|refine cg ?_|simp -dsimp[h1,q2,h19,q20,h21,h23,h25,q26]
      revert hF;refine abr.sp ?_ ?_<;>intro h27 q28 hF
      ·cases hF
       repeat first|refine cg ?_|simp -dsimp[h1,q2,h19,q20,h21,h23,h25,q26,h27]
       all_goals(try first|omega|rfl)
      ·cases hF
       repeat first|refine cg ?_|simp -dsimp[h1,q2,h19,q20,h21,h23,h25,q26,h27,q28]
       all_goals(try first|omega|rfl)
     ·cases hF
      repeat first|refine cg ?_|simp -dsimp[h1,q2,h19,q20,h21,h23,h25,q26]
      all_goals(try first|omega|rfl)
    ·cases hF
     repeat first|refine cg ?_|simp -dsimp[h1,q2,h19,q20,h21,h23,q24]
     all_goals(try first|omega|rfl)
   ·cases hF
    repeat first|refine cg ?_|simp -dsimp[h1,q2,h19,q20,h21,q22]
    all_goals(try first|omega|rfl)
  ·repeat first|refine cg ?_|simp -dsimp[h1,q2,h19,q20]
   revert hF;refine abr.ns (fun h29 q30 hF=> ?_) (fun h29 q30 hF=> ?_)
   ·repeat first|refine cg ?_|simp -dsimp[h1,q2,h19,q20,h29,q30]
    revert hF;refine abr.sp ?_ ?_<;>intro h31 q32 hF
    ·cases hF
     repeat first|refine cg ?_|simp -dsimp[h1,q2,h19,q20,h29,q30,h31]
     all_goals(try first|omega|rfl)
    ·cases hF
     repeat first|refine cg ?_|simp -dsimp[h1,q2,h19,q20,h29,q30,h31,q32]
     all_goals(try first|omega|rfl)
   ·cases hF
    repeat first|refine cg ?_|simp -dsimp[h1,q2,h19,q20,h29,q30]
    all_goals(try first|omega|rfl)
theorem C.f133 (v:Int)(r:Bool)(hF:F.f133 v=some r):PureCall Tryz.prog B 182 [.lit (.int .i64 v)] (.lit (.bool r)):=by
 unfold F.f133 at hF
 refine PureCall.enterLe Tryz.func182 (by kernel_rfl) rfl Tryz.ntmps182 (by simp) (by simp) ?_
 repeat first|refine cg ?_|simp -dsimp
 have hF:=ob hF;obtain⟨v1,e2,hF⟩:=hF
 refine((C.f118 B hB1 hB2 v 0 5 v1 e2)).goW (by simp) (by simp) ?_
 cases hF
 repeat first|refine cg ?_|simp -dsimp
 all_goals(try first|omega|rfl)
theorem CC.f134 (t:Ty)(x:Vl.Data):(∀(i:Nat) (out:List Int) (o:List Int),F.f134 t x i out=some o→∀(c:Code),navO [1,1,0,1,0,1,0,0] (bodyOf Tryz.f98)=some c→∀(Q:Exit→ASt→Prop),(Q (.exit 0) ⟨[(5,.own 1 (List.length (α:=Int) o))],[.dead,.elems 1 (List.map cI o)]⟩)→ALoopU Tryz.prog B 0 44 (hold c .mk) ⟨[(3,.ptr 0 0),(5,.own 1 (List.length (α:=Int) out)),(16,.arr (List.map Ctor.c x.ctors)),(17,.lit (.int .i64 (x.ctors.length:Int))),(18,.lit (.int .i64 (i:Int)))],[.cells [.lit (.int .i64 t.data),.lit (.int .i64 t.index)],.elems 1 (List.map cI out)]⟩ (hold Q .mk)):=by
 refine F.f134.partial_correctness t x
  _
  ?_
 ·intro _f_f134 ih_f134 i out o hF
  intro c hc Q hq
  obtain rfl:c=_:=navEq hc rfl
  refine ALoopU.know fun hk hs=> ?_
  have b16:=hk 16
  simp -dsimp at b16
  have d1:=hs 1 _ rfl
  simp -dsimp[Blk.bnd]at d1
  clear hk hs
  refine ALoopU.enter ?_
  repeat first|refine cg ?_|simp -dsimp
  revert hF;refine abr.sp ?_ ?_<;>intro h4 q5 hF
  ·have z6:((i:Int)<(x.ctors.length:Int)):=auz
   have hF:=ob hF;obtain⟨x7,e8,hF⟩:=hF
   have le8:=lt_of_get e8
   repeat first|refine cg ?_|simp -dsimp[h4,z6,↓e8]
   revert hF;refine abr.ns ?_ ?_<;>intro h9 q10 hF
   ·repeat first|refine cg ?_|simp -dsimp[h4,z6,↓e8,h9,q10]
    revert hF;refine abr.ns ?_ ?_<;>intro h11 q12 hF
    ·repeat first|refine cg ?_|simp -dsimp[h4,z6,↓e8,h9,q10,h11,q12]
     revert hF;refine abr.sp ?_ ?_<;>intro h13 q14 hF
     ·have hF:=oc hF;obtain⟨c15,hF⟩:=hF
      have w16:IntKind.i64.wrap ((i:Int)+1)=(i:Int)+1:=wrap_in (by omega) (by omega)
      repeat first|refine cg ?_|simp -dsimp[h4,z6,↓e8,h9,q10,h11,q12,h13,w16]
      refine Again.go _ ?_ ((ih_f134 (i+1) (out++[(i:Int)]) o hF) _ rfl _ hq)
      exact(Gh.to3 (by simp) (by first|simp -dsimp[h4,z6,↓e8,h9,q10,h11,q12,h13,w16];done|simp_all))
     ·have w17:IntKind.i64.wrap ((i:Int)+1)=(i:Int)+1:=wrap_in (by omega) (by omega)
      repeat first|refine cg ?_|simp -dsimp[h4,z6,↓e8,h9,q10,h11,q12,h13,q14,w17]
      refine Again.go _ ?_ ((ih_f134 (i+1) out o hF) _ rfl _ hq)
      exact(Gh.to3 (by simp) (by first|simp -dsimp[h4,z6,↓e8,h9,q10,h11,q12,h13,q14,w17];done|simp_all))
    ·have hF:=oc hF;obtain⟨c18,hF⟩:=hF
     have w19:IntKind.i64.wrap ((i:Int)+1)=(i:Int)+1:=wrap_in (by omega) (by omega)
     repeat first|refine cg ?_|simp -dsimp[h4,z6,↓e8,h9,q10,h11,q12,w19]
     refine Again.go _ ?_ ((ih_f134 (i+1) (out++[(i:Int)]) o hF) _ rfl _ hq)
     exact(Gh.to3 (by simp) (by first|simp -dsimp[h4,z6,↓e8,h9,q10,h11,q12,w19];done|simp_all))
   ·have hF:=oc hF;obtain⟨c20,hF⟩:=hF
    have w21:IntKind.i64.wrap ((i:Int)+1)=(i:Int)+1:=wrap_in (by omega) (by omega)
    repeat first|refine cg ?_|simp -dsimp[h4,z6,↓e8,h9,q10,w21]
    refine Again.go _ ?_ ((ih_f134 (i+1) (out++[(i:Int)]) o hF) _ rfl _ hq)
    exact(Gh.to3 (by simp) (by first|simp -dsimp[h4,z6,↓e8,h9,q10,w21];done|simp_all))
  ·have z6:¬((i:Int)<(x.ctors.length:Int)):=auz
   cases hF
   repeat first|refine cg ?_|simp -dsimp[h4,q5,z6]
   refine Leave.go _ (Gh.to3 (by simp) (by first|simp -dsimp[h4,q5,z6];done|simp_all)) hq
theorem C.f135 (w:List Vl.Data)(t:Ty)(r:List Int)(hF:F.f135 w t=some r):PureCall Tryz.prog B 98 [.arr (List.map Vl.Data.c w),.agg [.lit (.int .i64 t.data),.lit (.int .i64 t.index)]] (.arr (List.map cI r)):=by
 unfold F.f135 at hF
 refine PureCall.enterLe Tryz.func98 (by kernel_rfl) rfl Tryz.ntmps98 (by simp) (by simp) ?_
 repeat first|refine cg ?_|simp -dsimp
 revert hF;refine abr.ns ?_ ?_<;>intro h1 q2 hF
 ·have hF:=ob hF;obtain⟨x,e3a,hF⟩:=hF
  have e3a:=at_some e3a;obtain⟨ne3,e3⟩:=e3a
  have le3:=lt_of_get e3
  repeat first|refine cg ?_|simp -dsimp[h1,q2,↓e3]
  have hF:=ob hF;obtain⟨o',ho22,hF⟩:=hF
  refine ALoop.goU ⟨[(3,.ptr 0 0),(5,.own 1 (List.length (α:=Int) [])),(16,.arr (List.map Ctor.c x.ctors)),(17,.lit (.int .i64 (x.ctors.length:Int))),(18,.lit (.int .i64 0))],[.cells [.lit (.int .i64 t.data),.lit (.int .i64 t.index)],.elems 1 (List.map cI [])]⟩ (by refine Gh.trans (Gh.nil 5 1 (by simp -dsimp)) ?_;exact(Gh.to3 (by simp) (by first|simp -dsimp[h1,q2,↓e3];done|simp_all))) ?_
  refine((CC.f134 B hB1 hB2 t x) 0 [] o' ho22) _ rfl _ ?_
  cases hF
  repeat first|refine cg ?_|simp -dsimp
  all_goals(try first|omega|rfl)
 ·cases hF
  repeat first|refine cg ?_|simp -dsimp[h1,q2]
  all_goals(try first|omega|rfl)
theorem CC.f136 (s:List Int)(v:Int):(∀(i:Nat) (o:Lo Int Unit),F.f136 s v i=some o→∀(c:Code),navO [1,0,1,0,0] (bodyOf Tryz.f199)=some c→∀(Q:Exit→ASt→Prop),o.post (fun r=>∀st,Post Tryz.prog Tryz.f199 (fun r' _=>r'.le (.lit (.int .i64 r))) .ret st→Q .ret st) (fun s=>Q (.exit 0) ⟨[],[]⟩)→ALoopU Tryz.prog B 0 19 (hold c .mk) ⟨[(0,.arr (List.map cI s)),(1,.lit (.int .i64 v)),(7,.lit (.int .i64 (s.length:Int))),(8,.lit (.int .i64 (i:Int)))],[]⟩ (hold Q .mk)):=by
 refine F.f136.partial_correctness s v
  _
  ?_
 ·intro _f_f136 ih_f136 i o hF
  intro c hc Q hq
  obtain rfl:c=_:=navEq hc rfl
  refine ALoopU.know fun hk hs=> ?_
  have b0:=hk 0
  simp -dsimp at b0
  clear hk hs
  refine ALoopU.enter ?_
  repeat first|refine cg ?_|simp -dsimp
  revert hF;refine abr.sp ?_ ?_<;>intro h1 q2 hF
  ·have z3:((i:Int)<(s.length:Int)):=auz
   have hF:=ob hF;obtain⟨x,e4,hF⟩:=hF
   have le4:=lt_of_get e4
   repeat first|refine cg ?_|simp -dsimp[h1,z3,↓e4]
   revert hF;refine abr.sp ?_ ?_<;>intro h5 q6 hF
   ·cases hF
    repeat first|refine cg ?_|simp -dsimp[h1,z3,↓e4,h5]
    refine Leave.go _ (Gh.refl _) (hq _ ?_)
    repeat first|refine cg ?_|simp -dsimp[h1,z3,↓e4,h5]
   ·have w7:IntKind.i64.wrap ((i:Int)+1)=(i:Int)+1:=wrap_in (by omega) (by omega)
    repeat first|refine cg ?_|simp -dsimp[h1,z3,↓e4,h5,q6,w7]
    refine Again.go _ ?_ ((ih_f136 (i+1) o hF) _ rfl _ hq)
    exact(Gh.to3 (by simp) (by first|simp -dsimp[h1,z3,↓e4,h5,q6,w7];done|simp_all))
  ·have z3:¬((i:Int)<(s.length:Int)):=auz
   cases hF
   repeat first|refine cg ?_|simp -dsimp[h1,q2,z3]
   refine Leave.go _ (Gh.to3 (by simp) (by first|simp -dsimp[h1,q2,z3];done|simp_all)) hq
theorem C.f137 (s:List Int)(v:Int)(r:Int)(hF:F.f137 s v=some r):PureCall Tryz.prog B 199 [.arr (List.map cI s),.lit (.int .i64 v)] (.lit (.int .i64 r)):=by
 unfold F.f137 at hF
 refine PureCall.enterLe Tryz.func199 (by kernel_rfl) rfl Tryz.ntmps199 (by simp) (by simp) ?_
 repeat first|refine cg ?_|simp -dsimp
 have hF:=ob hF;obtain⟨o',ho8,hF⟩:=hF
 refine ALoop.goU _ ?_ (((CC.f136 B hB1 hB2 s v) 0 o' ho8) _ rfl _ ?_)
 ·exact(Gh.to3 (by simp) (by simp -dsimp))
 rcases o' with r0|sx
 ·dsimp only at hF
  cases hF
  intro st h
  simpa using h
 ·dsimp only at hF
  cases hF
  repeat first|refine cg ?_|simp -dsimp
  all_goals(try first|omega|rfl)
theorem C.f138 (s:List Int)(v:Int)(r:Bool)(hF:F.f138 s v=some r):PureCall Tryz.prog B 183 [.arr (List.map cI s),.lit (.int .i64 v)] (.lit (.bool r)):=by
 unfold F.f138 at hF
 refine PureCall.enterLe Tryz.func183 (by kernel_rfl) rfl Tryz.ntmps183 (by simp) (by simp) ?_
 repeat first|refine cg ?_|simp -dsimp
 have hF:=ob hF;obtain⟨v1,e2,hF⟩:=hF
 refine((C.f137 B hB1 hB2 s v v1 e2)).goW (by simp) (by simp) ?_
 cases hF
 repeat first|refine cg ?_|simp -dsimp
 all_goals(try first|omega|rfl)
theorem CC.f139 (t:Ty)(x2:Ctor):(∀(i:Nat) (out:List Ty) (o:List Ty),F.f139 t x2 i out=some o→∀(c:Code),navO [1,1,1,1,1,0,1,0,0] (bodyOf Tryz.f184)=some c→∀(Q:Exit→ASt→Prop),(Q (.exit 0) ⟨[(9,.own 2 (List.length (α:=Ty) o))],[.dead,.dead,.elems 2 (List.map Ty.c o)]⟩)→ALoopU Tryz.prog B 0 45 (hold c .mk) ⟨[(8,.lit (.int .i64 t.index)),(9,.own 2 (List.length (α:=Ty) out)),(28,.arr (List.map Ty.c x2.args)),(29,.lit (.int .i64 (x2.args.length:Int))),(30,.lit (.int .i64 (i:Int)))],[.dead,.dead,.elems 2 (List.map Ty.c out)]⟩ (hold Q .mk)):=by
 refine F.f139.partial_correctness t x2
  _
  ?_
 ·intro _f_f139 ih_f139 i out o hF
  intro c hc Q hq
  obtain rfl:c=_:=navEq hc rfl
  refine ALoopU.know fun hk hs=> ?_
  have b28:=hk 28
  simp -dsimp at b28
  have d2:=hs 2 _ rfl
  simp -dsimp[Blk.bnd]at d2
  clear hk hs
  refine ALoopU.enter ?_
  repeat first|refine cg ?_|simp -dsimp
  revert hF;refine abr.sp ?_ ?_<;>intro h6 q7 hF
  ·have z8:((i:Int)<(x2.args.length:Int)):=auz
   have hF:=ob hF;obtain⟨x9,e10,hF⟩:=hF
   have le10:=lt_of_get e10
   repeat first|refine cg ?_|simp -dsimp[h6,z8,↓e10]
   revert hF;refine abr.sp ?_ ?_<;>intro h11 q12 hF
   ·have hF:=oc hF;obtain⟨c13,hF⟩:=hF
    have w14:IntKind.i64.wrap ((i:Int)+1)=(i:Int)+1:=wrap_in (by omega) (by omega)
    repeat first|refine cg ?_|simp -dsimp[h6,z8,↓e10,h11,w14]
    refine Again.go _ ?_ ((ih_f139 (i+1) (out++[(⟨x9.data,t.index⟩:Ty)]) o hF) _ rfl _ hq)
    exact(Gh.to3 (by simp) (by first|simp -dsimp[h6,z8,↓e10,h11,w14];done|simp_all))
   ·have hF:=oc hF;obtain⟨c15,hF⟩:=hF
    have w16:IntKind.i64.wrap ((i:Int)+1)=(i:Int)+1:=wrap_in (by omega) (by omega)
    repeat first|refine cg ?_|simp -dsimp[h6,z8,↓e10,h11,q12,w16]
    refine Again.go _ ?_ ((ih_f139 (i+1) (out++[x9]) o hF) _ rfl _ hq)
    exact(Gh.to3 (by simp) (by first|simp -dsimp[h6,z8,↓e10,h11,q12,w16];done|simp_all))
  ·have z8:¬((i:Int)<(x2.args.length:Int)):=auz
   cases hF
   repeat first|refine cg ?_|simp -dsimp[h6,q7,z8]
   refine Leave.go _ (Gh.to3 (by simp) (by first|simp -dsimp[h6,q7,z8];done|simp_all)) hq
theorem CC.f140 (x2:Ctor):(∀(i18:Nat) (out19:List Ty) (o:List Ty),F.f140 x2 i18 out19=some o→∀(c:Code),navO [1,1,1,1,1,0,1,0,0] (bodyOf Tryz.f184)=some c→∀(Q:Exit→ASt→Prop),(Q (.exit 0) ⟨[(9,.own 2 (List.length (α:=Ty) o))],[.dead,.dead,.elems 2 (List.map Ty.c o)]⟩)→ALoopU Tryz.prog B 0 45 (hold c .mk) ⟨[(8,.lit (.int .i64 x2.index)),(9,.own 2 (List.length (α:=Ty) out19)),(28,.arr (List.map Ty.c x2.args)),(29,.lit (.int .i64 (x2.args.length:Int))),(30,.lit (.int .i64 (i18:Int)))],[.dead,.dead,.elems 2 (List.map Ty.c out19)]⟩ (hold Q .mk)):=by
 refine F.f140.partial_correctness x2
  _
  ?_
 ·intro _f_f140 ih_f140 i18 out19 o hF
  intro c hc Q hq
  obtain rfl:c=_:=navEq hc rfl
  refine ALoopU.know fun hk hs=> ?_
  have b28:=hk 28
  simp -dsimp at b28
  have d2:=hs 2 _ rfl
  simp -dsimp[Blk.bnd]at d2
  clear hk hs
  refine ALoopU.enter ?_
  repeat first|refine cg ?_|simp -dsimp
  revert hF;refine abr.sp ?_ ?_<;>intro h20 q21 hF
  ·have z22:((i18:Int)<(x2.args.length:Int)):=auz
   have hF:=ob hF;obtain⟨x23,e24,hF⟩:=hF
   have le24:=lt_of_get e24
   repeat first|refine cg ?_|simp -dsimp[h20,z22,↓e24]
   revert hF;refine abr.sp ?_ ?_<;>intro h25 q26 hF
   ·have hF:=oc hF;obtain⟨c27,hF⟩:=hF
    have w28:IntKind.i64.wrap ((i18:Int)+1)=(i18:Int)+1:=wrap_in (by omega) (by omega)
    repeat first|refine cg ?_|simp -dsimp[h20,z22,↓e24,h25,w28]
    refine Again.go _ ?_ ((ih_f140 (i18+1) (out19++[(⟨x23.data,x2.index⟩:Ty)]) o hF) _ rfl _ hq)
    exact(Gh.to3 (by simp) (by first|simp -dsimp[h20,z22,↓e24,h25,w28];done|simp_all))
   ·have hF:=oc hF;obtain⟨c29,hF⟩:=hF
    have w30:IntKind.i64.wrap ((i18:Int)+1)=(i18:Int)+1:=wrap_in (by omega) (by omega)
    repeat first|refine cg ?_|simp -dsimp[h20,z22,↓e24,h25,q26,w30]
    refine Again.go _ ?_ ((ih_f140 (i18+1) (out19++[x23]) o hF) _ rfl _ hq)
    exact(Gh.to3 (by simp) (by first|simp -dsimp[h20,z22,↓e24,h25,q26,w30];done|simp_all))
  ·have z22:¬((i18:Int)<(x2.args.length:Int)):=auz
   cases hF
   repeat first|refine cg ?_|simp -dsimp[h20,q21,z22]
   refine Leave.go _ (Gh.to3 (by simp) (by first|simp -dsimp[h20,q21,z22];done|simp_all)) hq
theorem C.f141 (w:List Vl.Data)(t:Ty)(ctor:Int)(r:List Ty)(hF:F.f141 w t ctor=some r):PureCall Tryz.prog B 184 [.arr (List.map Vl.Data.c w),.agg [.lit (.int .i64 t.data),.lit (.int .i64 t.index)],.lit (.int .i64 ctor)] (.arr (List.map Ty.c r)):=by
 unfold F.f141 at hF
 refine PureCall.enterLe Tryz.func184 (by kernel_rfl) rfl Tryz.ntmps184 (by simp) (by simp) ?_
 have hF:=ob hF;obtain⟨x,e1a,hF⟩:=hF
 have e1a:=at_some e1a;obtain⟨ne1,e1⟩:=e1a
 have le1:=lt_of_get e1
 have hF:=ob hF;obtain⟨x2,e3a,hF⟩:=hF
 have e3a:=at_some e3a;obtain⟨ne3,e3⟩:=e3a
 have le3:=lt_of_get e3
 repeat first|refine cg ?_|simp -dsimp[↓e1,↓e3]
 revert hF;refine abr.sp ?_ ?_<;>intro h4 q5 hF
 ·repeat first|refine cg ?_|simp -dsimp[↓e1,↓e3,h4]
  have hF:=ob hF;obtain⟨o',ho17,hF⟩:=hF
  refine ALoop.goU ⟨[(8,.lit (.int .i64 t.index)),(9,.own 2 (List.length (α:=Ty) [])),(28,.arr (List.map Ty.c x2.args)),(29,.lit (.int .i64 (x2.args.length:Int))),(30,.lit (.int .i64 0))],[.dead,.dead,.elems 2 (List.map Ty.c [])]⟩ (by refine Gh.trans (Gh.nil 9 2 (by simp -dsimp)) ?_;exact(Gh.to3 (by simp) (by first|simp -dsimp[↓e1,↓e3,h4];done|simp_all))) ?_
  refine((CC.f139 B hB1 hB2 t x2) 0 [] o' ho17) _ rfl _ ?_
  cases hF
  repeat first|refine cg ?_|simp -dsimp
  all_goals(try first|omega|rfl)
 ·repeat first|refine cg ?_|simp -dsimp[↓e1,↓e3,h4,q5]
  have hF:=ob hF;obtain⟨o'32,ho31,hF⟩:=hF
  refine ALoop.goU ⟨[(8,.lit (.int .i64 x2.index)),(9,.own 2 (List.length (α:=Ty) [])),(28,.arr (List.map Ty.c x2.args)),(29,.lit (.int .i64 (x2.args.length:Int))),(30,.lit (.int .i64 0))],[.dead,.dead,.elems 2 (List.map Ty.c [])]⟩ (by refine Gh.trans (Gh.nil 9 2 (by simp -dsimp)) ?_;exact(Gh.to3 (by simp) (by first|simp -dsimp[↓e1,↓e3,h4,q5];done|simp_all))) ?_
  refine((CC.f140 B hB1 hB2 x2) 0 [] o'32 ho31) _ rfl _ ?_
  cases hF
  repeat first|refine cg ?_|simp -dsimp
  all_goals(try first|omega|rfl)
theorem C.f142 (w:List Vl.Data)(t:Ty)(p:Pattern)(r:(List Ty)×Bool)(hF:F.f142 w t p=some r):PureCall Tryz.prog B 148 [.arr (List.map Vl.Data.c w),.agg [.lit (.int .i64 t.data),.lit (.int .i64 t.index)],.agg [.lit (.int .i64 p.op),.lit (.int .i64 p.ctor),.lit (.int .i64 p.n),.lit (.int .i64 p.m),.lit (.int .i64 p.var),.arr (List.map Pattern.c p.kids)]] (.tup [.arr (List.map Ty.c r.1),.lit (.bool r.2)]):=by
 unfold F.f142 at hF
 refine PureCall.enterLe Tryz.func148 (by kernel_rfl) rfl Tryz.ntmps148 (by simp) (by simp) ?_
 repeat first|refine cg ?_|simp -dsimp
 revert hF;refine abr.sp ?_ ?_<;>intro h1 q2 hF
 ·repeat first|refine cg ?_|simp -dsimp[h1]
  have hF:=ob hF;obtain⟨v,e3,hF⟩:=hF
  refine((C.f132 B hB1 hB2 p false false false 0 v e3)).goW (by first|simp[h1];done|simp_all) (by simp) ?_
  cases hF
  repeat first|refine cg ?_|simp -dsimp[h1]
  all_goals(try first|omega|rfl)
 ·repeat first|refine cg ?_|simp -dsimp[h1,q2]
  revert hF;refine abr.sp ?_ ?_<;>intro h4 q5 hF
  ·repeat first|refine cg ?_|simp -dsimp[h1,q2,h4]
   have hF:=ob hF;obtain⟨v6,e7,hF⟩:=hF
   refine((C.f132 B hB1 hB2 p false false true 0 v6 e7)).goW (by first|simp[h1,q2,h4];done|simp_all) (by simp) ?_
   repeat first|refine cg ?_|simp -dsimp[h1,q2,h4]
   revert hF;refine abr.sp (fun h8 q9 hF=> ?_) (fun h8 q9 hF=> ?_)
   ·repeat first|refine cg ?_|simp -dsimp[h1,q2,h4,h8]
    have hF:=ob hF;obtain⟨v10,e11,hF⟩:=hF
    refine((C.f133 B hB1 hB2 p.var v10 e11)).goW (by first|simp[h1,q2,h4,h8];done|simp_all) (by simp) ?_
    cases hF
    repeat first|refine cg ?_|simp -dsimp[h1,q2,h4,h8]
    all_goals(try first|omega|rfl)
   ·cases hF
    repeat first|refine cg ?_|simp -dsimp[h1,q2,h4,h8,q9]
    all_goals(try first|omega|rfl)
  ·repeat first|refine cg ?_|simp -dsimp[h1,q2,h4,q5]
   revert hF;refine abr.sp ?_ ?_<;>intro h12 q13 hF
   ·repeat first|refine cg ?_|simp -dsimp[h1,q2,h4,q5,h12]
    refine ADraw.simple follows (by kernel_rfl) (by kernel_rfl) ?_
    repeat first|refine cg ?_|simp -dsimp[h1,q2,h4,q5,h12]
    revert hF;refine abr.sp ?_ ?_<;>intro h14 q15 hF
    ·repeat first|refine cg ?_|simp -dsimp[h1,q2,h4,q5,h12,h14]
     have hF:=ob hF;obtain⟨v16,e17,hF⟩:=hF
     refine((C.f132 B hB1 hB2 p false true false 0 v16 e17)).pgoW (by first|simp[h1,q2,h4,q5,h12,h14];done|simp_all) (by simp) ?_
     repeat first|refine cg ?_|simp -dsimp[h1,q2,h4,q5,h12,h14]
     revert hF;refine abr.sp (fun h18 q19 hF=> ?_) (fun h18 q19 hF=> ?_)
     ·repeat first|refine cg ?_|simp -dsimp[h1,q2,h4,q5,h12,h14,h18]
      revert hF;refine abr.sp ?_ ?_<;>intro h20 q21 hF
      ·repeat first|refine cg ?_|simp -dsimp[h1,q2,h4,q5,h12,h14,h18,h20]
       revert hF;refine abr.sp ?_ ?_<;>intro h22 q23 hF
       ·cases hF
        repeat first|refine cg ?_|simp -dsimp[h1,q2,h4,q5,h12,h14,h18,h20,h22]
        all_goals(try first|omega|rfl)
       ·cases hF
        repeat first|refine cg ?_|simp -dsimp[h1,q2,h4,q5,h12,h14,h18,h20,h22,q23]
        all_goals(try first|omega|rfl)
      ·cases hF
       repeat first|refine cg ?_|simp -dsimp[h1,q2,h4,q5,h12,h14,h18,h20,q21]
       all_goals(try first|omega|rfl)
     ·cases hF
      repeat first|refine cg ?_|simp -dsimp[h1,q2,h4,q5,h12,h14,h18,q19]
      all_goals(try first|omega|rfl)
    ·cases hF
     repeat first|refine cg ?_|simp -dsimp[h1,q2,h4,q5,h12,h14,q15]
     all_goals(try first|omega|rfl)
   ·repeat first|refine cg ?_|simp -dsimp[h1,q2,h4,q5,h12,q13]
    revert hF;refine abr.sp ?_ ?_<;>intro h24 q25 hF
    ·repeat first|refine cg ?_|simp -dsimp[h1,q2,h4,q5,h12,q13,h24]
     refine ADraw.simple follows (by kernel_rfl) (by kernel_rfl) ?_
     repeat first|refine cg ?_|simp -dsimp[h1,q2,h4,q5,h12,q13,h24]
     have hF:=ob hF;obtain⟨v26,e27,hF⟩:=hF
     refine((C.f135 B hB1 hB2 w t v26 e27)).pgoW (by first|simp[h1,q2,h4,q5,h12,q13,h24];done|simp_all) (by simp) ?_
     repeat first|refine cg ?_|simp -dsimp[h1,q2,h4,q5,h12,q13,h24]
     have hF:=ob hF;obtain⟨v28,e29,hF⟩:=hF
     refine((C.f138 B hB1 hB2 v26 p.ctor v28 e29)).pgoW (by first|simp[h1,q2,h4,q5,h12,q13,h24];done|simp_all) (by simp) ?_
     repeat first|refine cg ?_|simp -dsimp[h1,q2,h4,q5,h12,q13,h24]
     revert hF;refine abr.ns (fun h30 q31 hF=> ?_) (fun h30 q31 hF=> ?_)
     ·cases hF
      repeat first|refine cg ?_|simp -dsimp[h1,q2,h4,q5,h12,q13,h24,h30,q31]
      all_goals(try first|omega|rfl)
     ·repeat first|refine cg ?_|simp -dsimp[h1,q2,h4,q5,h12,q13,h24,h30,q31]
      have hF:=ob hF;obtain⟨v32,e33,hF⟩:=hF
      refine((C.f141 B hB1 hB2 w t p.ctor v32 e33)).goW (by first|simp[h1,q2,h4,q5,h12,q13,h24,h30,q31];done|simp_all) (by simp) ?_
      repeat first|refine cg ?_|simp -dsimp[h1,q2,h4,q5,h12,q13,h24,h30,q31]
      have hF:=ob hF;obtain⟨v34,e35,hF⟩:=hF
      refine((C.f132 B hB1 hB2 p true false false (v32.length:Int) v34 e35)).goW (by first|simp[h1,q2,h4,q5,h12,q13,h24,h30,q31];done|simp_all) (by simp) ?_
      cases hF
      repeat first|refine cg ?_|simp -dsimp[h1,q2,h4,q5,h12,q13,h24,h30,q31]
      all_goals(try first|omega|rfl)
    ·repeat first|refine cg ?_|simp -dsimp[h1,q2,h4,q5,h12,q13,h24,q25]
     revert hF;refine abr.sp ?_ ?_<;>intro h36 q37 hF
     ·repeat first|refine cg ?_|simp -dsimp[h1,q2,h4,q5,h12,q13,h24,q25,h36]
      refine ADraw.eff [] [(0,0),(0,0),(0,1),(0,1),(0,1),(1,1),(1,1)] [1,1,1,2,1,1,1] follows (by kernel_rfl) (by kernel_rfl) (by kernel_rfl) ?_
      repeat first|refine cg ?_|simp -dsimp[h1,q2,h4,q5,h12,q13,h24,q25,h36]
      have hF:=ob hF;obtain⟨v38,e39,hF⟩:=hF
      refine((C.f132 B hB1 hB2 p false false false 2 v38 e39)).pgoW (by first|simp[h1,q2,h4,q5,h12,q13,h24,q25,h36];done|simp_all) (by simp) ?_
      cases hF
      repeat first|refine cg ?_|simp -dsimp[h1,q2,h4,q5,h12,q13,h24,q25,h36]
      all_goals(try first|omega|rfl)
     ·repeat first|refine cg ?_|simp -dsimp[h1,q2,h4,q5,h12,q13,h24,q25,h36,q37]
      revert hF;refine abr.sp ?_ ?_<;>intro h40 q41 hF
      ·repeat first|refine cg ?_|simp -dsimp[h1,q2,h4,q5,h12,q13,h24,q25,h36,q37,h40]
       refine ADraw.eff [] [(0,0),(0,1),(0,1),(0,1),(0,1),(0,1),(0,1),(0,1),(0,1),(1,1),(1,1)] [1,1,2,1,1,0,2,1,1,1,1] follows (by kernel_rfl) (by kernel_rfl) (by kernel_rfl) ?_
       repeat first|refine cg ?_|simp -dsimp[h1,q2,h4,q5,h12,q13,h24,q25,h36,q37,h40]
       have hF:=ob hF;obtain⟨v42,e43,hF⟩:=hF
       refine((C.f132 B hB1 hB2 p false false true 1 v42 e43)).pgoW (by first|simp[h1,q2,h4,q5,h12,q13,h24,q25,h36,q37,h40];done|simp_all) (by simp) ?_
       repeat first|refine cg ?_|simp -dsimp[h1,q2,h4,q5,h12,q13,h24,q25,h36,q37,h40]
       revert hF;refine abr.sp (fun h44 q45 hF=> ?_) (fun h44 q45 hF=> ?_)
       ·repeat first|refine cg ?_|simp -dsimp[h1,q2,h4,q5,h12,q13,h24,q25,h36,q37,h40,h44]
        have hF:=ob hF;obtain⟨v46,e47,hF⟩:=hF
        refine((C.f133 B hB1 hB2 p.var v46 e47)).pgoW (by first|simp[h1,q2,h4,q5,h12,q13,h24,q25,h36,q37,h40,h44];done|simp_all) (by simp) ?_
        cases hF
        repeat first|refine cg ?_|simp -dsimp[h1,q2,h4,q5,h12,q13,h24,q25,h36,q37,h40,h44]
        all_goals(try first|omega|rfl)
       ·skip
        cases hF
        repeat first|refine cg ?_|simp -dsimp[h1,q2,h4,q5,h12,q13,h24,q25,h36,q37,h40,h44,q45]
        all_goals(try first|omega|rfl)
      ·cases hF
       repeat first|refine cg ?_|simp -dsimp[h1,q2,h4,q5,h12,q13,h24,q25,h36,q37,h40,q41]
       all_goals(try first|omega|rfl)
theorem CC.f143 (s:List VarType)(v:VarType):(∀(i:Nat) (o:Lo Int Unit),F.f143 s v i=some o→∀(c:Code),navO [1,0,1,0,0] (bodyOf Tryz.f195)=some c→∀(Q:Exit→ASt→Prop),o.post (fun r=>∀st,Post Tryz.prog Tryz.f195 (fun r' _=>r'.le (.lit (.int .i64 r))) .ret st→Q .ret st) (fun s=>Q (.exit 0) ⟨[],[]⟩)→ALoopU Tryz.prog B 0 19 (hold c .mk) ⟨[(0,.arr (List.map VarType.c s)),(3,.ptr 0 0),(7,.lit (.int .i64 (s.length:Int))),(8,.lit (.int .i64 (i:Int)))],[.cells [.lit (.int .i64 v.var),.lit (.int .i64 v.type.data),.lit (.int .i64 v.type.index)]]⟩ (hold Q .mk)):=by
 refine F.f143.partial_correctness s v
  _
  ?_
 ·intro _f_f143 ih_f143 i o hF
  intro c hc Q hq
  obtain rfl:c=_:=navEq hc rfl
  refine ALoopU.know fun hk hs=> ?_
  have b0:=hk 0
  simp -dsimp at b0
  clear hk hs
  refine ALoopU.enter ?_
  repeat first|refine cg ?_|simp -dsimp
  revert hF;refine abr.sp ?_ ?_<;>intro h1 q2 hF
  ·have z3:((i:Int)<(s.length:Int)):=auz
   repeat first|refine cg ?_|simp -dsimp[h1,z3]
   refine ADraw.simple follows (by kernel_rfl) (by kernel_rfl) ?_
   have hF:=ob hF;obtain⟨x,e4,hF⟩:=hF
   have le4:=lt_of_get e4
   repeat first|refine cg ?_|simp -dsimp[h1,z3,↓e4]
   revert hF;refine abr.sp (fun h5 q6 hF=> ?_) (fun h5 q6 hF=> ?_)
   ·cases hF
    repeat first|refine cg ?_|simp -dsimp[h1,z3,↓e4,h5]
    refine Leave.go _ (Gh.refl _) (hq _ ?_)
    repeat first|refine cg ?_|simp -dsimp[h1,z3,↓e4,h5]
   ·have w7:IntKind.i64.wrap ((i:Int)+1)=(i:Int)+1:=wrap_in (by omega) (by omega)
    repeat first|refine cg ?_|simp -dsimp[h1,z3,↓e4,h5,q6,w7]
    refine Again.go _ ?_ ((ih_f143 (i+1) o hF) _ rfl _ hq)
    exact(Gh.to3 (by simp) (by first|simp -dsimp[h1,z3,↓e4,h5,q6,w7];done|simp_all))
  ·have z3:¬((i:Int)<(s.length:Int)):=auz
   cases hF
   repeat first|refine cg ?_|simp -dsimp[h1,q2,z3]
   refine Leave.go _ (Gh.to3 (by simp) (by first|simp -dsimp[h1,q2,z3];done|simp_all)) hq
theorem C.f144 (s:List VarType)(v:VarType)(r:Int)(hF:F.f144 s v=some r):PureCall Tryz.prog B 195 [.arr (List.map VarType.c s),.agg [.lit (.int .i64 v.var),.lit (.int .i64 v.type.data),.lit (.int .i64 v.type.index)]] (.lit (.int .i64 r)):=by
 unfold F.f144 at hF
 refine PureCall.enterLe Tryz.func195 (by kernel_rfl) rfl Tryz.ntmps195 (by simp) (by simp) ?_
 repeat first|refine cg ?_|simp -dsimp
 have hF:=ob hF;obtain⟨o',ho8,hF⟩:=hF
 refine ALoop.goU _ ?_ (((CC.f143 B hB1 hB2 s v) 0 o' ho8) _ rfl _ ?_)
 ·exact(Gh.to3 (by simp) (by simp -dsimp))
 rcases o' with r0|sx
 ·dsimp only at hF
  cases hF
  intro st h
  simpa using h
 ·dsimp only at hF
  cases hF
  repeat first|refine cg ?_|simp -dsimp
  all_goals(try first|omega|rfl)
theorem C.f145 (s:List VarType)(v:VarType)(r:Bool)(hF:F.f145 s v=some r):PureCall Tryz.prog B 175 [.arr (List.map VarType.c s),.agg [.lit (.int .i64 v.var),.lit (.int .i64 v.type.data),.lit (.int .i64 v.type.index)]] (.lit (.bool r)):=by
 unfold F.f145 at hF
 refine PureCall.enterLe Tryz.func175 (by kernel_rfl) rfl Tryz.ntmps175 (by simp) (by simp) ?_
 repeat first|refine cg ?_|simp -dsimp
 have hF:=ob hF;obtain⟨v1,e2,hF⟩:=hF
 refine((C.f144 B hB1 hB2 s v v1 e2)).goW (by simp) (by simp) ?_
 cases hF
 repeat first|refine cg ?_|simp -dsimp
 all_goals(try first|omega|rfl)
theorem C.f146 (v:VarType)(a1:List VarType)(r:Bool)(hF:F.f146 v a1=some r):PureCall Tryz.prog B 197 [.agg [.lit (.int .i64 v.var),.lit (.int .i64 v.type.data),.lit (.int .i64 v.type.index)],.rptr [.arr (List.map VarType.c a1)] 0] (.lit (.bool r)):=by
 unfold F.f146 at hF
 refine PureCall.enterLe Tryz.func197 (by kernel_rfl) rfl Tryz.ntmps197 (by simp) (by simp) ?_
 repeat first|refine cg ?_|simp -dsimp
 have hF:=ob hF;obtain⟨v1,e2,hF⟩:=hF
 refine((C.f145 B hB1 hB2 a1 v v1 e2)).goW (by simp) (by simp) ?_
 cases hF
 repeat first|refine cg ?_|simp -dsimp
 all_goals(try first|omega|rfl)
theorem CC.f147 (s:List VarType)(k0:List VarType):(∀(i:Nat) (o:Lo Int Unit),F.f147 s k0 i=some o→∀(c:Code),navO [1,0,1,0,0] (bodyOf Tryz.f205)=some c→∀(Q:Exit→ASt→Prop),o.post (fun r=>∀st,Post Tryz.prog Tryz.f205 (fun r' _=>r'.le (.lit (.int .i64 r))) .ret st→Q .ret st) (fun s=>Q (.exit 0) ⟨[],[]⟩)→ALoopU Tryz.prog B 0 19 (hold c .mk) ⟨[(0,.arr (List.map VarType.c s)),(1,.fn (.func 197) [] [.rptr [.arr (List.map VarType.c k0)] 0]),(7,.lit (.int .i64 (s.length:Int))),(8,.lit (.int .i64 (i:Int)))],[]⟩ (hold Q .mk)):=by
 refine F.f147.partial_correctness s k0
  _
  ?_
 ·intro _f_f147 ih_f147 i o hF
  intro c hc Q hq
  obtain rfl:c=_:=navEq hc rfl
  refine ALoopU.know fun hk hs=> ?_
  have b0:=hk 0
  simp -dsimp at b0
  clear hk hs
  refine ALoopU.enter ?_
  repeat first|refine cg ?_|simp -dsimp
  revert hF;refine abr.sp ?_ ?_<;>intro h1 q2 hF
  ·have z3:((i:Int)<(s.length:Int)):=auz
   have hF:=ob hF;obtain⟨x,e4,hF⟩:=hF
   have le4:=lt_of_get e4
   repeat first|refine cg ?_|simp -dsimp[h1,z3,↓e4]
   have hF:=ob hF;obtain⟨v,e5,hF⟩:=hF
   refine((C.f146 B hB1 hB2 x k0 v e5)).goW (by first|simp[h1,z3,↓e4];done|simp_all) (by simp) ?_
   repeat first|refine cg ?_|simp -dsimp[h1,z3,↓e4]
   revert hF;refine abr.sp (fun h6 q7 hF=> ?_) (fun h6 q7 hF=> ?_)
   ·cases hF
    repeat first|refine cg ?_|simp -dsimp[h1,z3,↓e4,h6]
    refine Leave.go _ (Gh.refl _) (hq _ ?_)
    repeat first|refine cg ?_|simp -dsimp[h1,z3,↓e4,h6]
   ·have w8:IntKind.i64.wrap ((i:Int)+1)=(i:Int)+1:=wrap_in (by omega) (by omega)
    repeat first|refine cg ?_|simp -dsimp[h1,z3,↓e4,h6,q7,w8]
    refine Again.go _ ?_ ((ih_f147 (i+1) o hF) _ rfl _ hq)
    exact(Gh.to3 (by simp) (by first|simp -dsimp[h1,z3,↓e4,h6,q7,w8];done|simp_all))
  ·have z3:¬((i:Int)<(s.length:Int)):=auz
   cases hF
   repeat first|refine cg ?_|simp -dsimp[h1,q2,z3]
   refine Leave.go _ (Gh.to3 (by simp) (by first|simp -dsimp[h1,q2,z3];done|simp_all)) hq
theorem C.f148 (s:List VarType)(k0:List VarType)(r:Int)(hF:F.f148 s k0=some r):PureCall Tryz.prog B 205 [.arr (List.map VarType.c s),.fn (.func 197) [] [.rptr [.arr (List.map VarType.c k0)] 0]] (.lit (.int .i64 r)):=by
 unfold F.f148 at hF
 refine PureCall.enterLe Tryz.func205 (by kernel_rfl) rfl Tryz.ntmps205 (by simp) (by simp) ?_
 repeat first|refine cg ?_|simp -dsimp
 have hF:=ob hF;obtain⟨o',ho9,hF⟩:=hF
 refine ALoop.goU _ ?_ (((CC.f147 B hB1 hB2 s k0) 0 o' ho9) _ rfl _ ?_)
 ·exact(Gh.to3 (by simp) (by simp -dsimp))
 rcases o' with r0|sx
 ·dsimp only at hF
  cases hF
  intro st h
  simpa using h
 ·dsimp only at hF
  cases hF
  repeat first|refine cg ?_|simp -dsimp
  all_goals(try first|omega|rfl)
theorem C.f149 (s:List VarType)(k0:List VarType)(r:Bool)(hF:F.f149 s k0=some r):PureCall Tryz.prog B 196 [.arr (List.map VarType.c s),.fn (.func 197) [] [.rptr [.arr (List.map VarType.c k0)] 0]] (.lit (.bool r)):=by
 unfold F.f149 at hF
 refine PureCall.enterLe Tryz.func196 (by kernel_rfl) rfl Tryz.ntmps196 (by simp) (by simp) ?_
 repeat first|refine cg ?_|simp -dsimp
 have hF:=ob hF;obtain⟨v,e1,hF⟩:=hF
 refine((C.f148 B hB1 hB2 s k0 v e1)).goW (by simp) (by simp) ?_
 cases hF
 repeat first|refine cg ?_|simp -dsimp
 all_goals(try first|omega|rfl)
theorem C.f150 (a:List VarType)(b:List VarType)(r:Bool)(hF:F.f150 a b=some r):PureCall Tryz.prog B 176 [.arr (List.map VarType.c a),.arr (List.map VarType.c b)] (.lit (.bool r)):=by
 unfold F.f150 at hF
 refine PureCall.enterLe Tryz.func176 (by kernel_rfl) rfl Tryz.ntmps176 (by simp) (by simp) ?_
 repeat first|refine cg ?_|simp -dsimp
 revert hF;refine abr.sp ?_ ?_<;>intro h1 q2 hF
 ·have z3:((a.length:Int)=(b.length:Int)):=auz
  repeat first|refine cg ?_|simp -dsimp[h1,z3]
  have hF:=ob hF;obtain⟨v,e4,hF⟩:=hF
  refine((C.f149 B hB1 hB2 a b v e4)).lend (by first|simp -dsimp[h1,z3];done|simp_all) (by simp -dsimp) ?_
  cases hF
  repeat first|refine cg ?_|simp -dsimp[h1,z3]
  all_goals(try first|omega|rfl)
 ·have z3:¬((a.length:Int)=(b.length:Int)):=auz
  cases hF
  repeat first|refine cg ?_|simp -dsimp[h1,q2,z3]
  all_goals(try first|omega|rfl)
theorem CC.f151 (sx:Int×(List VarType)):(∀(set':Nat→Bool) (i37:Nat) (o:Lo ((List VarType)×Bool×Int) Unit),F.f151 sx set' i37=some o→∀(c:Code),navO [1,1,1,1,1,1,1,1,1,0,1,0,0] (bodyOf Tryz.f141)=some c→∀(Q:Exit→ASt→Prop),o.post (fun r=>∀st,Post Tryz.prog Tryz.f141 (fun r' σ'=>r'.le (.tup [.arr (List.map VarType.c r.1),.lit (.bool r.2.1)])∧mcell σ' [.lit (.int .i64 r.2.2)]) .ret st→Q .ret st) (fun s=>Q (.exit 3) ⟨[(14,.own 4 (List.length (α:=VarType) sx.2))],[.cells [.lit (.int .i64 sx.1)],.dead,.dead,.dead,.elems 3 (List.map VarType.c sx.2)]⟩)→ALoopU Tryz.prog B 1 114 (hold c .mk) ⟨[(14,.own 4 (List.length (α:=VarType) sx.2)),(19,.ptr 5 0),(99,.own 4 (List.length (α:=VarType) sx.2)),(100,.lit (.int .i64 (sx.2.length:Int))),(101,.lit (.int .i64 (i37:Int)))],[.cells [.lit (.int .i64 sx.1)],.dead,.dead,.dead,.elems 3 (List.map VarType.c sx.2),.cells (fcB 6 set')]⟩ (hold Q .mk)):=by
 refine F.f151.partial_correctness sx
  _
  ?_
 ·intro _f_f151 ih_f151 set' i37 o hF
  intro c hc Q hq
  obtain rfl:c=_:=navEq hc rfl
  refine ALoopU.know fun hk hs=> ?_
  have d4:=hs 4 _ rfl
  simp -dsimp[Blk.bnd]at d4
  clear hk hs
  refine ALoopU.enter ?_
  repeat first|refine cg ?_|simp -dsimp
  revert hF;refine abr.sp ?_ ?_<;>intro h38 q39 hF
  ·have z40:((i37:Int)<(sx.2.length:Int)):=auz
   have hF:=ob hF;obtain⟨x41,e42,hF⟩:=hF
   have le42:=lt_of_get e42
   have hF:=oc hF;obtain⟨c43,hF⟩:=hF
   repeat first|refine cg ?_|simp -dsimp[h38,z40,↓e42,c43]
   revert hF;refine abr.sp (fun h44 q45 hF=> ?_) (fun h44 q45 hF=> ?_)
   ·cases hF
    repeat first|refine cg ?_|simp -dsimp[h38,z40,↓e42,c43,h44]
    refine Leave.go _ (Gh.refl _) (hq _ ?_)
    repeat first|refine cg ?_|simp -dsimp[h38,z40,↓e42,c43,h44]
   ·have w46:IntKind.i64.wrap ((i37:Int)+1)=(i37:Int)+1:=wrap_in (by omega) (by omega)
    repeat first|refine cg ?_|simp -dsimp[h38,z40,↓e42,c43,h44,q45,w46]
    refine Again.go _ ?_ ((ih_f151 (updF set' x41.var.toNat true) (i37+1) o hF) _ rfl _ hq)
    exact(Gh.to3 (by simp) (by first|simp -dsimp[h38,z40,↓e42,c43,h44,q45,w46];done|simp_all))
  ·have z40:¬((i37:Int)<(sx.2.length:Int)):=auz
   cases hF
   repeat first|refine cg ?_|simp -dsimp[h38,q39,z40]
   refine Leave.go _ (Gh.to3 (by simp) (by first|simp -dsimp[h38,q39,z40];done|simp_all)) hq
theorem CC.f152 (sx81:Int×(List VarType)):(∀(set'82:Nat→Bool) (i83:Nat) (o:Lo ((List VarType)×Bool×Int) Unit),F.f152 sx81 set'82 i83=some o→∀(c:Code),navO [1,1,1,1,1,1,1,1,1,0,1,0,0] (bodyOf Tryz.f141)=some c→∀(Q:Exit→ASt→Prop),o.post (fun r=>∀st,Post Tryz.prog Tryz.f141 (fun r' σ'=>r'.le (.tup [.arr (List.map VarType.c r.1),.lit (.bool r.2.1)])∧mcell σ' [.lit (.int .i64 r.2.2)]) .ret st→Q .ret st) (fun s=>Q (.exit 3) ⟨[(14,.own 3 (List.length (α:=VarType) sx81.2))],[.cells [.lit (.int .i64 sx81.1)],.dead,.dead,.elems 3 (List.map VarType.c sx81.2)]⟩)→ALoopU Tryz.prog B 1 114 (hold c .mk) ⟨[(14,.own 3 (List.length (α:=VarType) sx81.2)),(19,.ptr 4 0),(99,.own 3 (List.length (α:=VarType) sx81.2)),(100,.lit (.int .i64 (sx81.2.length:Int))),(101,.lit (.int .i64 (i83:Int)))],[.cells [.lit (.int .i64 sx81.1)],.dead,.dead,.elems 3 (List.map VarType.c sx81.2),.cells (fcB 6 set'82)]⟩ (hold Q .mk)):=by
 refine F.f152.partial_correctness sx81
  _
  ?_
 ·intro _f_f152 ih_f152 set'82 i83 o hF
  intro c hc Q hq
  obtain rfl:c=_:=navEq hc rfl
  refine ALoopU.know fun hk hs=> ?_
  have d3:=hs 3 _ rfl
  simp -dsimp[Blk.bnd]at d3
  clear hk hs
  refine ALoopU.enter ?_
  repeat first|refine cg ?_|simp -dsimp
  revert hF;refine abr.sp ?_ ?_<;>intro h84 q85 hF
  ·have z86:((i83:Int)<(sx81.2.length:Int)):=auz
   have hF:=ob hF;obtain⟨x87,e88,hF⟩:=hF
   have le88:=lt_of_get e88
   have hF:=oc hF;obtain⟨c89,hF⟩:=hF
   repeat first|refine cg ?_|simp -dsimp[h84,z86,↓e88,c89]
   revert hF;refine abr.sp (fun h90 q91 hF=> ?_) (fun h90 q91 hF=> ?_)
   ·cases hF
    repeat first|refine cg ?_|simp -dsimp[h84,z86,↓e88,c89,h90]
    refine Leave.go _ (Gh.refl _) (hq _ ?_)
    repeat first|refine cg ?_|simp -dsimp[h84,z86,↓e88,c89,h90]
   ·have w92:IntKind.i64.wrap ((i83:Int)+1)=(i83:Int)+1:=wrap_in (by omega) (by omega)
    repeat first|refine cg ?_|simp -dsimp[h84,z86,↓e88,c89,h90,q91,w92]
    refine Again.go _ ?_ ((ih_f152 (updF set'82 x87.var.toNat true) (i83+1) o hF) _ rfl _ hq)
    exact(Gh.to3 (by simp) (by first|simp -dsimp[h84,z86,↓e88,c89,h90,q91,w92];done|simp_all))
  ·have z86:¬((i83:Int)<(sx81.2.length:Int)):=auz
   cases hF
   repeat first|refine cg ?_|simp -dsimp[h84,q85,z86]
   refine Leave.go _ (Gh.to3 (by simp) (by first|simp -dsimp[h84,q85,z86];done|simp_all)) hq
theorem CC.f153 (sx128:Int×(List VarType)):(∀(set'129:Nat→Bool) (i130:Nat) (o:Lo ((List VarType)×Bool×Int) Unit),F.f153 sx128 set'129 i130=some o→∀(c:Code),navO [1,1,1,1,1,1,1,1,1,0,1,0,0] (bodyOf Tryz.f141)=some c→∀(Q:Exit→ASt→Prop),o.post (fun r=>∀st,Post Tryz.prog Tryz.f141 (fun r' σ'=>r'.le (.tup [.arr (List.map VarType.c r.1),.lit (.bool r.2.1)])∧mcell σ' [.lit (.int .i64 r.2.2)]) .ret st→Q .ret st) (fun s=>Q (.exit 3) ⟨[(14,.own 4 (List.length (α:=VarType) sx128.2))],[.cells [.lit (.int .i64 sx128.1)],.dead,.dead,.dead,.elems 3 (List.map VarType.c sx128.2)]⟩)→ALoopU Tryz.prog B 1 114 (hold c .mk) ⟨[(14,.own 4 (List.length (α:=VarType) sx128.2)),(19,.ptr 5 0),(99,.own 4 (List.length (α:=VarType) sx128.2)),(100,.lit (.int .i64 (sx128.2.length:Int))),(101,.lit (.int .i64 (i130:Int)))],[.cells [.lit (.int .i64 sx128.1)],.dead,.dead,.dead,.elems 3 (List.map VarType.c sx128.2),.cells (fcB 6 set'129)]⟩ (hold Q .mk)):=by
 refine F.f153.partial_correctness sx128
  _
  ?_
 ·intro _f_f153 ih_f153 set'129 i130 o hF
  intro c hc Q hq
  obtain rfl:c=_:=navEq hc rfl
  refine ALoopU.know fun hk hs=> ?_
  have d4:=hs 4 _ rfl
  simp -dsimp[Blk.bnd]at d4
  clear hk hs
  refine ALoopU.enter ?_
  repeat first|refine cg ?_|simp -dsimp
  revert hF;refine abr.sp ?_ ?_<;>intro h131 q132 hF
  ·have z133:((i130:Int)<(sx128.2.length:Int)):=auz
   have hF:=ob hF;obtain⟨x134,e135,hF⟩:=hF
   have le135:=lt_of_get e135
   have hF:=oc hF;obtain⟨c136,hF⟩:=hF
   repeat first|refine cg ?_|simp -dsimp[h131,z133,↓e135,c136]
   revert hF;refine abr.sp (fun h137 q138 hF=> ?_) (fun h137 q138 hF=> ?_)
   ·cases hF
    repeat first|refine cg ?_|simp -dsimp[h131,z133,↓e135,c136,h137]
    refine Leave.go _ (Gh.refl _) (hq _ ?_)
    repeat first|refine cg ?_|simp -dsimp[h131,z133,↓e135,c136,h137]
   ·have w139:IntKind.i64.wrap ((i130:Int)+1)=(i130:Int)+1:=wrap_in (by omega) (by omega)
    repeat first|refine cg ?_|simp -dsimp[h131,z133,↓e135,c136,h137,q138,w139]
    refine Again.go _ ?_ ((ih_f153 (updF set'129 x134.var.toNat true) (i130+1) o hF) _ rfl _ hq)
    exact(Gh.to3 (by simp) (by first|simp -dsimp[h131,z133,↓e135,c136,h137,q138,w139];done|simp_all))
  ·have z133:¬((i130:Int)<(sx128.2.length:Int)):=auz
   cases hF
   repeat first|refine cg ?_|simp -dsimp[h131,q132,z133]
   refine Leave.go _ (Gh.to3 (by simp) (by first|simp -dsimp[h131,q132,z133];done|simp_all)) hq
theorem CC.f154 (w:List Vl.Data):(∀(t:Ty) (p:Pattern) (deep:Int) (count:Int) (r:(List VarType)×Bool×Int),F.f154 w t p deep count=some r→MutCall Tryz.prog B 141 [.lit (.int .i64 count)] [.arr (List.map Vl.Data.c w),.agg [.lit (.int .i64 t.data),.lit (.int .i64 t.index)],.agg [.lit (.int .i64 p.op),.lit (.int .i64 p.ctor),.lit (.int .i64 p.n),.lit (.int .i64 p.m),.lit (.int .i64 p.var),.arr (List.map Pattern.c p.kids)],.lit (.int .i64 deep),.ptr 0 0] (.tup [.arr (List.map VarType.c r.1),.lit (.bool r.2.1)]) [.lit (.int .i64 r.2.2)])∧
  (∀(p:Pattern) (deep:Int) (v:(List Ty)×Bool) (z51:Int) (vars52:List VarType) (i53:Nat) (o:Lo ((List VarType)×Bool×Int) (Int×(List VarType))),F.f156 w p deep v z51 vars52 i53=some o→∀(c:Code),navO [1,1,1,1,1,1,1,0,1,0,0] (bodyOf Tryz.f141)=some c→∀(Q:Exit→ASt→Prop),o.post (fun r=>∀st,Post Tryz.prog Tryz.f141 (fun r' σ'=>r'.le (.tup [.arr (List.map VarType.c r.1),.lit (.bool r.2.1)])∧mcell σ' [.lit (.int .i64 r.2.2)]) .ret st→Q .ret st) (fun s=>Q (.exit 0) ⟨[(14,.own 3 (List.length (α:=VarType) s.2))],[.cells [.lit (.int .i64 s.1)],.dead,.dead,.elems 3 (List.map VarType.c s.2)]⟩)→ALoopU Tryz.prog B 1 114 (hold c .mk) ⟨[(0,.arr (List.map Vl.Data.c w)),(3,.lit (.int .i64 deep)),(4,.ptr 0 0),(7,.ptr 2 0),(12,.arr (List.map Ty.c v.1)),(14,.own 3 (List.length (α:=VarType) vars52)),(60,.arr (List.map Pattern.c p.kids)),(61,.lit (.int .i64 (p.kids.length:Int))),(62,.lit (.int .i64 (i53:Int)))],[.cells [.lit (.int .i64 z51)],.dead,.cells [.lit (.int .i64 p.op),.lit (.int .i64 p.ctor),.lit (.int .i64 p.n),.lit (.int .i64 p.m),.lit (.int .i64 p.var),.arr (List.map Pattern.c p.kids)],.elems 3 (List.map VarType.c vars52)]⟩ (hold Q .mk))∧
  (∀(p:Pattern) (deep:Int) (v:(List Ty)×Bool) (z:Int) (vars:List VarType) (i:Nat) (o:Lo ((List VarType)×Bool×Int) (Int×(List VarType))),F.f155 w p deep v z vars i=some o→∀(c:Code),navO [1,1,1,1,1,1,1,0,1,0,0] (bodyOf Tryz.f141)=some c→∀(Q:Exit→ASt→Prop),o.post (fun r=>∀st,Post Tryz.prog Tryz.f141 (fun r' σ'=>r'.le (.tup [.arr (List.map VarType.c r.1),.lit (.bool r.2.1)])∧mcell σ' [.lit (.int .i64 r.2.2)]) .ret st→Q .ret st) (fun s=>Q (.exit 0) ⟨[(14,.own 4 (List.length (α:=VarType) s.2))],[.cells [.lit (.int .i64 s.1)],.dead,.dead,.dead,.elems 3 (List.map VarType.c s.2)]⟩)→ALoopU Tryz.prog B 1 114 (hold c .mk) ⟨[(0,.arr (List.map Vl.Data.c w)),(3,.lit (.int .i64 deep)),(4,.ptr 0 0),(7,.ptr 2 0),(12,.arr (List.map Ty.c v.1)),(14,.own 4 (List.length (α:=VarType) vars)),(60,.arr (List.map Pattern.c p.kids)),(61,.lit (.int .i64 (p.kids.length:Int))),(62,.lit (.int .i64 (i:Int)))],[.cells [.lit (.int .i64 z)],.dead,.cells [.lit (.int .i64 p.op),.lit (.int .i64 p.ctor),.lit (.int .i64 p.n),.lit (.int .i64 p.m),.lit (.int .i64 p.var),.arr (List.map Pattern.c p.kids)],.dead,.elems 3 (List.map VarType.c vars)]⟩ (hold Q .mk))∧
  (∀(p:Pattern) (deep:Int) (v:(List Ty)×Bool) (z98:Int) (vars99:List VarType) (i100:Nat) (o:Lo ((List VarType)×Bool×Int) (Int×(List VarType))),F.f157 w p deep v z98 vars99 i100=some o→∀(c:Code),navO [1,1,1,1,1,1,1,0,1,0,0] (bodyOf Tryz.f141)=some c→∀(Q:Exit→ASt→Prop),o.post (fun r=>∀st,Post Tryz.prog Tryz.f141 (fun r' σ'=>r'.le (.tup [.arr (List.map VarType.c r.1),.lit (.bool r.2.1)])∧mcell σ' [.lit (.int .i64 r.2.2)]) .ret st→Q .ret st) (fun s=>Q (.exit 0) ⟨[(14,.own 4 (List.length (α:=VarType) s.2))],[.cells [.lit (.int .i64 s.1)],.dead,.dead,.dead,.elems 3 (List.map VarType.c s.2)]⟩)→ALoopU Tryz.prog B 1 114 (hold c .mk) ⟨[(0,.arr (List.map Vl.Data.c w)),(3,.lit (.int .i64 deep)),(4,.ptr 0 0),(7,.ptr 2 0),(12,.arr (List.map Ty.c v.1)),(14,.own 4 (List.length (α:=VarType) vars99)),(60,.arr (List.map Pattern.c p.kids)),(61,.lit (.int .i64 (p.kids.length:Int))),(62,.lit (.int .i64 (i100:Int)))],[.cells [.lit (.int .i64 z98)],.dead,.cells [.lit (.int .i64 p.op),.lit (.int .i64 p.ctor),.lit (.int .i64 p.n),.lit (.int .i64 p.m),.lit (.int .i64 p.var),.arr (List.map Pattern.c p.kids)],.dead,.elems 3 (List.map VarType.c vars99)]⟩ (hold Q .mk)):=by
 refine F.f154.mutual_partial_correctness w
  _ _ _ _
  ?_ ?_ ?_ ?_
 ·intro _f_f156 _f_f155 _f_f157 ih_f156 ih_f155 ih_f157 t p deep count r hF
  refine MutCall.enter Tryz.func141 (by kernel_rfl) rfl Tryz.ntmps141 (by simp) (by simp) (by simp) (by simp) ?_
  repeat first|refine cg ?_|simp -dsimp
  revert hF;refine abr.ns ?_ ?_<;>intro h1 q2 hF
  ·repeat first|refine cg ?_|simp -dsimp[h1,q2]
   revert hF;refine abr.sp ?_ ?_<;>intro h3 q4 hF
   ·cases hF
    repeat first|refine cg ?_|simp -dsimp[h1,q2,h3]
    all_goals(try first|omega|rfl)
   ·repeat first|refine cg ?_|simp -dsimp[h1,q2,h3,q4]
    have hF:=ob hF;obtain⟨v,e5,hF⟩:=hF
    refine((C.f142 B hB1 hB2 w t p v e5)).goW (by first|simp[h1,q2,h3,q4];done|simp_all) (by simp) ?_
    repeat first|refine cg ?_|simp -dsimp[h1,q2,h3,q4]
    revert hF;refine abr.ns (fun h6 q7 hF=> ?_) (fun h6 q7 hF=> ?_)
    ·cases hF
     repeat first|refine cg ?_|simp -dsimp[h1,q2,h3,q4,h6,q7]
     all_goals(try first|omega|rfl)
    ·repeat first|refine cg ?_|simp -dsimp[h1,q2,h3,q4,h6,q7]
     revert hF;refine abr.ns ?_ ?_<;>intro h8 q9 hF
     ·repeat first|refine cg ?_|simp -dsimp[h1,q2,h3,q4,h6,q7,h8,q9]
      revert hF;refine abr.sp ?_ ?_<;>intro h10 q11 hF
      ·repeat first|refine cg ?_|simp -dsimp[h1,q2,h3,q4,h6,q7,h8,q9,h10]
       have hF:=ob hF;obtain⟨o',ho36,hF⟩:=hF
       refine ALoop.goU _ ?_ ((ih_f155 p deep v (IntKind.i64.wrap (count+1)) [(⟨p.var,t⟩:VarType)] 0 o' ho36) _ rfl _ ?_)
       ·exact(Gh.to3 (by simp) (by first|simp -dsimp[h1,q2,h3,q4,h6,q7,h8,q9,h10];done|simp_all))
       rcases o' with r050|sx
       ·dsimp only at hF
        cases hF
        intro st h
        simpa using h
       ·dsimp only at hF
        repeat first|refine cg ?_|simp -dsimp
        have hF:=ob hF;obtain⟨o'48,ho47,hF⟩:=hF
        refine ALoop.goU _ ?_ (((CC.f151 B hB1 hB2 sx) (fun _=>false) 0 o'48 ho47) _ rfl _ ?_)
        ·exact(Gh.to3 (by simp) (by simp -dsimp))
        rcases o'48 with r0|sx49
        ·dsimp only at hF
         cases hF
         intro st h
         simpa using h
        ·dsimp only at hF
         cases hF
         repeat first|refine cg ?_|simp -dsimp
         all_goals(try first|omega|rfl)
      ·repeat first|refine cg ?_|simp -dsimp[h1,q2,h3,q4,h6,q7,h8,q9,h10,q11]
       have hF:=ob hF;obtain⟨o'80,ho79,hF⟩:=hF
       refine ALoop.goU ⟨[(0,.arr (List.map Vl.Data.c w)),(3,.lit (.int .i64 deep)),(4,.ptr 0 0),(7,.ptr 2 0),(12,.arr (List.map Ty.c v.1)),(14,.own 3 (List.length (α:=VarType) [])),(60,.arr (List.map Pattern.c p.kids)),(61,.lit (.int .i64 (p.kids.length:Int))),(62,.lit (.int .i64 0))],[.cells [.lit (.int .i64 (IntKind.i64.wrap (count+1)))],.dead,.cells [.lit (.int .i64 p.op),.lit (.int .i64 p.ctor),.lit (.int .i64 p.n),.lit (.int .i64 p.m),.lit (.int .i64 p.var),.arr (List.map Pattern.c p.kids)],.elems 3 (List.map VarType.c [])]⟩ (by refine Gh.trans (Gh.nil 14 3 (by simp -dsimp)) ?_;exact(Gh.to3 (by simp) (by first|simp -dsimp[h1,q2,h3,q4,h6,q7,h8,q9,h10,q11];done|simp_all))) ?_
       refine(ih_f156 p deep v (IntKind.i64.wrap (count+1)) [] 0 o'80 ho79) _ rfl _ ?_
       rcases o'80 with r097|sx81
       ·dsimp only at hF
        cases hF
        intro st h
        simpa using h
       ·dsimp only at hF
        repeat first|refine cg ?_|simp -dsimp
        have hF:=ob hF;obtain⟨o'94,ho93,hF⟩:=hF
        refine ALoop.goU _ ?_ (((CC.f152 B hB1 hB2 sx81) (fun _=>false) 0 o'94 ho93) _ rfl _ ?_)
        ·exact(Gh.to3 (by simp) (by simp -dsimp))
        rcases o'94 with r096|sx95
        ·dsimp only at hF
         cases hF
         intro st h
         simpa using h
        ·dsimp only at hF
         cases hF
         repeat first|refine cg ?_|simp -dsimp
         all_goals(try first|omega|rfl)
     ·repeat first|refine cg ?_|simp -dsimp[h1,q2,h3,q4,h6,q7,h8,q9]
      have hF:=ob hF;obtain⟨o'127,ho126,hF⟩:=hF
      refine ALoop.goU _ ?_ ((ih_f157 p deep v (IntKind.i64.wrap (count+1)) [(⟨p.var,t⟩:VarType)] 0 o'127 ho126) _ rfl _ ?_)
      ·exact(Gh.to3 (by simp) (by first|simp -dsimp[h1,q2,h3,q4,h6,q7,h8,q9];done|simp_all))
      rcases o'127 with r0144|sx128
      ·dsimp only at hF
       cases hF
       intro st h
       simpa using h
      ·dsimp only at hF
       repeat first|refine cg ?_|simp -dsimp
       have hF:=ob hF;obtain⟨o'141,ho140,hF⟩:=hF
       refine ALoop.goU _ ?_ (((CC.f153 B hB1 hB2 sx128) (fun _=>false) 0 o'141 ho140) _ rfl _ ?_)
       ·exact(Gh.to3 (by simp) (by simp -dsimp))
       rcases o'141 with r0143|sx142
       ·dsimp only at hF
        cases hF
        intro st h
        simpa using h
       ·dsimp only at hF
        cases hF
        repeat first|refine cg ?_|simp -dsimp
        all_goals(try first|omega|rfl)
  ·cases hF
   repeat first|refine cg ?_|simp -dsimp[h1,q2]
   all_goals(try first|omega|rfl)
 ·intro _f_f154 _f_f156 ih_f154 ih_f156 p deep v z51 vars52 i53 o hF
  intro c hc Q hq
  obtain rfl:c=_:=navEq hc rfl
  refine ALoopU.know fun hk hs=> ?_
  have b0:=hk 0
  simp -dsimp at b0
  have b12:=hk 12
  simp -dsimp at b12
  have b60:=hk 60
  simp -dsimp at b60
  have d2:=hs 2 _ rfl
  simp -dsimp[Blk.bnd]at d2
  have d3:=hs 3 _ rfl
  simp -dsimp[Blk.bnd]at d3
  clear hk hs
  refine ALoopU.enter ?_
  repeat first|refine cg ?_|simp -dsimp
  revert hF;refine abr.sp ?_ ?_<;>intro h54 q55 hF
  ·have z56:((i53:Int)<(p.kids.length:Int)):=auz
   have hF:=ob hF;obtain⟨x57,e58,hF⟩:=hF
   have le58:=lt_of_get e58
   repeat first|refine cg ?_|simp -dsimp[h54,z56,↓e58]
   refine ADraw.eff [141] [(0,0),(0,0),(0,0),(0,0),(0,0),(0,0),(0,0),(0,0),(0,0),(0,1),(1,1),(1,1),(1,1),(1,1),(1,1)] [1,1,1,1,1,1,1,1,1,1,1,1,1,1,1] follows (by kernel_rfl) (by kernel_rfl) (by kernel_rfl) ?_
   have hF:=ob hF;obtain⟨x59,e60,hF⟩:=hF
   have le60:=lt_of_get e60
   repeat first|refine cg ?_|simp -dsimp[h54,z56,↓e58,↓e60]
   have hF:=ob hF;obtain⟨v61,e62,hF⟩:=hF
   refine((ih_f154 x59 x57 (IntKind.i64.wrap (deep+1)) z51 v61 e62)).ego 0 rfl (by first|simp[h54,z56,↓e58,↓e60];done|simp_all) (by simp) (by first|simp[h54,z56,↓e58,↓e60];done|simp_all) ?_
   repeat first|refine cg ?_|simp -dsimp[h54,z56,↓e58,↓e60]
   revert hF;refine abr.ns (fun h63 q64 hF=> ?_) (fun h63 q64 hF=> ?_)
   ·cases hF
    repeat first|refine cg ?_|simp -dsimp[h54,z56,↓e58,↓e60,h63,q64]
    refine Leave.go _ (Gh.refl _) (hq _ ?_)
    repeat first|refine cg ?_|simp -dsimp[h54,z56,↓e58,↓e60,h63,q64]
   ·repeat first|refine cg ?_|simp -dsimp[h54,z56,↓e58,↓e60,h63,q64]
    revert hF;refine abr.sp ?_ ?_<;>intro h65 q66 hF
    ·repeat first|refine cg ?_|simp -dsimp[h54,z56,↓e58,↓e60,h63,q64,h65]
     revert hF;refine abr.sp ?_ ?_<;>intro h67 q68 hF
     ·have z69:((i53:Int)=1):=auz
      repeat first|refine cg ?_|simp -dsimp[h54,z56,↓e58,↓e60,h63,q64,h65,eq_true h67,eq_true z69]
      have hF:=ob hF;obtain⟨v70,e71,hF⟩:=hF
      refine((C.f150 B hB1 hB2 vars52 v61.1 v70 e71)).lend (by first|simp -dsimp[h54,z56,↓e58,↓e60,h63,q64,h65,eq_true h67,eq_true z69];done|simp_all) (by simp -dsimp) ?_
      repeat first|refine cg ?_|simp -dsimp[h54,z56,↓e58,↓e60,h63,q64,h65,eq_true h67,eq_true z69]
      revert hF;refine abr.ns (fun h72 q73 hF=> ?_) (fun h72 q73 hF=> ?_)
      ·cases hF
       repeat first|refine cg ?_|simp -dsimp[h54,z56,↓e58,↓e60,h63,q64,h65,eq_true h67,eq_true z69,h72,q73]
       refine Leave.go _ (Gh.refl _) (hq _ ?_)
       repeat first|refine cg ?_|simp -dsimp[h54,z56,↓e58,↓e60,h63,q64,h65,eq_true h67,eq_true z69,h72,q73]
      ·have w74:IntKind.i64.wrap ((i53:Int)+1)=(i53:Int)+1:=wrap_in (by omega) (by omega)
       repeat first|refine cg ?_|simp -dsimp[h54,z56,↓e58,↓e60,h63,q64,h65,eq_true h67,eq_true z69,h72,q73,w74]
       refine Again.go _ ?_ ((ih_f156 p deep v v61.2.2 vars52 (i53+1) o hF) _ rfl _ hq)
       exact(Gh.to3 (by simp) (by first|simp -dsimp[h54,z56,↓e58,↓e60,h63,q64,h65,eq_true h67,eq_true z69,h72,q73,w74];done|simp_all))
     ·have z69:¬((i53:Int)=1):=auz
      have hF:=oc hF;obtain⟨c75,hF⟩:=hF
      have w76:IntKind.i64.wrap ((i53:Int)+1)=(i53:Int)+1:=wrap_in (by omega) (by omega)
      repeat first|refine cg ?_|simp -dsimp[h54,z56,↓e58,↓e60,h63,q64,h65,h67,q68,z69,w76]
      refine Again.go _ ?_ ((ih_f156 p deep v v61.2.2 (vars52++v61.1) (i53+1) o hF) _ rfl _ hq)
      exact(Gh.to3 (by simp) (by first|simp -dsimp[h54,z56,↓e58,↓e60,h63,q64,h65,h67,q68,z69,w76];done|simp_all))
    ·have hF:=oc hF;obtain⟨c77,hF⟩:=hF
     have w78:IntKind.i64.wrap ((i53:Int)+1)=(i53:Int)+1:=wrap_in (by omega) (by omega)
     repeat first|refine cg ?_|simp -dsimp[h54,z56,↓e58,↓e60,h63,q64,h65,q66,w78]
     refine Again.go _ ?_ ((ih_f156 p deep v v61.2.2 (vars52++v61.1) (i53+1) o hF) _ rfl _ hq)
     exact(Gh.to3 (by simp) (by first|simp -dsimp[h54,z56,↓e58,↓e60,h63,q64,h65,q66,w78];done|simp_all))
  ·have z56:¬((i53:Int)<(p.kids.length:Int)):=auz
   cases hF
   repeat first|refine cg ?_|simp -dsimp[h54,q55,z56]
   refine Leave.go _ (Gh.to3 (by simp) (by first|simp -dsimp[h54,q55,z56];done|simp_all)) hq
 ·intro _f_f154 _f_f155 ih_f154 ih_f155 p deep v z vars i o hF
  intro c hc Q hq
  obtain rfl:c=_:=navEq hc rfl
  refine ALoopU.know fun hk hs=> ?_
  have b0:=hk 0
  simp -dsimp at b0
  have b12:=hk 12
  simp -dsimp at b12
  have b60:=hk 60
  simp -dsimp at b60
  have d2:=hs 2 _ rfl
  simp -dsimp[Blk.bnd]at d2
  have d4:=hs 4 _ rfl
  simp -dsimp[Blk.bnd]at d4
  clear hk hs
  refine ALoopU.enter ?_
  repeat first|refine cg ?_|simp -dsimp
  revert hF;refine abr.sp ?_ ?_<;>intro h12 q13 hF
  ·have z14:((i:Int)<(p.kids.length:Int)):=auz
   have hF:=ob hF;obtain⟨x,e15,hF⟩:=hF
   have le15:=lt_of_get e15
   repeat first|refine cg ?_|simp -dsimp[h12,z14,↓e15]
   refine ADraw.eff [141] [(0,0),(0,0),(0,0),(0,0),(0,0),(0,0),(0,0),(0,0),(0,0),(0,1),(1,1),(1,1),(1,1),(1,1),(1,1)] [1,1,1,1,1,1,1,1,1,1,1,1,1,1,1] follows (by kernel_rfl) (by kernel_rfl) (by kernel_rfl) ?_
   have hF:=ob hF;obtain⟨x16,e17,hF⟩:=hF
   have le17:=lt_of_get e17
   repeat first|refine cg ?_|simp -dsimp[h12,z14,↓e15,↓e17]
   have hF:=ob hF;obtain⟨v18,e19,hF⟩:=hF
   refine((ih_f154 x16 x (IntKind.i64.wrap (deep+1)) z v18 e19)).ego 0 rfl (by first|simp[h12,z14,↓e15,↓e17];done|simp_all) (by simp) (by first|simp[h12,z14,↓e15,↓e17];done|simp_all) ?_
   repeat first|refine cg ?_|simp -dsimp[h12,z14,↓e15,↓e17]
   revert hF;refine abr.ns (fun h20 q21 hF=> ?_) (fun h20 q21 hF=> ?_)
   ·cases hF
    repeat first|refine cg ?_|simp -dsimp[h12,z14,↓e15,↓e17,h20,q21]
    refine Leave.go _ (Gh.refl _) (hq _ ?_)
    repeat first|refine cg ?_|simp -dsimp[h12,z14,↓e15,↓e17,h20,q21]
   ·repeat first|refine cg ?_|simp -dsimp[h12,z14,↓e15,↓e17,h20,q21]
    revert hF;refine abr.sp ?_ ?_<;>intro h22 q23 hF
    ·repeat first|refine cg ?_|simp -dsimp[h12,z14,↓e15,↓e17,h20,q21,h22]
     revert hF;refine abr.sp ?_ ?_<;>intro h24 q25 hF
     ·have z26:((i:Int)=1):=auz
      repeat first|refine cg ?_|simp -dsimp[h12,z14,↓e15,↓e17,h20,q21,h22,eq_true h24,eq_true z26]
      have hF:=ob hF;obtain⟨v27,e28,hF⟩:=hF
      refine((C.f150 B hB1 hB2 vars v18.1 v27 e28)).lend (by first|simp -dsimp[h12,z14,↓e15,↓e17,h20,q21,h22,eq_true h24,eq_true z26];done|simp_all) (by simp -dsimp) ?_
      repeat first|refine cg ?_|simp -dsimp[h12,z14,↓e15,↓e17,h20,q21,h22,eq_true h24,eq_true z26]
      revert hF;refine abr.ns (fun h29 q30 hF=> ?_) (fun h29 q30 hF=> ?_)
      ·cases hF
       repeat first|refine cg ?_|simp -dsimp[h12,z14,↓e15,↓e17,h20,q21,h22,eq_true h24,eq_true z26,h29,q30]
       refine Leave.go _ (Gh.refl _) (hq _ ?_)
       repeat first|refine cg ?_|simp -dsimp[h12,z14,↓e15,↓e17,h20,q21,h22,eq_true h24,eq_true z26,h29,q30]
      ·have w31:IntKind.i64.wrap ((i:Int)+1)=(i:Int)+1:=wrap_in (by omega) (by omega)
       repeat first|refine cg ?_|simp -dsimp[h12,z14,↓e15,↓e17,h20,q21,h22,eq_true h24,eq_true z26,h29,q30,w31]
       refine Again.go _ ?_ ((ih_f155 p deep v v18.2.2 vars (i+1) o hF) _ rfl _ hq)
       exact(Gh.to3 (by simp) (by first|simp -dsimp[h12,z14,↓e15,↓e17,h20,q21,h22,eq_true h24,eq_true z26,h29,q30,w31];done|simp_all))
     ·have z26:¬((i:Int)=1):=auz
      have hF:=oc hF;obtain⟨c32,hF⟩:=hF
      have w33:IntKind.i64.wrap ((i:Int)+1)=(i:Int)+1:=wrap_in (by omega) (by omega)
      repeat first|refine cg ?_|simp -dsimp[h12,z14,↓e15,↓e17,h20,q21,h22,h24,q25,z26,w33]
      refine Again.go _ ?_ ((ih_f155 p deep v v18.2.2 (vars++v18.1) (i+1) o hF) _ rfl _ hq)
      exact(Gh.to3 (by simp) (by first|simp -dsimp[h12,z14,↓e15,↓e17,h20,q21,h22,h24,q25,z26,w33];done|simp_all))
    ·have hF:=oc hF;obtain⟨c34,hF⟩:=hF
     have w35:IntKind.i64.wrap ((i:Int)+1)=(i:Int)+1:=wrap_in (by omega) (by omega)
     repeat first|refine cg ?_|simp -dsimp[h12,z14,↓e15,↓e17,h20,q21,h22,q23,w35]
     refine Again.go _ ?_ ((ih_f155 p deep v v18.2.2 (vars++v18.1) (i+1) o hF) _ rfl _ hq)
     exact(Gh.to3 (by simp) (by first|simp -dsimp[h12,z14,↓e15,↓e17,h20,q21,h22,q23,w35];done|simp_all))
  ·have z14:¬((i:Int)<(p.kids.length:Int)):=auz
   cases hF
   repeat first|refine cg ?_|simp -dsimp[h12,q13,z14]
   refine Leave.go _ (Gh.to3 (by simp) (by first|simp -dsimp[h12,q13,z14];done|simp_all)) hq
 ·intro _f_f154 _f_f157 ih_f154 ih_f157 p deep v z98 vars99 i100 o hF
  intro c hc Q hq
  obtain rfl:c=_:=navEq hc rfl
  refine ALoopU.know fun hk hs=> ?_
  have b0:=hk 0
  simp -dsimp at b0
  have b12:=hk 12
  simp -dsimp at b12
  have b60:=hk 60
  simp -dsimp at b60
  have d2:=hs 2 _ rfl
  simp -dsimp[Blk.bnd]at d2
  have d4:=hs 4 _ rfl
  simp -dsimp[Blk.bnd]at d4
  clear hk hs
  refine ALoopU.enter ?_
  repeat first|refine cg ?_|simp -dsimp
  revert hF;refine abr.sp ?_ ?_<;>intro h101 q102 hF
  ·have z103:((i100:Int)<(p.kids.length:Int)):=auz
   have hF:=ob hF;obtain⟨x104,e105,hF⟩:=hF
   have le105:=lt_of_get e105
   repeat first|refine cg ?_|simp -dsimp[h101,z103,↓e105]
   refine ADraw.eff [141] [(0,0),(0,0),(0,0),(0,0),(0,0),(0,0),(0,0),(0,0),(0,0),(0,1),(1,1),(1,1),(1,1),(1,1),(1,1)] [1,1,1,1,1,1,1,1,1,1,1,1,1,1,1] follows (by kernel_rfl) (by kernel_rfl) (by kernel_rfl) ?_
   have hF:=ob hF;obtain⟨x106,e107,hF⟩:=hF
   have le107:=lt_of_get e107
   repeat first|refine cg ?_|simp -dsimp[h101,z103,↓e105,↓e107]
   have hF:=ob hF;obtain⟨v108,e109,hF⟩:=hF
   refine((ih_f154 x106 x104 (IntKind.i64.wrap (deep+1)) z98 v108 e109)).ego 0 rfl (by first|simp[h101,z103,↓e105,↓e107];done|simp_all) (by simp) (by first|simp[h101,z103,↓e105,↓e107];done|simp_all) ?_
   repeat first|refine cg ?_|simp -dsimp[h101,z103,↓e105,↓e107]
   revert hF;refine abr.ns (fun h110 q111 hF=> ?_) (fun h110 q111 hF=> ?_)
   ·cases hF
    repeat first|refine cg ?_|simp -dsimp[h101,z103,↓e105,↓e107,h110,q111]
    refine Leave.go _ (Gh.refl _) (hq _ ?_)
    repeat first|refine cg ?_|simp -dsimp[h101,z103,↓e105,↓e107,h110,q111]
   ·repeat first|refine cg ?_|simp -dsimp[h101,z103,↓e105,↓e107,h110,q111]
    revert hF;refine abr.sp ?_ ?_<;>intro h112 q113 hF
    ·repeat first|refine cg ?_|simp -dsimp[h101,z103,↓e105,↓e107,h110,q111,h112]
     revert hF;refine abr.sp ?_ ?_<;>intro h114 q115 hF
     ·have z116:((i100:Int)=1):=auz
      repeat first|refine cg ?_|simp -dsimp[h101,z103,↓e105,↓e107,h110,q111,h112,eq_true h114,eq_true z116]
      have hF:=ob hF;obtain⟨v117,e118,hF⟩:=hF
      refine((C.f150 B hB1 hB2 vars99 v108.1 v117 e118)).lend (by first|simp -dsimp[h101,z103,↓e105,↓e107,h110,q111,h112,eq_true h114,eq_true z116];done|simp_all) (by simp -dsimp) ?_
      repeat first|refine cg ?_|simp -dsimp[h101,z103,↓e105,↓e107,h110,q111,h112,eq_true h114,eq_true z116]
      revert hF;refine abr.ns (fun h119 q120 hF=> ?_) (fun h119 q120 hF=> ?_)
      ·cases hF
       repeat first|refine cg ?_|simp -dsimp[h101,z103,↓e105,↓e107,h110,q111,h112,eq_true h114,eq_true z116,h119,q120]
       refine Leave.go _ (Gh.refl _) (hq _ ?_)
       repeat first|refine cg ?_|simp -dsimp[h101,z103,↓e105,↓e107,h110,q111,h112,eq_true h114,eq_true z116,h119,q120]
      ·have w121:IntKind.i64.wrap ((i100:Int)+1)=(i100:Int)+1:=wrap_in (by omega) (by omega)
       repeat first|refine cg ?_|simp -dsimp[h101,z103,↓e105,↓e107,h110,q111,h112,eq_true h114,eq_true z116,h119,q120,w121]
       refine Again.go _ ?_ ((ih_f157 p deep v v108.2.2 vars99 (i100+1) o hF) _ rfl _ hq)
       exact(Gh.to3 (by simp) (by first|simp -dsimp[h101,z103,↓e105,↓e107,h110,q111,h112,eq_true h114,eq_true z116,h119,q120,w121];done|simp_all))
     ·have z116:¬((i100:Int)=1):=auz
      have hF:=oc hF;obtain⟨c122,hF⟩:=hF
      have w123:IntKind.i64.wrap ((i100:Int)+1)=(i100:Int)+1:=wrap_in (by omega) (by omega)
      repeat first|refine cg ?_|simp -dsimp[h101,z103,↓e105,↓e107,h110,q111,h112,h114,q115,z116,w123]
      refine Again.go _ ?_ ((ih_f157 p deep v v108.2.2 (vars99++v108.1) (i100+1) o hF) _ rfl _ hq)
      exact(Gh.to3 (by simp) (by first|simp -dsimp[h101,z103,↓e105,↓e107,h110,q111,h112,h114,q115,z116,w123];done|simp_all))
    ·have hF:=oc hF;obtain⟨c124,hF⟩:=hF
     have w125:IntKind.i64.wrap ((i100:Int)+1)=(i100:Int)+1:=wrap_in (by omega) (by omega)
     repeat first|refine cg ?_|simp -dsimp[h101,z103,↓e105,↓e107,h110,q111,h112,q113,w125]
     refine Again.go _ ?_ ((ih_f157 p deep v v108.2.2 (vars99++v108.1) (i100+1) o hF) _ rfl _ hq)
     exact(Gh.to3 (by simp) (by first|simp -dsimp[h101,z103,↓e105,↓e107,h110,q111,h112,q113,w125];done|simp_all))
  ·have z103:¬((i100:Int)<(p.kids.length:Int)):=auz
   cases hF
   repeat first|refine cg ?_|simp -dsimp[h101,q102,z103]
   refine Leave.go _ (Gh.to3 (by simp) (by first|simp -dsimp[h101,q102,z103];done|simp_all)) hq
theorem C.f158 (w:List Vl.Data)(t:Ty)(p:Pattern)(r:(List VarType)×Bool)(hF:F.f158 w t p=some r):PureCall Tryz.prog B 85 [.arr (List.map Vl.Data.c w),.agg [.lit (.int .i64 t.data),.lit (.int .i64 t.index)],.agg [.lit (.int .i64 p.op),.lit (.int .i64 p.ctor),.lit (.int .i64 p.n),.lit (.int .i64 p.m),.lit (.int .i64 p.var),.arr (List.map Pattern.c p.kids)]] (.tup [.arr (List.map VarType.c r.1),.lit (.bool r.2)]):=by
 unfold F.f158 at hF
 refine PureCall.enterLe Tryz.func85 (by kernel_rfl) rfl Tryz.ntmps85 (by simp) (by simp) ?_
 repeat first|refine cg ?_|simp -dsimp
 have hF:=ob hF;obtain⟨v,e1,hF⟩:=hF
 refine(((CC.f154 B hB1 hB2 w).1 t p 1 0 v e1)).go 2 rfl (by simp) (by simp) (by simp) ?_
 cases hF
 repeat first|refine cg ?_|simp -dsimp
 all_goals(try first|omega|rfl)
theorem C.f159 (g:Guard)(vars:List VarType)(r:Bool)(hF:F.f159 g vars=some r):PureCall Tryz.prog B 139 [.agg [.lit (.int .i64 g.op),.lit (.int .i64 g.var),.lit (.int .i64 g.n)],.arr (List.map VarType.c vars)] (.lit (.bool r)):=by
 unfold F.f159 at hF
 refine PureCall.enterLe Tryz.func139 (by kernel_rfl) rfl Tryz.ntmps139 (by simp) (by simp) ?_
 repeat first|refine cg ?_|simp -dsimp
 revert hF;refine abr.sp ?_ ?_<;>intro h1 q2 hF
 ·cases hF
  repeat first|refine cg ?_|simp -dsimp[h1]
  all_goals(try first|omega|rfl)
 ·repeat first|refine cg ?_|simp -dsimp[h1,q2]
  have hF:=ob hF;obtain⟨v,e3,hF⟩:=hF
  refine((C.f118 B hB1 hB2 g.op 1 2 v e3)).goW (by first|simp[h1,q2];done|simp_all) (by simp) ?_
  repeat first|refine cg ?_|simp -dsimp[h1,q2]
  revert hF;refine abr.sp (fun h4 q5 hF=> ?_) (fun h4 q5 hF=> ?_)
  ·repeat first|refine cg ?_|simp -dsimp[h1,q2,h4]
   have hF:=ob hF;obtain⟨v6,e7,hF⟩:=hF
   refine((C.f118 B hB1 hB2 g.n 0 9 v6 e7)).goW (by first|simp[h1,q2,h4];done|simp_all) (by simp) ?_
   repeat first|refine cg ?_|simp -dsimp[h1,q2,h4]
   revert hF;refine abr.sp (fun h8 q9 hF=> ?_) (fun h8 q9 hF=> ?_)
   ·repeat first|refine cg ?_|simp -dsimp[h1,q2,h4,h8]
    have hF:=ob hF;obtain⟨v10,e11,hF⟩:=hF
    refine((C.f145 B hB1 hB2 vars (⟨g.var,(⟨(-1),0⟩:Ty)⟩:VarType) v10 e11)).goW (by first|simp[h1,q2,h4,h8];done|simp_all) (by simp) ?_
    cases hF
    repeat first|refine cg ?_|simp -dsimp[h1,q2,h4,h8]
    all_goals(try first|omega|rfl)
   ·cases hF
    repeat first|refine cg ?_|simp -dsimp[h1,q2,h4,h8,q9]
    all_goals(try first|omega|rfl)
  ·cases hF
   repeat first|refine cg ?_|simp -dsimp[h1,q2,h4,q5]
   all_goals(try first|omega|rfl)
theorem C.f160 (w:List Vl.Data)(t:Ty)(c':Clause)(r:Bool)(hF:F.f160 w t c'=some r):PureCall Tryz.prog B 83 [.arr (List.map Vl.Data.c w),.agg [.lit (.int .i64 t.data),.lit (.int .i64 t.index)],.agg [.lit (.int .i64 c'.pat.op),.lit (.int .i64 c'.pat.ctor),.lit (.int .i64 c'.pat.n),.lit (.int .i64 c'.pat.m),.lit (.int .i64 c'.pat.var),.arr (List.map Pattern.c c'.pat.kids),.lit (.int .i64 c'.guard.op),.lit (.int .i64 c'.guard.var),.lit (.int .i64 c'.guard.n)]] (.lit (.bool r)):=by
 unfold F.f160 at hF
 refine PureCall.enterLe Tryz.func83 (by kernel_rfl) rfl Tryz.ntmps83 (by simp) (by simp) ?_
 repeat first|refine cg ?_|simp -dsimp
 have hF:=ob hF;obtain⟨v,e1,hF⟩:=hF
 refine((C.f158 B hB1 hB2 w t c'.pat v e1)).goW (by simp) (by simp) ?_
 repeat first|refine cg ?_|simp -dsimp
 revert hF;refine abr.sp (fun h2 q3 hF=> ?_) (fun h2 q3 hF=> ?_)
 ·repeat first|refine cg ?_|simp -dsimp[h2]
  have hF:=ob hF;obtain⟨v4,e5,hF⟩:=hF
  refine((C.f159 B hB1 hB2 c'.guard v.1 v4 e5)).goW (by first|simp[h2];done|simp_all) (by simp) ?_
  cases hF
  repeat first|refine cg ?_|simp -dsimp[h2]
  all_goals(try first|omega|rfl)
 ·cases hF
  repeat first|refine cg ?_|simp -dsimp[h2,q3]
  all_goals(try first|omega|rfl)
theorem C.f161 (w:List Vl.Data)(t:Ty)(c':Clause)(r:Bool)(hF:F.f161 w t c'=some r):PureCall Tryz.prog B 34 [.arr (List.map Vl.Data.c w),.agg [.lit (.int .i64 t.data),.lit (.int .i64 t.index)],.agg [.lit (.int .i64 c'.pat.op),.lit (.int .i64 c'.pat.ctor),.lit (.int .i64 c'.pat.n),.lit (.int .i64 c'.pat.m),.lit (.int .i64 c'.pat.var),.arr (List.map Pattern.c c'.pat.kids),.lit (.int .i64 c'.guard.op),.lit (.int .i64 c'.guard.var),.lit (.int .i64 c'.guard.n)]] (.lit (.bool r)):=by
 unfold F.f161 at hF
 refine PureCall.enterLe Tryz.func34 (by kernel_rfl) rfl Tryz.ntmps34 (by simp) (by simp) ?_
 repeat first|refine cg ?_|simp -dsimp
 have hF:=ob hF;obtain⟨v,e1,hF⟩:=hF
 refine((C.f131 B hB1 hB2 w t v e1)).goW (by simp) (by simp) ?_
 repeat first|refine cg ?_|simp -dsimp
 revert hF;refine abr.sp (fun h2 q3 hF=> ?_) (fun h2 q3 hF=> ?_)
 ·repeat first|refine cg ?_|simp -dsimp[h2]
  have hF:=ob hF;obtain⟨v4,e5,hF⟩:=hF
  refine((C.f160 B hB1 hB2 w t c' v4 e5)).goW (by first|simp[h2];done|simp_all) (by simp) ?_
  cases hF
  repeat first|refine cg ?_|simp -dsimp[h2]
  all_goals(try first|omega|rfl)
 ·cases hF
  repeat first|refine cg ?_|simp -dsimp[h2,q3]
  all_goals(try first|omega|rfl)
theorem CC.f162  :(∀(p:Pattern) (r:Pattern),F.f162 p=some r→PureCall Tryz.prog B 35 [.agg [.lit (.int .i64 p.op),.lit (.int .i64 p.ctor),.lit (.int .i64 p.n),.lit (.int .i64 p.m),.lit (.int .i64 p.var),.arr (List.map Pattern.c p.kids)]] (.agg [.lit (.int .i64 r.op),.lit (.int .i64 r.ctor),.lit (.int .i64 r.n),.lit (.int .i64 r.m),.lit (.int .i64 r.var),.arr (List.map Pattern.c r.kids)]))∧
  (∀(p:Pattern) (out:List Pattern) (i:Nat) (o:List Pattern),F.f163 p out i=some o→∀(c:Code),navO [1,1,1,0,1,0,0] (bodyOf Tryz.f35)=some c→∀(Q:Exit→ASt→Prop),(Q (.exit 0) ⟨[(1,.ptr 0 0),(2,.ptr 1 0)],[.cells [.lit (.int .i64 p.op),.lit (.int .i64 p.ctor),.lit (.int .i64 p.n),.lit (.int .i64 p.m),.lit (.int .i64 p.var),.own 2 (List.length (α:=Pattern) o)],.cells [.lit (.int .i64 0),.lit (.int .i64 0),.lit (.int .i64 0),.lit (.int .i64 0),.lit (.int .i64 0),.lit (.slice none 0 0)],.elems 6 (List.map Pattern.c o)]⟩)→ALoopU Tryz.prog B 0 24 (hold c .mk) ⟨[(1,.ptr 0 0),(2,.ptr 1 0),(9,.arr (List.map Pattern.c p.kids)),(10,.lit (.int .i64 (p.kids.length:Int))),(11,.lit (.int .i64 (i:Int)))],[.cells [.lit (.int .i64 p.op),.lit (.int .i64 p.ctor),.lit (.int .i64 p.n),.lit (.int .i64 p.m),.lit (.int .i64 p.var),.own 2 (List.length (α:=Pattern) out)],.cells [.lit (.int .i64 0),.lit (.int .i64 0),.lit (.int .i64 0),.lit (.int .i64 0),.lit (.int .i64 0),.lit (.slice none 0 0)],.elems 6 (List.map Pattern.c out)]⟩ (hold Q .mk)):=by
 refine F.f162.mutual_partial_correctness 
  _ _
  ?_ ?_
 ·intro _f_f163 ih_f163 p r hF
  refine PureCall.enterLe Tryz.func35 (by kernel_rfl) rfl Tryz.ntmps35 (by simp) (by simp) ?_
  repeat first|refine cg ?_|simp -dsimp
  have hF:=ob hF;obtain⟨o',ho8,hF⟩:=hF
  refine ALoop.goU ⟨[(1,.ptr 0 0),(2,.ptr 1 0),(9,.arr (List.map Pattern.c p.kids)),(10,.lit (.int .i64 (p.kids.length:Int))),(11,.lit (.int .i64 0))],[.cells [.lit (.int .i64 p.op),.lit (.int .i64 p.ctor),.lit (.int .i64 p.n),.lit (.int .i64 p.m),.lit (.int .i64 p.var),.own 2 (List.length (α:=Pattern) [])],.cells [.lit (.int .i64 0),.lit (.int .i64 0),.lit (.int .i64 0),.lit (.int .i64 0),.lit (.int .i64 0),.lit (.slice none 0 0)],.elems 6 (List.map Pattern.c [])]⟩ (by refine Gh.trans (Gh.nilCell 0 5 6 (by simp -dsimp;rfl) (by simp -dsimp)) ?_;exact(Gh.to3 (by simp) (by simp -dsimp))) ?_
  refine(ih_f163 p [] 0 o' ho8) _ rfl _ ?_
  cases hF
  repeat first|refine cg ?_|simp -dsimp
  all_goals(try first|omega|rfl)
 ·intro _f_f162 _f_f163 ih_f162 ih_f163 p out i o hF
  intro c hc Q hq
  obtain rfl:c=_:=navEq hc rfl
  refine ALoopU.know fun hk hs=> ?_
  have b9:=hk 9
  simp -dsimp at b9
  have d2:=hs 2 _ rfl
  simp -dsimp[Blk.bnd]at d2
  clear hk hs
  refine ALoopU.enter ?_
  repeat first|refine cg ?_|simp -dsimp
  revert hF;refine abr.sp ?_ ?_<;>intro h1 q2 hF
  ·have z3:((i:Int)<(p.kids.length:Int)):=auz
   have hF:=ob hF;obtain⟨x,e4,hF⟩:=hF
   have le4:=lt_of_get e4
   repeat first|refine cg ?_|simp -dsimp[h1,z3,↓e4]
   refine ADraw.eff [] [(0,1),(0,1),(0,0),(0,3),(0,3),(0,3),(2,2),(0,3)] [0,2,1,1,1,1,1,1] follows (by kernel_rfl) (by kernel_rfl) (by kernel_rfl) ?_
   repeat first|refine cg ?_|simp -dsimp[h1,z3,↓e4]
   have hF:=ob hF;obtain⟨v,e5,hF⟩:=hF
   refine((ih_f162 x v e5)).pgoW (by first|simp[h1,z3,↓e4];done|simp_all) (by simp) ?_
   have hF:=oc hF;obtain⟨c6,hF⟩:=hF
   have w7:IntKind.i64.wrap ((i:Int)+1)=(i:Int)+1:=wrap_in (by omega) (by omega)
   repeat first|refine cg ?_|simp -dsimp[h1,z3,↓e4,w7]
   refine Again.go _ ?_ ((ih_f163 p (out++[v]) (i+1) o hF) _ rfl _ hq)
   exact(Gh.to3 (by simp) (by first|simp -dsimp[h1,z3,↓e4,w7];done|simp_all))
  ·have z3:¬((i:Int)<(p.kids.length:Int)):=auz
   cases hF
   repeat first|refine cg ?_|simp -dsimp[h1,q2,z3]
   refine Leave.go _ (Gh.to3 (by simp) (by first|simp -dsimp[h1,q2,z3];done|simp_all)) hq
end Go.Proofs.YtkgcopogpmckdaaGreat
