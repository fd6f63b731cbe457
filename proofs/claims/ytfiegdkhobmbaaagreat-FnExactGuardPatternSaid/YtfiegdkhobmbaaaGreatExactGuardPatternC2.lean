/- The contracts: the code computes the functions (printed by gen.py). -/
import Derived.Test.YtfiegdkhobmbaaaGreatProg
import Derived.Test.YtfiegdkhobmbaaaGreatExactGuardPatternF
import Derived.Test.YtfiegdkhobmbaaaGreatExactGuardPatternC1
namespace Go.Proofs.YtfiegdkhobmbaaaGreat
open Go Go.Proofs Go.Vl
set_option linter.unusedSimpArgs false
set_option linter.unusedVariables false
set_option linter.unusedSectionVars false
set_option maxRecDepth 100000
set_option maxHeartbeats 4000000
attribute [local irreducible] ECallA NCallA aL aLg AMake MLoop AgainM LeaveM awpM aopsM MutCall BCall chk abr ACall ALoop ALoopU ADraw Again Leave PCallA PCall Post awp aops PureCall hold
variable (B : Nat) (hB1 : 67108864 ≤ B) (hB2 : B ≤ 9223372036854775807)
include hB1 hB2
theorem CC.f84 (v:Int)(n:Int)(m:Int):(∀(p:Vl.Pattern) (r:Vl.Pattern×Bool),F.f84 p v n m=some r→PureCall Tryz.prog B 114 [.agg [.lit (.int .i64 p.op),.lit (.int .i64 p.ctor),.lit (.int .i64 p.n),.lit (.int .i64 p.m),.lit (.int .i64 p.var),.arr (List.map Vl.Pattern.c p.kids)],.lit (.int .i64 v),.lit (.int .i64 n),.lit (.int .i64 m)] (.tup [.agg [.lit (.int .i64 r.1.op),.lit (.int .i64 r.1.ctor),.lit (.int .i64 r.1.n),.lit (.int .i64 r.1.m),.lit (.int .i64 r.1.var),.arr (List.map Vl.Pattern.c r.1.kids)],.lit (.bool r.2)]))∧
  (∀(p:Vl.Pattern) (out20:List Vl.Pattern) (i21:Nat) (o:Lo (Vl.Pattern×Bool) (List Vl.Pattern)),F.f86 p v n m out20 i21=some o→∀(c:Code),navO [1,1,1,1,0,1,0,0] (bodyOf Tryz.f114)=some c→∀(Q:Exit→ASt→Prop),o.post (fun r=>∀st,Post Tryz.prog Tryz.f114 (fun r' _=>r'.le (.tup [.agg [.lit (.int .i64 r.1.op),.lit (.int .i64 r.1.ctor),.lit (.int .i64 r.1.n),.lit (.int .i64 r.1.m),.lit (.int .i64 r.1.var),.arr (List.map Vl.Pattern.c r.1.kids)],.lit (.bool r.2)])) .ret st→Q .ret st) (fun s=>Q (.exit 0) ⟨[(8,.ptr 1 0),(10,.ptr 2 0)],[.dead,.cells [.lit (.int .i64 0),.lit (.int .i64 0),.lit (.int .i64 0),.lit (.int .i64 0),.lit (.int .i64 0),.lit (.slice none 0 0)],.cells [.lit (.int .i64 p.op),.lit (.int .i64 p.ctor),.lit (.int .i64 p.n),.lit (.int .i64 p.m),.lit (.int .i64 p.var),.own 3 (List.length (α:=Vl.Pattern) s)],.elems 6 (List.map Vl.Pattern.c s)]⟩)→ALoopU Tryz.prog B 0 65 (hold c .mk) ⟨[(1,.lit (.int .i64 v)),(2,.lit (.int .i64 n)),(3,.lit (.int .i64 m)),(4,.ptr 0 0),(8,.ptr 1 0),(10,.ptr 2 0),(11,.lit (.int .i64 (i21:Int)))],[.cells [.lit (.int .i64 p.op),.lit (.int .i64 p.ctor),.lit (.int .i64 p.n),.lit (.int .i64 p.m),.lit (.int .i64 p.var),.arr (List.map Vl.Pattern.c p.kids)],.cells [.lit (.int .i64 0),.lit (.int .i64 0),.lit (.int .i64 0),.lit (.int .i64 0),.lit (.int .i64 0),.lit (.slice none 0 0)],.cells [.lit (.int .i64 p.op),.lit (.int .i64 p.ctor),.lit (.int .i64 p.n),.lit (.int .i64 p.m),.lit (.int .i64 p.var),.own 3 (List.length (α:=Vl.Pattern) out20)],.elems 6 (List.map Vl.Pattern.c out20)]⟩ (hold Q .mk))∧
  (∀(p:Vl.Pattern) (out:List Vl.Pattern) (i:Nat) (o:Lo (Vl.Pattern×Bool) (List Vl.Pattern)),F.f85 p v n m out i=some o→∀(c:Code),navO [1,1,1,1,0,1,0,0] (bodyOf Tryz.f114)=some c→∀(Q:Exit→ASt→Prop),o.post (fun r=>∀st,Post Tryz.prog Tryz.f114 (fun r' _=>r'.le (.tup [.agg [.lit (.int .i64 r.1.op),.lit (.int .i64 r.1.ctor),.lit (.int .i64 r.1.n),.lit (.int .i64 r.1.m),.lit (.int .i64 r.1.var),.arr (List.map Vl.Pattern.c r.1.kids)],.lit (.bool r.2)])) .ret st→Q .ret st) (fun s=>Q (.exit 0) ⟨[(8,.ptr 1 0),(10,.ptr 2 0)],[.dead,.cells [.lit (.int .i64 0),.lit (.int .i64 0),.lit (.int .i64 0),.lit (.int .i64 0),.lit (.int .i64 0),.lit (.slice none 0 0)],.cells [.lit (.int .i64 p.op),.lit (.int .i64 p.ctor),.lit (.int .i64 p.n),.lit (.int .i64 p.m),.lit (.int .i64 p.var),.own 3 (List.length (α:=Vl.Pattern) s)],.elems 6 (List.map Vl.Pattern.c s)]⟩)→ALoopU Tryz.prog B 0 65 (hold c .mk) ⟨[(1,.lit (.int .i64 v)),(2,.lit (.int .i64 n)),(3,.lit (.int .i64 m)),(4,.ptr 0 0),(8,.ptr 1 0),(10,.ptr 2 0),(11,.lit (.int .i64 (i:Int)))],[.cells [.lit (.int .i64 p.op),.lit (.int .i64 p.ctor),.lit (.int .i64 p.n),.lit (.int .i64 p.m),.lit (.int .i64 p.var),.arr (List.map Vl.Pattern.c p.kids)],.cells [.lit (.int .i64 0),.lit (.int .i64 0),.lit (.int .i64 0),.lit (.int .i64 0),.lit (.int .i64 0),.lit (.slice none 0 0)],.cells [.lit (.int .i64 p.op),.lit (.int .i64 p.ctor),.lit (.int .i64 p.n),.lit (.int .i64 p.m),.lit (.int .i64 p.var),.own 3 (List.length (α:=Vl.Pattern) out)],.elems 6 (List.map Vl.Pattern.c out)]⟩ (hold Q .mk))∧
  (∀(p:Vl.Pattern) (out41:List Vl.Pattern) (i42:Nat) (o:Lo (Vl.Pattern×Bool) (List Vl.Pattern)),F.f87 p v n m out41 i42=some o→∀(c:Code),navO [1,1,1,1,0,1,0,0] (bodyOf Tryz.f114)=some c→∀(Q:Exit→ASt→Prop),o.post (fun r=>∀st,Post Tryz.prog Tryz.f114 (fun r' _=>r'.le (.tup [.agg [.lit (.int .i64 r.1.op),.lit (.int .i64 r.1.ctor),.lit (.int .i64 r.1.n),.lit (.int .i64 r.1.m),.lit (.int .i64 r.1.var),.arr (List.map Vl.Pattern.c r.1.kids)],.lit (.bool r.2)])) .ret st→Q .ret st) (fun s=>Q (.exit 0) ⟨[(8,.ptr 1 0),(10,.ptr 2 0)],[.dead,.cells [.lit (.int .i64 0),.lit (.int .i64 0),.lit (.int .i64 0),.lit (.int .i64 0),.lit (.int .i64 0),.lit (.slice none 0 0)],.cells [.lit (.int .i64 p.op),.lit (.int .i64 p.ctor),.lit (.int .i64 p.n),.lit (.int .i64 p.m),.lit (.int .i64 p.var),.own 3 (List.length (α:=Vl.Pattern) s)],.elems 6 (List.map Vl.Pattern.c s)]⟩)→ALoopU Tryz.prog B 0 65 (hold c .mk) ⟨[(1,.lit (.int .i64 v)),(2,.lit (.int .i64 n)),(3,.lit (.int .i64 m)),(4,.ptr 0 0),(8,.ptr 1 0),(10,.ptr 2 0),(11,.lit (.int .i64 (i42:Int)))],[.cells [.lit (.int .i64 p.op),.lit (.int .i64 p.ctor),.lit (.int .i64 p.n),.lit (.int .i64 p.m),.lit (.int .i64 p.var),.arr (List.map Vl.Pattern.c p.kids)],.cells [.lit (.int .i64 0),.lit (.int .i64 0),.lit (.int .i64 0),.lit (.int .i64 0),.lit (.int .i64 0),.lit (.slice none 0 0)],.cells [.lit (.int .i64 p.op),.lit (.int .i64 p.ctor),.lit (.int .i64 p.n),.lit (.int .i64 p.m),.lit (.int .i64 p.var),.own 3 (List.length (α:=Vl.Pattern) out41)],.elems 6 (List.map Vl.Pattern.c out41)]⟩ (hold Q .mk)):=by
 refine F.f84.mutual_partial_correctness v n m
  _ _ _ _
  ?_ ?_ ?_ ?_
 ·intro _f_f86 _f_f85 _f_f87 ih_f86 ih_f85 ih_f87 p r hF
  refine PureCall.enterLe Tryz.func114 (by kernel_rfl) rfl Tryz.ntmps114 (by simp) (by simp) ?_
  repeat(first|refine chk.ga ?_|simp -dsimp)
  refine abr.split (fun h1=> ?_) (fun h1=> ?_)
  ·have q2:¬(p.op=2):=auq h1
   rw[if_neg q2]at hF
   repeat(first|refine chk.ga ?_|simp -dsimp[h1,q2])
   refine abr.split (fun h3=> ?_) (fun h3=> ?_)
   ·have q4:(p.op=6):=auq h3
    rw[if_pos q4]at hF
    repeat(first|refine chk.ga ?_|simp -dsimp[h1,q2,h3])
    refine abr.split (fun h5=> ?_) (fun h5=> ?_)
    ·have q6:(p.var=v):=auq h5
     rw[if_pos q6]at hF
     repeat(first|refine chk.ga ?_|simp -dsimp[h1,q2,h3,h5])
     have hF:=ob hF;obtain⟨v7,e8,hF⟩:=hF
     refine(((CC.f83 B hB1 hB2 n m) p v7 e8)).goW (by first|simp[h1,q2,h3,h5];done|simp_all) (by simp) ?_
     cases hF
     repeat(first|refine chk.ga ?_|simp -dsimp[h1,q2,h3,h5])
     all_goals(try first|omega|rfl)
    ·have q6:¬(p.var=v):=auq h5
     rw[if_neg q6]at hF
     repeat(first|refine chk.ga ?_|simp -dsimp[h1,q2,h3,h5,q6])
     have hF:=ob hF;obtain⟨o',ho19,hF⟩:=hF
     refine ALoop.goU ⟨[(1,.lit (.int .i64 v)),(2,.lit (.int .i64 n)),(3,.lit (.int .i64 m)),(4,.ptr 0 0),(8,.ptr 1 0),(10,.ptr 2 0),(11,.lit (.int .i64 (0:Int)))],[.cells [.lit (.int .i64 p.op),.lit (.int .i64 p.ctor),.lit (.int .i64 p.n),.lit (.int .i64 p.m),.lit (.int .i64 p.var),.arr (List.map Vl.Pattern.c p.kids)],.cells [.lit (.int .i64 0),.lit (.int .i64 0),.lit (.int .i64 0),.lit (.int .i64 0),.lit (.int .i64 0),.lit (.slice none 0 0)],.cells [.lit (.int .i64 p.op),.lit (.int .i64 p.ctor),.lit (.int .i64 p.n),.lit (.int .i64 p.m),.lit (.int .i64 p.var),.own 3 (List.length (α:=Vl.Pattern) [])],.elems 6 (List.map Vl.Pattern.c [])]⟩ (by refine Gh.trans (Gh.nilCell 2 5 6 (by simp -dsimp;rfl) (by simp -dsimp)) ?_;exact(Gh.to3 (by simp) (by first|simp -dsimp[h1,q2,h3,h5,q6];done|simp_all))) ?_
     refine(ih_f85 p [] 0 o' ho19) _ rfl _ ?_
     rcases o' with r0|sx
     ·dsimp only at hF
      cases hF
      intro st h
      simpa using h
     ·dsimp only at hF
      cases hF
      repeat(first|refine chk.ga ?_|simp -dsimp)
      all_goals(try first|omega|rfl)
   ·have q4:¬(p.op=6):=auq h3
    rw[if_neg q4]at hF
    repeat(first|refine chk.ga ?_|simp -dsimp[h1,q2,h3,q4])
    have hF:=ob hF;obtain⟨o'34,ho33,hF⟩:=hF
    refine ALoop.goU ⟨[(1,.lit (.int .i64 v)),(2,.lit (.int .i64 n)),(3,.lit (.int .i64 m)),(4,.ptr 0 0),(8,.ptr 1 0),(10,.ptr 2 0),(11,.lit (.int .i64 (0:Int)))],[.cells [.lit (.int .i64 p.op),.lit (.int .i64 p.ctor),.lit (.int .i64 p.n),.lit (.int .i64 p.m),.lit (.int .i64 p.var),.arr (List.map Vl.Pattern.c p.kids)],.cells [.lit (.int .i64 0),.lit (.int .i64 0),.lit (.int .i64 0),.lit (.int .i64 0),.lit (.int .i64 0),.lit (.slice none 0 0)],.cells [.lit (.int .i64 p.op),.lit (.int .i64 p.ctor),.lit (.int .i64 p.n),.lit (.int .i64 p.m),.lit (.int .i64 p.var),.own 3 (List.length (α:=Vl.Pattern) [])],.elems 6 (List.map Vl.Pattern.c [])]⟩ (by refine Gh.trans (Gh.nilCell 2 5 6 (by simp -dsimp;rfl) (by simp -dsimp)) ?_;exact(Gh.to3 (by simp) (by first|simp -dsimp[h1,q2,h3,q4];done|simp_all))) ?_
    refine(ih_f86 p [] 0 o'34 ho33) _ rfl _ ?_
    rcases o'34 with r036|sx35
    ·dsimp only at hF
     cases hF
     intro st h
     simpa using h
    ·dsimp only at hF
     cases hF
     repeat(first|refine chk.ga ?_|simp -dsimp)
     all_goals(try first|omega|rfl)
  ·have q2:(p.op=2):=auq h1
   rw[if_pos q2]at hF
   repeat(first|refine chk.ga ?_|simp -dsimp[h1,q2])
   refine abr.split (fun h37=> ?_) (fun h37=> ?_)
   ·have q38:(p.var=v):=auq h37
    rw[if_pos q38]at hF
    repeat(first|refine chk.ga ?_|simp -dsimp[h1,q2,h37])
    have hF:=ob hF;obtain⟨v39,e40,hF⟩:=hF
    refine(((CC.f83 B hB1 hB2 n m) p v39 e40)).goW (by first|simp[h1,q2,h37];done|simp_all) (by simp) ?_
    cases hF
    repeat(first|refine chk.ga ?_|simp -dsimp[h1,q2,h37])
    all_goals(try first|omega|rfl)
   ·have q38:¬(p.var=v):=auq h37
    rw[if_neg q38]at hF
    repeat(first|refine chk.ga ?_|simp -dsimp[h1,q2,h37,q38])
    have hF:=ob hF;obtain⟨o'55,ho54,hF⟩:=hF
    refine ALoop.goU ⟨[(1,.lit (.int .i64 v)),(2,.lit (.int .i64 n)),(3,.lit (.int .i64 m)),(4,.ptr 0 0),(8,.ptr 1 0),(10,.ptr 2 0),(11,.lit (.int .i64 (0:Int)))],[.cells [.lit (.int .i64 p.op),.lit (.int .i64 p.ctor),.lit (.int .i64 p.n),.lit (.int .i64 p.m),.lit (.int .i64 p.var),.arr (List.map Vl.Pattern.c p.kids)],.cells [.lit (.int .i64 0),.lit (.int .i64 0),.lit (.int .i64 0),.lit (.int .i64 0),.lit (.int .i64 0),.lit (.slice none 0 0)],.cells [.lit (.int .i64 p.op),.lit (.int .i64 p.ctor),.lit (.int .i64 p.n),.lit (.int .i64 p.m),.lit (.int .i64 p.var),.own 3 (List.length (α:=Vl.Pattern) [])],.elems 6 (List.map Vl.Pattern.c [])]⟩ (by refine Gh.trans (Gh.nilCell 2 5 6 (by simp -dsimp;rfl) (by simp -dsimp)) ?_;exact(Gh.to3 (by simp) (by first|simp -dsimp[h1,q2,h37,q38];done|simp_all))) ?_
    refine(ih_f87 p [] 0 o'55 ho54) _ rfl _ ?_
    rcases o'55 with r057|sx56
    ·dsimp only at hF
     cases hF
     intro st h
     simpa using h
    ·dsimp only at hF
     cases hF
     repeat(first|refine chk.ga ?_|simp -dsimp)
     all_goals(try first|omega|rfl)
 ·intro _f_f84 _f_f86 ih_f84 ih_f86 p out20 i21 o hF
  intro c hc Q hq
  obtain rfl:c=_:=navEq hc rfl
  refine ALoopU.know fun hk hs=> ?_
  have d0:=hs 0 _ rfl
  simp -dsimp[Blk.bnd]at d0
  have d3:=hs 3 _ rfl
  simp -dsimp[Blk.bnd]at d3
  clear hk hs
  refine ALoopU.enter ?_
  repeat(first|refine chk.ga ?_|simp -dsimp)
  refine abr.split (fun h22=> ?_) (fun h22=> ?_)
  ·have q23:(i21<p.kids.length):=auq h22
   have z24:((i21:Int)<(p.kids.length:Int)):=auz
   rw[if_pos q23]at hF
   have hF:=ob hF;obtain⟨x25,e26,hF⟩:=hF
   have le26:=lt_of_get e26
   repeat(first|refine chk.ga ?_|simp -dsimp[h22,z24,↓e26])
   have hF:=ob hF;obtain⟨v27,e28,hF⟩:=hF
   refine((ih_f84 x25 v27 e28)).goW (by first|simp[h22,z24,↓e26];done|simp_all) (by simp) ?_
   repeat(first|refine chk.ga ?_|simp -dsimp[h22,z24,↓e26])
   refine abr.split (fun h29=> ?_) (fun h29=> ?_)
   ·have q30:¬(v27.2=true):=auq h29
    rw[if_neg q30]at hF
    cases hF
    repeat(first|refine chk.ga ?_|simp -dsimp[h22,z24,↓e26,h29,q30])
    refine Leave.go _ (Gh.refl _) (hq _ ?_)
    repeat(first|refine chk.ga ?_|simp -dsimp[h22,z24,↓e26,h29,q30])
   ·have q30:(v27.2=true):=auq h29
    rw[if_pos q30]at hF
    have hF:=oc hF;obtain⟨c31,hF⟩:=hF
    have w32:IntKind.i64.wrap ((i21:Int)+1)=(i21:Int)+1:=wrap_in (by omega) (by omega)
    repeat(first|refine chk.ga ?_|simp -dsimp[h22,z24,↓e26,h29,q30,w32])
    refine Again.go _ ?_ ((ih_f86 p (out20++[v27.1]) (i21+1) o hF) _ rfl _ hq)
    exact(Gh.to3 (by simp) (by first|simp -dsimp[h22,z24,↓e26,h29,q30,w32];done|simp_all))
  ·have q23:¬(i21<p.kids.length):=auq h22
   have z24:¬((i21:Int)<(p.kids.length:Int)):=auz
   rw[if_neg q23]at hF
   cases hF
   repeat(first|refine chk.ga ?_|simp -dsimp[h22,q23,z24])
   refine Leave.go ⟨[(8,.ptr 1 0),(10,.ptr 2 0)],[.dead,.cells [.lit (.int .i64 0),.lit (.int .i64 0),.lit (.int .i64 0),.lit (.int .i64 0),.lit (.int .i64 0),.lit (.slice none 0 0)],.cells [.lit (.int .i64 p.op),.lit (.int .i64 p.ctor),.lit (.int .i64 p.n),.lit (.int .i64 p.m),.lit (.int .i64 p.var),.own 3 (List.length (α:=Vl.Pattern) out20)],.elems 6 (List.map Vl.Pattern.c out20)]⟩ (Gh.to3 (by simp) (by first|simp -dsimp[h22,q23,z24];done|simp_all)) ?_
   exact hq
 ·intro _f_f84 _f_f85 ih_f84 ih_f85 p out i o hF
  intro c hc Q hq
  obtain rfl:c=_:=navEq hc rfl
  refine ALoopU.know fun hk hs=> ?_
  have d0:=hs 0 _ rfl
  simp -dsimp[Blk.bnd]at d0
  have d3:=hs 3 _ rfl
  simp -dsimp[Blk.bnd]at d3
  clear hk hs
  refine ALoopU.enter ?_
  repeat(first|refine chk.ga ?_|simp -dsimp)
  refine abr.split (fun h9=> ?_) (fun h9=> ?_)
  ·have q10:(i<p.kids.length):=auq h9
   have z11:((i:Int)<(p.kids.length:Int)):=auz
   rw[if_pos q10]at hF
   have hF:=ob hF;obtain⟨x,e12,hF⟩:=hF
   have le12:=lt_of_get e12
   repeat(first|refine chk.ga ?_|simp -dsimp[h9,z11,↓e12])
   have hF:=ob hF;obtain⟨v13,e14,hF⟩:=hF
   refine((ih_f84 x v13 e14)).goW (by first|simp[h9,z11,↓e12];done|simp_all) (by simp) ?_
   repeat(first|refine chk.ga ?_|simp -dsimp[h9,z11,↓e12])
   refine abr.split (fun h15=> ?_) (fun h15=> ?_)
   ·have q16:¬(v13.2=true):=auq h15
    rw[if_neg q16]at hF
    cases hF
    repeat(first|refine chk.ga ?_|simp -dsimp[h9,z11,↓e12,h15,q16])
    refine Leave.go _ (Gh.refl _) (hq _ ?_)
    repeat(first|refine chk.ga ?_|simp -dsimp[h9,z11,↓e12,h15,q16])
   ·have q16:(v13.2=true):=auq h15
    rw[if_pos q16]at hF
    have hF:=oc hF;obtain⟨c17,hF⟩:=hF
    have w18:IntKind.i64.wrap ((i:Int)+1)=(i:Int)+1:=wrap_in (by omega) (by omega)
    repeat(first|refine chk.ga ?_|simp -dsimp[h9,z11,↓e12,h15,q16,w18])
    refine Again.go _ ?_ ((ih_f85 p (out++[v13.1]) (i+1) o hF) _ rfl _ hq)
    exact(Gh.to3 (by simp) (by first|simp -dsimp[h9,z11,↓e12,h15,q16,w18];done|simp_all))
  ·have q10:¬(i<p.kids.length):=auq h9
   have z11:¬((i:Int)<(p.kids.length:Int)):=auz
   rw[if_neg q10]at hF
   cases hF
   repeat(first|refine chk.ga ?_|simp -dsimp[h9,q10,z11])
   refine Leave.go ⟨[(8,.ptr 1 0),(10,.ptr 2 0)],[.dead,.cells [.lit (.int .i64 0),.lit (.int .i64 0),.lit (.int .i64 0),.lit (.int .i64 0),.lit (.int .i64 0),.lit (.slice none 0 0)],.cells [.lit (.int .i64 p.op),.lit (.int .i64 p.ctor),.lit (.int .i64 p.n),.lit (.int .i64 p.m),.lit (.int .i64 p.var),.own 3 (List.length (α:=Vl.Pattern) out)],.elems 6 (List.map Vl.Pattern.c out)]⟩ (Gh.to3 (by simp) (by first|simp -dsimp[h9,q10,z11];done|simp_all)) ?_
   exact hq
 ·intro _f_f84 _f_f87 ih_f84 ih_f87 p out41 i42 o hF
  intro c hc Q hq
  obtain rfl:c=_:=navEq hc rfl
  refine ALoopU.know fun hk hs=> ?_
  have d0:=hs 0 _ rfl
  simp -dsimp[Blk.bnd]at d0
  have d3:=hs 3 _ rfl
  simp -dsimp[Blk.bnd]at d3
  clear hk hs
  refine ALoopU.enter ?_
  repeat(first|refine chk.ga ?_|simp -dsimp)
  refine abr.split (fun h43=> ?_) (fun h43=> ?_)
  ·have q44:(i42<p.kids.length):=auq h43
   have z45:((i42:Int)<(p.kids.length:Int)):=auz
   rw[if_pos q44]at hF
   have hF:=ob hF;obtain⟨x46,e47,hF⟩:=hF
   have le47:=lt_of_get e47
   repeat(first|refine chk.ga ?_|simp -dsimp[h43,z45,↓e47])
   have hF:=ob hF;obtain⟨v48,e49,hF⟩:=hF
   refine((ih_f84 x46 v48 e49)).goW (by first|simp[h43,z45,↓e47];done|simp_all) (by simp) ?_
   repeat(first|refine chk.ga ?_|simp -dsimp[h43,z45,↓e47])
   refine abr.split (fun h50=> ?_) (fun h50=> ?_)
   ·have q51:¬(v48.2=true):=auq h50
    rw[if_neg q51]at hF
    cases hF
    repeat(first|refine chk.ga ?_|simp -dsimp[h43,z45,↓e47,h50,q51])
    refine Leave.go _ (Gh.refl _) (hq _ ?_)
    repeat(first|refine chk.ga ?_|simp -dsimp[h43,z45,↓e47,h50,q51])
   ·have q51:(v48.2=true):=auq h50
    rw[if_pos q51]at hF
    have hF:=oc hF;obtain⟨c52,hF⟩:=hF
    have w53:IntKind.i64.wrap ((i42:Int)+1)=(i42:Int)+1:=wrap_in (by omega) (by omega)
    repeat(first|refine chk.ga ?_|simp -dsimp[h43,z45,↓e47,h50,q51,w53])
    refine Again.go _ ?_ ((ih_f87 p (out41++[v48.1]) (i42+1) o hF) _ rfl _ hq)
    exact(Gh.to3 (by simp) (by first|simp -dsimp[h43,z45,↓e47,h50,q51,w53];done|simp_all))
  ·have q44:¬(i42<p.kids.length):=auq h43
   have z45:¬((i42:Int)<(p.kids.length:Int)):=auz
   rw[if_neg q44]at hF
   cases hF
   repeat(first|refine chk.ga ?_|simp -dsimp[h43,q44,z45])
   refine Leave.go ⟨[(8,.ptr 1 0),(10,.ptr 2 0)],[.dead,.cells [.lit (.int .i64 0),.lit (.int .i64 0),.lit (.int .i64 0),.lit (.int .i64 0),.lit (.int .i64 0),.lit (.slice none 0 0)],.cells [.lit (.int .i64 p.op),.lit (.int .i64 p.ctor),.lit (.int .i64 p.n),.lit (.int .i64 p.m),.lit (.int .i64 p.var),.own 3 (List.length (α:=Vl.Pattern) out41)],.elems 6 (List.map Vl.Pattern.c out41)]⟩ (Gh.to3 (by simp) (by first|simp -dsimp[h43,q44,z45];done|simp_all)) ?_
   exact hq
theorem C.f88 (c':Vl.Clause)(r:Vl.Clause×Bool)(hF:F.f88 c'=some r):PureCall Tryz.prog B 58 [.agg [.lit (.int .i64 c'.pat.op),.lit (.int .i64 c'.pat.ctor),.lit (.int .i64 c'.pat.n),.lit (.int .i64 c'.pat.m),.lit (.int .i64 c'.pat.var),.arr (List.map Vl.Pattern.c c'.pat.kids),.lit (.int .i64 c'.guard.op),.lit (.int .i64 c'.guard.var),.lit (.int .i64 c'.guard.n)]] (.tup [.agg [.lit (.int .i64 r.1.pat.op),.lit (.int .i64 r.1.pat.ctor),.lit (.int .i64 r.1.pat.n),.lit (.int .i64 r.1.pat.m),.lit (.int .i64 r.1.pat.var),.arr (List.map Vl.Pattern.c r.1.pat.kids),.lit (.int .i64 r.1.guard.op),.lit (.int .i64 r.1.guard.var),.lit (.int .i64 r.1.guard.n)],.lit (.bool r.2)]):=by
 unfold F.f88 at hF
 refine PureCall.enterLe Tryz.func58 (by kernel_rfl) rfl Tryz.ntmps58 (by simp) (by simp) ?_
 repeat(first|refine chk.ga ?_|simp -dsimp)
 refine abr.split (fun h1=> ?_) (fun h1=> ?_)
 ·have q2:(c'.guard.op=0):=auq h1
  rw[if_pos q2]at hF
  repeat(first|refine chk.ga ?_|simp -dsimp[h1])
  have hF:=ob hF;obtain⟨v,e3,hF⟩:=hF
  refine(((CC.f78 B hB1 hB2).1 c'.pat v e3)).goW (by first|simp[h1];done|simp_all) (by simp) ?_
  cases hF
  repeat(first|refine chk.ga ?_|simp -dsimp[h1])
  all_goals(try first|omega|rfl)
 ·have q2:¬(c'.guard.op=0):=auq h1
  rw[if_neg q2]at hF
  repeat(first|refine chk.ga ?_|simp -dsimp[h1,q2])
  have hF:=ob hF;obtain⟨v4,e5,hF⟩:=hF
  refine((C.f80 B hB1 hB2 c'.guard v4 e5)).goW (by first|simp[h1,q2];done|simp_all) (by simp) ?_
  repeat(first|refine chk.ga ?_|simp -dsimp[h1,q2])
  have hF:=ob hF;obtain⟨v6,e7,hF⟩:=hF
  refine(((CC.f84 B hB1 hB2 c'.guard.var v4.1 v4.2).1 c'.pat v6 e7)).goW (by first|simp[h1,q2];done|simp_all) (by simp) ?_
  repeat(first|refine chk.ga ?_|simp -dsimp[h1,q2])
  have hF:=ob hF;obtain⟨v8,e9,hF⟩:=hF
  refine(((CC.f78 B hB1 hB2).1 v6.1 v8 e9)).goW (by first|simp[h1,q2];done|simp_all) (by simp) ?_
  cases hF
  repeat(first|refine chk.ga ?_|simp -dsimp[h1,q2])
  all_goals(try first|omega|rfl)
theorem C.f89 (w:List Vl.Data)(t:Vl.Ty)(c':Vl.Clause)(r:Vl.Clause×Bool)(hF:F.f89 w t c'=some r):PureCall Tryz.prog B 20 [.arr (List.map Vl.Data.c w),.agg [.lit (.int .i64 t.data),.lit (.int .i64 t.index)],.agg [.lit (.int .i64 c'.pat.op),.lit (.int .i64 c'.pat.ctor),.lit (.int .i64 c'.pat.n),.lit (.int .i64 c'.pat.m),.lit (.int .i64 c'.pat.var),.arr (List.map Vl.Pattern.c c'.pat.kids),.lit (.int .i64 c'.guard.op),.lit (.int .i64 c'.guard.var),.lit (.int .i64 c'.guard.n)]] (.tup [.agg [.lit (.int .i64 r.1.pat.op),.lit (.int .i64 r.1.pat.ctor),.lit (.int .i64 r.1.pat.n),.lit (.int .i64 r.1.pat.m),.lit (.int .i64 r.1.pat.var),.arr (List.map Vl.Pattern.c r.1.pat.kids),.lit (.int .i64 r.1.guard.op),.lit (.int .i64 r.1.guard.var),.lit (.int .i64 r.1.guard.n)],.lit (.bool r.2)]):=by
 unfold F.f89 at hF
 refine PureCall.enterLe Tryz.func20 (by kernel_rfl) rfl Tryz.ntmps20 (by simp) (by simp) ?_
 repeat(first|refine chk.ga ?_|simp -dsimp)
 have hF:=ob hF;obtain⟨v,e1,hF⟩:=hF
 refine((C.f73 B hB1 hB2 w t c' v e1)).goW (by simp) (by simp) ?_
 repeat(first|refine chk.ga ?_|simp -dsimp)
 refine abr.split (fun h2=> ?_) (fun h2=> ?_)
 ·have q3:(v=true):=auq h2
  rw[if_pos q3]at hF
  repeat(first|refine chk.ga ?_|simp -dsimp[h2])
  refine abr.split (fun h4=> ?_) (fun h4=> ?_)
  ·have q5:¬(c'.guard.op=0):=auq h4
   rw[if_neg q5]at hF
   repeat(first|refine chk.ga ?_|simp -dsimp[h2,h4,q5])
   have hF:=ob hF;obtain⟨v6,e7,hF⟩:=hF
   refine(((CC.f76 B hB1 hB2 c'.guard.var).1 c'.pat v6 e7)).goW (by first|simp[h2,h4,q5];done|simp_all) (by simp) ?_
   repeat(first|refine chk.ga ?_|simp -dsimp[h2,h4,q5])
   refine abr.split (fun h8=> ?_) (fun h8=> ?_)
   ·have q9:(v6=true):=auq h8
    rw[if_pos q9]at hF
    cases hF
    repeat(first|refine chk.ga ?_|simp -dsimp[h2,h4,q5,h8])
    all_goals(try first|omega|rfl)
   ·have q9:¬(v6=true):=auq h8
    rw[if_neg q9]at hF
    repeat(first|refine chk.ga ?_|simp -dsimp[h2,h4,q5,h8,q9])
    have hF:=ob hF;obtain⟨v10,e11,hF⟩:=hF
    refine((C.f88 B hB1 hB2 c' v10 e11)).goW (by first|simp[h2,h4,q5,h8,q9];done|simp_all) (by simp) ?_
    repeat(first|refine chk.ga ?_|simp -dsimp[h2,h4,q5,h8,q9])
    refine abr.split (fun h12=> ?_) (fun h12=> ?_)
    ·have q13:(v10.2=true):=auq h12
     rw[if_pos q13]at hF
     repeat(first|refine chk.ga ?_|simp -dsimp[h2,h4,q5,h8,q9,h12])
     have hF:=ob hF;obtain⟨v14,e15,hF⟩:=hF
     refine((C.f72 B hB1 hB2 w t v10.1 v14 e15)).goW (by first|simp[h2,h4,q5,h8,q9,h12];done|simp_all) (by simp) ?_
     repeat(first|refine chk.ga ?_|simp -dsimp[h2,h4,q5,h8,q9,h12])
     refine abr.split (fun h16=> ?_) (fun h16=> ?_)
     ·have q17:¬(v14=true):=auq h16
      rw[if_neg q17]at hF
      cases hF
      repeat(first|refine chk.ga ?_|simp -dsimp[h2,h4,q5,h8,q9,h12,h16,q17])
      all_goals(try first|omega|rfl)
     ·have q17:(v14=true):=auq h16
      rw[if_pos q17]at hF
      cases hF
      repeat(first|refine chk.ga ?_|simp -dsimp[h2,h4,q5,h8,q9,h12,h16,q17])
      all_goals(try first|omega|rfl)
    ·have q13:¬(v10.2=true):=auq h12
     rw[if_neg q13]at hF
     cases hF
     repeat(first|refine chk.ga ?_|simp -dsimp[h2,h4,q5,h8,q9,h12,q13])
     all_goals(try first|omega|rfl)
  ·have q5:(c'.guard.op=0):=auq h4
   rw[if_pos q5]at hF
   repeat(first|refine chk.ga ?_|simp -dsimp[h2,h4,q5])
   have hF:=ob hF;obtain⟨v18,e19,hF⟩:=hF
   refine((C.f88 B hB1 hB2 c' v18 e19)).goW (by first|simp[h2,h4,q5];done|simp_all) (by simp) ?_
   repeat(first|refine chk.ga ?_|simp -dsimp[h2,h4,q5])
   refine abr.split (fun h20=> ?_) (fun h20=> ?_)
   ·have q21:(v18.2=true):=auq h20
    rw[if_pos q21]at hF
    repeat(first|refine chk.ga ?_|simp -dsimp[h2,h4,q5,h20])
    have hF:=ob hF;obtain⟨v22,e23,hF⟩:=hF
    refine((C.f72 B hB1 hB2 w t v18.1 v22 e23)).goW (by first|simp[h2,h4,q5,h20];done|simp_all) (by simp) ?_
    repeat(first|refine chk.ga ?_|simp -dsimp[h2,h4,q5,h20])
    refine abr.split (fun h24=> ?_) (fun h24=> ?_)
    ·have q25:¬(v22=true):=auq h24
     rw[if_neg q25]at hF
     cases hF
     repeat(first|refine chk.ga ?_|simp -dsimp[h2,h4,q5,h20,h24,q25])
     all_goals(try first|omega|rfl)
    ·have q25:(v22=true):=auq h24
     rw[if_pos q25]at hF
     cases hF
     repeat(first|refine chk.ga ?_|simp -dsimp[h2,h4,q5,h20,h24,q25])
     all_goals(try first|omega|rfl)
   ·have q21:¬(v18.2=true):=auq h20
    rw[if_neg q21]at hF
    cases hF
    repeat(first|refine chk.ga ?_|simp -dsimp[h2,h4,q5,h20,q21])
    all_goals(try first|omega|rfl)
 ·have q3:¬(v=true):=auq h2
  rw[if_neg q3]at hF
  cases hF
  repeat(first|refine chk.ga ?_|simp -dsimp[h2,q3])
  all_goals(try first|omega|rfl)
theorem CC.laws_toTypeS__f_l1 (a:List Vl.Ty):(∀(out:List Vl.Ty) (i:Nat) (o:List Vl.Ty),F.f14 a out i=some o→∀(c:Code),navO [1,1,0,1,0,0] (bodyOf Tryz.f197)=some c→∀(Q:Exit→ASt→Prop),(Q (.exit 0) ⟨[(3,.own 1 (List.length (α:=Vl.Ty) o))],[.pack [] [],.elems 2 (List.map Vl.Ty.c o)]⟩)→ALoopU Tryz.prog B 0 23 (hold c .mk) ⟨[(0,.arr (List.map Vl.Ty.c a)),(3,.own 1 (List.length (α:=Vl.Ty) out)),(4,.lit (.int .i64 (i:Int)))],[.pack [] [],.elems 2 (List.map Vl.Ty.c out)]⟩ (hold Q .mk)):=by
 refine F.f14.partial_correctness a
  _
  ?_
 ·intro _f_laws_toTypeS__f_l1 ih_laws_toTypeS__f_l1 out i o hF
  intro c hc Q hq
  obtain rfl:c=_:=navEq hc rfl
  refine ALoopU.know fun hk hs=> ?_
  have b0:=hk 0
  simp -dsimp at b0
  have d1:=hs 1 _ rfl
  simp -dsimp[Blk.bnd]at d1
  clear hk hs
  refine ALoopU.enter ?_
  repeat(first|refine chk.ga ?_|simp -dsimp)
  refine abr.split (fun h2=> ?_) (fun h2=> ?_)
  ·have q3:(i<a.length):=auq h2
   have z4:((i:Int)<(a.length:Int)):=auz
   rw[if_pos q3]at hF
   have hF:=ob hF;obtain⟨x,e5,hF⟩:=hF
   have le5:=lt_of_get e5
   repeat(first|refine chk.ga ?_|simp -dsimp[h2,z4,↓e5])
   have hF:=ob hF;obtain⟨v,e6,hF⟩:=hF
   refine((C.f13 B hB1 hB2 x v e6)).goW (by first|simp[h2,z4,↓e5];done|simp_all) (by simp) ?_
   have hF:=ob hF;obtain⟨x7,e8,hF⟩:=hF
   have le8:=lt_of_get e8
   have w9:IntKind.i64.wrap ((i:Int)+1)=(i:Int)+1:=wrap_in (by omega) (by omega)
   repeat(first|refine chk.ga ?_|simp -dsimp[h2,z4,↓e5,↓e8,w9])
   refine Again.go _ ?_ ((ih_laws_toTypeS__f_l1 (out.set i v) (i+1) o hF) _ rfl _ hq)
   exact(Gh.to3 (by simp) (by first|simp -dsimp[h2,z4,↓e5,↓e8,w9];done|simp_all))
  ·have q3:¬(i<a.length):=auq h2
   have z4:¬((i:Int)<(a.length:Int)):=auz
   rw[if_neg q3]at hF
   cases hF
   repeat(first|refine chk.ga ?_|simp -dsimp[h2,q3,z4])
   refine Leave.go ⟨[(3,.own 1 (List.length (α:=Vl.Ty) out))],[.pack [] [],.elems 2 (List.map Vl.Ty.c out)]⟩ (Gh.to3 (by simp) (by first|simp -dsimp[h2,q3,z4];done|simp_all)) ?_
   exact hq
theorem C.laws_toTypeS__f (a:List Vl.Ty)(r:List Vl.Ty)(hF:F.f15 a=some r):FCall Tryz.prog B 197 [.arr (List.map Vl.Ty.c a)] (.arr (List.map Vl.Ty.c r)):=by
 unfold F.f15 at hF
 refine FCall.enterG Tryz.func197 (by kernel_rfl) rfl Tryz.ntmps197 (by simp) (Gh.packZ .nil) ?_
 have hF:=oc hF;obtain⟨c1,hF⟩:=hF
 repeat(first|refine chk.ga ?_|simp -dsimp)
 have hF:=ob hF;obtain⟨o',ho10,hF⟩:=hF
 refine ALoop.goU _ ?_ (((CC.laws_toTypeS__f_l1 B hB1 hB2 a) (List.replicate a.length Vl.Ty.z) 0 o' ho10) _ rfl _ ?_)
 ·exact(Gh.to3 (by simp) (by simp -dsimp))
 cases hF
 repeat(first|refine chk.ga ?_|simp -dsimp)
 exact⟨_,by decide,(.cell (CD.ownE 1 _ 2 rfl (Vl.Ty.lits_c _) (by simp) .nil) .nil:CT _ _ _ _)⟩
theorem C.laws_toCtor__f (a:Vl.Ctor)(r:Vl.Ctor)(hF:F.f16 a=some r):FCall Tryz.prog B 156 [.agg [.lit (.string a.name),.arr (List.map Vl.Ty.c a.args),.lit (.int .i64 a.index)]] (.agg [.lit (.string r.name),.arr (List.map Vl.Ty.c r.args),.lit (.int .i64 r.index)]):=by
 unfold F.f16 at hF
 refine FCall.enterG Tryz.func156 (by kernel_rfl) rfl Tryz.ntmps156 (by simp) (Gh.packZ .nil) ?_
 repeat(first|refine chk.ga ?_|simp -dsimp)
 have hF:=ob hF;obtain⟨v,e1,hF⟩:=hF
 refine((C.laws_toTypeS__f B hB1 hB2 a.args v e1)).go1 (by simp -dsimp) (by simp) (fun h o_h=> ?_)
 cases hF
 repeat(first|refine chk.ga ?_|simp -dsimp[o_h])
 exact⟨_,by decide,(.agg (.lit _ (.pk 4 rfl (.lit _ .nil))) .nil:CT _ _ _ _)⟩
theorem CC.laws_toCtorS__f_l1 (a:List Vl.Ctor):(∀(out:List Vl.Ctor) (i:Nat) (o:List Vl.Ctor),F.f17 a out i=some o→∀(R:List (List AV)),∀(U:List Value),RW 3 (List.length (α:=Vl.Ctor) out) R U→∀(c:Code),navO [1,1,0,1,0,0] (bodyOf Tryz.f102)=some c→∀(Q:Exit→ASt→Prop),(∀(Rq:List (List AV)) (Uq:List Value),RW 3 (List.length (α:=Vl.Ctor) o) Rq Uq→Q (.exit 0) ⟨[(3,.own 1 (List.length (α:=Vl.Ctor) o))],[.pack [] [],.elems 3 Rq,.pack (List.flatten (List.map Vl.Ctor.c o)) Uq]⟩)→ALoopU Tryz.prog B 0 23 (hold c .mk) ⟨[(0,.arr (List.map Vl.Ctor.c a)),(3,.own 1 (List.length (α:=Vl.Ctor) out)),(4,.lit (.int .i64 (i:Int)))],[.pack [] [],.elems 3 R,.pack (List.flatten (List.map Vl.Ctor.c out)) U]⟩ (hold Q .mk)):=by
 refine F.f17.partial_correctness a
  _
  ?_
 ·intro _f_laws_toCtorS__f_l1 ih_laws_toCtorS__f_l1 out i o hF
  intro R U H2 c hc Q hq
  obtain rfl:c=_:=navEq hc rfl
  refine ALoopU.know fun hk hs=> ?_
  have b0:=hk 0
  simp -dsimp at b0
  have d1:=hs 1 _ rfl
  simp -dsimp[Blk.bnd]at d1
  clear hk hs
  refine ALoopU.enter ?_
  repeat(first|refine chk.ga ?_|simp -dsimp[RW.len H2,RW.closed H2])
  refine abr.split (fun h4=> ?_) (fun h4=> ?_)
  ·have q5:(i<a.length):=auq h4
   have z6:((i:Int)<(a.length:Int)):=auz
   rw[if_pos q5]at hF
   have hF:=ob hF;obtain⟨x,e7,hF⟩:=hF
   have le7:=lt_of_get e7
   repeat(first|refine chk.ga ?_|simp -dsimp[RW.len H2,RW.closed H2,h4,z6,↓e7])
   have hF:=ob hF;obtain⟨v,e8,hF⟩:=hF
   refine((C.laws_toCtor__f B hB1 hB2 x v e8)).go1 (by first|simp -dsimp[RW.len H2,RW.closed H2,h4,z6,↓e7];done|simp_all) (by simp) (fun h o_h=> ?_)
   have hF:=ob hF;obtain⟨x9,e10,hF⟩:=hF
   have le10:=lt_of_get e10
   obtain⟨row11,hrow11,lrow11⟩:=RW.row H2 le10
   have w12:IntKind.i64.wrap ((i:Int)+1)=(i:Int)+1:=wrap_in (by omega) (by omega)
   repeat(first|refine chk.ga ?_|simp -dsimp[RW.len H2,RW.closed H2,h4,z6,↓e7,o_h,↓e10,hrow11,lrow11,w12])
   refine Again.go ⟨[(0,.arr (List.map Vl.Ctor.c a)),(3,.own 1 (List.length (α:=Vl.Ctor) (out.set i v))),(4,.lit (.int .i64 ((i+1):Int)))],[.pack [] [],.elems 3 (R.set i [.lit (.string v.name),.lit h,.lit (.int .i64 v.index)]),.pack (List.flatten (List.map Vl.Ctor.c (out.set i v))) (setU 3 i U [.string v.name,h,.int .i64 v.index])]⟩ (by refine Gh.trans (Gh.setRow (c:=Vl.Ctor.c) (y:=v) 2 [3] (by exact rfl) e10 (by simp) H2 (by simp) (.lit (.string v.name) (.pk 3 (by exact rfl) (.lit (.int .i64 v.index) .nil))) (by simp) (by decide)) ?_;exact(Gh.to3 (by simp) (by first|simp -dsimp[RW.len H2,RW.closed H2,h4,z6,↓e7,o_h,↓e10,hrow11,lrow11,w12];done|simp_all))) ?_
   exact(ih_laws_toCtorS__f_l1 (out.set i v) (i+1) o hF) (R.set i [.lit (.string v.name),.lit h,.lit (.int .i64 v.index)]) (setU 3 i U [.string v.name,h,.int .i64 v.index]) ((RW.set H2 le10 [.string v.name,h,.int .i64 v.index] rfl).cong (by simp) (by simp) rfl) _ rfl _ hq
  ·have q5:¬(i<a.length):=auq h4
   have z6:¬((i:Int)<(a.length:Int)):=auz
   rw[if_neg q5]at hF
   cases hF
   repeat(first|refine chk.ga ?_|simp -dsimp[RW.len H2,RW.closed H2,h4,q5,z6])
   refine Leave.go ⟨[(3,.own 1 (List.length (α:=Vl.Ctor) out))],[.pack [] [],.elems 3 R,.pack (List.flatten (List.map Vl.Ctor.c out)) U]⟩ (Gh.to3 (by simp) (by first|simp -dsimp[RW.len H2,RW.closed H2,h4,q5,z6];done|simp_all)) ?_
   exact hq R U H2
theorem C.laws_toCtorS__f (a:List Vl.Ctor)(r:List Vl.Ctor)(hF:F.f18 a=some r):FCall Tryz.prog B 102 [.arr (List.map Vl.Ctor.c a)] (.arr (List.map Vl.Ctor.c r)):=by
 unfold F.f18 at hF
 refine FCall.enterG Tryz.func102 (by kernel_rfl) rfl Tryz.ntmps102 (by simp) (Gh.packZ .nil) ?_
 have hF:=oc hF;obtain⟨c1,hF⟩:=hF
 repeat(first|refine chk.ga ?_|simp -dsimp)
 have hF:=ob hF;obtain⟨o',ho13,hF⟩:=hF
 refine ALoop.goU ⟨[(0,.arr (List.map Vl.Ctor.c a)),(3,.own 1 (List.length (α:=Vl.Ctor) (List.replicate a.length Vl.Ctor.z))),(4,.lit (.int .i64 (0:Int)))],[.pack [] [],.elems 3 (List.replicate a.length [.lit (.string ByteArray.empty),.lit (.slice none 0 0),.lit (.int .i64 0)]),.pack (List.flatten (List.map Vl.Ctor.c (List.replicate a.length Vl.Ctor.z))) (List.flatten (List.replicate a.length [.string ByteArray.empty,.slice none 0 0,.int .i64 0]))]⟩ (by refine Gh.trans (Gh.packZ (ZC.rep (.lit (.string ByteArray.empty) (.emp none 0 (.lit (.int .i64 0) .nil))) a.length)) ?_;exact(Gh.to3 (by simp) (by simp -dsimp))) ?_
 refine((CC.laws_toCtorS__f_l1 B hB1 hB2 a) (List.replicate a.length Vl.Ctor.z) 0 o' ho13) (List.replicate a.length [.lit (.string ByteArray.empty),.lit (.slice none 0 0),.lit (.int .i64 0)]) (List.flatten (List.replicate a.length [.string ByteArray.empty,.slice none 0 0,.int .i64 0])) ((RW.rep a.length [.string ByteArray.empty,.slice none 0 0,.int .i64 0]).cong (by simp) (by simp) rfl) _ rfl _ ?_
 intro Rq Uq Hq3
 cases hF
 repeat(first|refine chk.ga ?_|simp -dsimp[RW.len Hq3,RW.closed Hq3])
 exact⟨_,by decide,(.cell (.ownP 1 _ 3 rfl (by simp) (.blk 2 rfl .nil) (by simp[Hq3.2.2]) (by simp[Hq3.1]) (by simp) (by simp) .nil) .nil:CT _ _ _ _)⟩
theorem C.laws_toData__f (a:Vl.Data)(r:Vl.Data)(hF:F.f19 a=some r):FCall Tryz.prog B 45 [.agg [.lit (.string a.name),.arr (List.map Vl.Ctor.c a.ctors)]] (.agg [.lit (.string r.name),.arr (List.map Vl.Ctor.c r.ctors)]):=by
 unfold F.f19 at hF
 refine FCall.enterG Tryz.func45 (by kernel_rfl) rfl Tryz.ntmps45 (by simp) (Gh.packZ .nil) ?_
 repeat(first|refine chk.ga ?_|simp -dsimp)
 have hF:=ob hF;obtain⟨v,e1,hF⟩:=hF
 refine((C.laws_toCtorS__f B hB1 hB2 a.ctors v e1)).go1 (by simp -dsimp) (by simp) (fun h o_h=> ?_)
 cases hF
 repeat(first|refine chk.ga ?_|simp -dsimp[o_h])
 exact⟨_,by decide,(.agg (.lit _ (.pk 4 rfl .nil)) .nil:CT _ _ _ _)⟩
theorem CC.laws_toDataS__f_l1 (a:List Vl.Data):(∀(out:List Vl.Data) (i:Nat) (o:List Vl.Data),F.f20 a out i=some o→∀(R:List (List AV)),∀(U:List Value),RW 2 (List.length (α:=Vl.Data) out) R U→∀(c:Code),navO [1,1,0,1,0,0] (bodyOf Tryz.f10)=some c→∀(Q:Exit→ASt→Prop),(∀(Rq:List (List AV)) (Uq:List Value),RW 2 (List.length (α:=Vl.Data) o) Rq Uq→Q (.exit 0) ⟨[(3,.own 1 (List.length (α:=Vl.Data) o))],[.pack [] [],.elems 2 Rq,.pack (List.flatten (List.map Vl.Data.c o)) Uq]⟩)→ALoopU Tryz.prog B 0 23 (hold c .mk) ⟨[(0,.arr (List.map Vl.Data.c a)),(3,.own 1 (List.length (α:=Vl.Data) out)),(4,.lit (.int .i64 (i:Int)))],[.pack [] [],.elems 2 R,.pack (List.flatten (List.map Vl.Data.c out)) U]⟩ (hold Q .mk)):=by
 refine F.f20.partial_correctness a
  _
  ?_
 ·intro _f_laws_toDataS__f_l1 ih_laws_toDataS__f_l1 out i o hF
  intro R U H2 c hc Q hq
  obtain rfl:c=_:=navEq hc rfl
  refine ALoopU.know fun hk hs=> ?_
  have b0:=hk 0
  simp -dsimp at b0
  have d1:=hs 1 _ rfl
  simp -dsimp[Blk.bnd]at d1
  clear hk hs
  refine ALoopU.enter ?_
  repeat(first|refine chk.ga ?_|simp -dsimp[RW.len H2,RW.closed H2])
  refine abr.split (fun h4=> ?_) (fun h4=> ?_)
  ·have q5:(i<a.length):=auq h4
   have z6:((i:Int)<(a.length:Int)):=auz
   rw[if_pos q5]at hF
   have hF:=ob hF;obtain⟨x,e7,hF⟩:=hF
   have le7:=lt_of_get e7
   repeat(first|refine chk.ga ?_|simp -dsimp[RW.len H2,RW.closed H2,h4,z6,↓e7])
   have hF:=ob hF;obtain⟨v,e8,hF⟩:=hF
   refine((C.laws_toData__f B hB1 hB2 x v e8)).go1 (by first|simp -dsimp[RW.len H2,RW.closed H2,h4,z6,↓e7];done|simp_all) (by simp) (fun h o_h=> ?_)
   have hF:=ob hF;obtain⟨x9,e10,hF⟩:=hF
   have le10:=lt_of_get e10
   obtain⟨row11,hrow11,lrow11⟩:=RW.row H2 le10
   have w12:IntKind.i64.wrap ((i:Int)+1)=(i:Int)+1:=wrap_in (by omega) (by omega)
   repeat(first|refine chk.ga ?_|simp -dsimp[RW.len H2,RW.closed H2,h4,z6,↓e7,o_h,↓e10,hrow11,lrow11,w12])
   refine Again.go ⟨[(0,.arr (List.map Vl.Data.c a)),(3,.own 1 (List.length (α:=Vl.Data) (out.set i v))),(4,.lit (.int .i64 ((i+1):Int)))],[.pack [] [],.elems 2 (R.set i [.lit (.string v.name),.lit h]),.pack (List.flatten (List.map Vl.Data.c (out.set i v))) (setU 2 i U [.string v.name,h])]⟩ (by refine Gh.trans (Gh.setRow (c:=Vl.Data.c) (y:=v) 2 [3] (by exact rfl) e10 (by simp) H2 (by simp) (.lit (.string v.name) (.pk 3 (by exact rfl) .nil)) (by simp) (by decide)) ?_;exact(Gh.to3 (by simp) (by first|simp -dsimp[RW.len H2,RW.closed H2,h4,z6,↓e7,o_h,↓e10,hrow11,lrow11,w12];done|simp_all))) ?_
   exact(ih_laws_toDataS__f_l1 (out.set i v) (i+1) o hF) (R.set i [.lit (.string v.name),.lit h]) (setU 2 i U [.string v.name,h]) ((RW.set H2 le10 [.string v.name,h] rfl).cong (by simp) (by simp) rfl) _ rfl _ hq
  ·have q5:¬(i<a.length):=auq h4
   have z6:¬((i:Int)<(a.length:Int)):=auz
   rw[if_neg q5]at hF
   cases hF
   repeat(first|refine chk.ga ?_|simp -dsimp[RW.len H2,RW.closed H2,h4,q5,z6])
   refine Leave.go ⟨[(3,.own 1 (List.length (α:=Vl.Data) out))],[.pack [] [],.elems 2 R,.pack (List.flatten (List.map Vl.Data.c out)) U]⟩ (Gh.to3 (by simp) (by first|simp -dsimp[RW.len H2,RW.closed H2,h4,q5,z6];done|simp_all)) ?_
   exact hq R U H2
theorem C.laws_toDataS__f (a:List Vl.Data)(r:List Vl.Data)(hF:F.f21 a=some r):FCall Tryz.prog B 10 [.arr (List.map Vl.Data.c a)] (.arr (List.map Vl.Data.c r)):=by
 unfold F.f21 at hF
 refine FCall.enterG Tryz.func10 (by kernel_rfl) rfl Tryz.ntmps10 (by simp) (Gh.packZ .nil) ?_
 have hF:=oc hF;obtain⟨c1,hF⟩:=hF
 repeat(first|refine chk.ga ?_|simp -dsimp)
 have hF:=ob hF;obtain⟨o',ho13,hF⟩:=hF
 refine ALoop.goU ⟨[(0,.arr (List.map Vl.Data.c a)),(3,.own 1 (List.length (α:=Vl.Data) (List.replicate a.length Vl.Data.z))),(4,.lit (.int .i64 (0:Int)))],[.pack [] [],.elems 2 (List.replicate a.length [.lit (.string ByteArray.empty),.lit (.slice none 0 0)]),.pack (List.flatten (List.map Vl.Data.c (List.replicate a.length Vl.Data.z))) (List.flatten (List.replicate a.length [.string ByteArray.empty,.slice none 0 0]))]⟩ (by refine Gh.trans (Gh.packZ (ZC.rep (.lit (.string ByteArray.empty) (.emp none 0 .nil)) a.length)) ?_;exact(Gh.to3 (by simp) (by simp -dsimp))) ?_
 refine((CC.laws_toDataS__f_l1 B hB1 hB2 a) (List.replicate a.length Vl.Data.z) 0 o' ho13) (List.replicate a.length [.lit (.string ByteArray.empty),.lit (.slice none 0 0)]) (List.flatten (List.replicate a.length [.string ByteArray.empty,.slice none 0 0])) ((RW.rep a.length [.string ByteArray.empty,.slice none 0 0]).cong (by simp) (by simp) rfl) _ rfl _ ?_
 intro Rq Uq Hq3
 cases hF
 repeat(first|refine chk.ga ?_|simp -dsimp[RW.len Hq3,RW.closed Hq3])
 exact⟨_,by decide,(.cell (.ownP 1 _ 2 rfl (by simp) (.blk 2 rfl .nil) (by simp[Hq3.2.2]) (by simp[Hq3.1]) (by simp) (by simp) .nil) .nil:CT _ _ _ _)⟩
theorem CC.laws_toPattern__f  :(∀(a:Vl.Pattern) (r:Vl.Pattern),F.f22 a=some r→FCall Tryz.prog B 12 [.agg [.lit (.int .i64 a.op),.lit (.int .i64 a.ctor),.lit (.int .i64 a.n),.lit (.int .i64 a.m),.lit (.int .i64 a.var),.arr (List.map Vl.Pattern.c a.kids)]] (.agg [.lit (.int .i64 r.op),.lit (.int .i64 r.ctor),.lit (.int .i64 r.n),.lit (.int .i64 r.m),.lit (.int .i64 r.var),.arr (List.map Vl.Pattern.c r.kids)]))∧
  (∀(a:List Vl.Pattern) (r:List Vl.Pattern),F.f23 a=some r→FCall Tryz.prog B 46 [.arr (List.map Vl.Pattern.c a)] (.arr (List.map Vl.Pattern.c r)))∧
  (∀(a:List Vl.Pattern) (out:List Vl.Pattern) (i:Nat) (o:List Vl.Pattern),F.f24 a out i=some o→∀(R:List (List AV)),∀(U:List Value),RW 6 (List.length (α:=Vl.Pattern) out) R U→∀(c:Code),navO [1,1,0,1,0,0] (bodyOf Tryz.f46)=some c→∀(Q:Exit→ASt→Prop),(∀(Rq:List (List AV)) (Uq:List Value),RW 6 (List.length (α:=Vl.Pattern) o) Rq Uq→Q (.exit 0) ⟨[(3,.own 1 (List.length (α:=Vl.Pattern) o))],[.pack [] [],.elems 6 Rq,.pack (List.flatten (List.map Vl.Pattern.c o)) Uq]⟩)→ALoopU Tryz.prog B 0 23 (hold c .mk) ⟨[(0,.arr (List.map Vl.Pattern.c a)),(3,.own 1 (List.length (α:=Vl.Pattern) out)),(4,.lit (.int .i64 (i:Int)))],[.pack [] [],.elems 6 R,.pack (List.flatten (List.map Vl.Pattern.c out)) U]⟩ (hold Q .mk)):=by
 refine F.f22.mutual_partial_correctness 
  _ _ _
  ?_ ?_ ?_
 ·intro _f_laws_toPatternS__f ih_laws_toPatternS__f a r hF
  refine FCall.enterG Tryz.func12 (by kernel_rfl) rfl Tryz.ntmps12 (by simp) (Gh.packZ .nil) ?_
  repeat(first|refine chk.ga ?_|simp -dsimp)
  have hF:=ob hF;obtain⟨v,e1,hF⟩:=hF
  refine((ih_laws_toPatternS__f a.kids v e1)).go1 (by simp -dsimp) (by simp) (fun h o_h=> ?_)
  cases hF
  repeat(first|refine chk.ga ?_|simp -dsimp[o_h])
  exact⟨_,by decide,(.agg (.lit _ (.lit _ (.lit _ (.lit _ (.lit _ (.pk 4 rfl .nil)))))) .nil:CT _ _ _ _)⟩
 ·intro _f_laws_toPatternS__f_l1 ih_laws_toPatternS__f_l1 a r hF
  refine FCall.enterG Tryz.func46 (by kernel_rfl) rfl Tryz.ntmps46 (by simp) (Gh.packZ .nil) ?_
  have hF:=oc hF;obtain⟨c1,hF⟩:=hF
  repeat(first|refine chk.ga ?_|simp -dsimp)
  have hF:=ob hF;obtain⟨o',ho13,hF⟩:=hF
  refine ALoop.goU ⟨[(0,.arr (List.map Vl.Pattern.c a)),(3,.own 1 (List.length (α:=Vl.Pattern) (List.replicate a.length Vl.Pattern.z))),(4,.lit (.int .i64 (0:Int)))],[.pack [] [],.elems 6 (List.replicate a.length [.lit (.int .i64 0),.lit (.int .i64 0),.lit (.int .i64 0),.lit (.int .i64 0),.lit (.int .i64 0),.lit (.slice none 0 0)]),.pack (List.flatten (List.map Vl.Pattern.c (List.replicate a.length Vl.Pattern.z))) (List.flatten (List.replicate a.length [.int .i64 0,.int .i64 0,.int .i64 0,.int .i64 0,.int .i64 0,.slice none 0 0]))]⟩ (by refine Gh.trans (Gh.packZ (ZC.rep (.lit (.int .i64 0) (.lit (.int .i64 0) (.lit (.int .i64 0) (.lit (.int .i64 0) (.lit (.int .i64 0) (.emp none 0 .nil)))))) a.length)) ?_;exact(Gh.to3 (by simp) (by simp -dsimp))) ?_
  refine(ih_laws_toPatternS__f_l1 a (List.replicate a.length Vl.Pattern.z) 0 o' ho13) (List.replicate a.length [.lit (.int .i64 0),.lit (.int .i64 0),.lit (.int .i64 0),.lit (.int .i64 0),.lit (.int .i64 0),.lit (.slice none 0 0)]) (List.flatten (List.replicate a.length [.int .i64 0,.int .i64 0,.int .i64 0,.int .i64 0,.int .i64 0,.slice none 0 0])) ((RW.rep a.length [.int .i64 0,.int .i64 0,.int .i64 0,.int .i64 0,.int .i64 0,.slice none 0 0]).cong (by simp) (by simp) rfl) _ rfl _ ?_
  intro Rq Uq Hq3
  cases hF
  repeat(first|refine chk.ga ?_|simp -dsimp[RW.len Hq3,RW.closed Hq3])
  exact⟨_,by decide,(.cell (.ownP 1 _ 6 rfl (by simp) (.blk 2 rfl .nil) (by simp[Hq3.2.2]) (by simp[Hq3.1]) (by simp) (by simp) .nil) .nil:CT _ _ _ _)⟩
 ·intro _f_laws_toPattern__f _f_laws_toPatternS__f_l1 ih_laws_toPattern__f ih_laws_toPatternS__f_l1 a out i o hF
  intro R U H2 c hc Q hq
  obtain rfl:c=_:=navEq hc rfl
  refine ALoopU.know fun hk hs=> ?_
  have b0:=hk 0
  simp -dsimp at b0
  have d1:=hs 1 _ rfl
  simp -dsimp[Blk.bnd]at d1
  clear hk hs
  refine ALoopU.enter ?_
  repeat(first|refine chk.ga ?_|simp -dsimp[RW.len H2,RW.closed H2])
  refine abr.split (fun h4=> ?_) (fun h4=> ?_)
  ·have q5:(i<a.length):=auq h4
   have z6:((i:Int)<(a.length:Int)):=auz
   rw[if_pos q5]at hF
   have hF:=ob hF;obtain⟨x,e7,hF⟩:=hF
   have le7:=lt_of_get e7
   repeat(first|refine chk.ga ?_|simp -dsimp[RW.len H2,RW.closed H2,h4,z6,↓e7])
   have hF:=ob hF;obtain⟨v,e8,hF⟩:=hF
   refine((ih_laws_toPattern__f x v e8)).go1 (by first|simp -dsimp[RW.len H2,RW.closed H2,h4,z6,↓e7];done|simp_all) (by simp) (fun h o_h=> ?_)
   have hF:=ob hF;obtain⟨x9,e10,hF⟩:=hF
   have le10:=lt_of_get e10
   obtain⟨row11,hrow11,lrow11⟩:=RW.row H2 le10
   have w12:IntKind.i64.wrap ((i:Int)+1)=(i:Int)+1:=wrap_in (by omega) (by omega)
   repeat(first|refine chk.ga ?_|simp -dsimp[RW.len H2,RW.closed H2,h4,z6,↓e7,o_h,↓e10,hrow11,lrow11,w12])
   refine Again.go ⟨[(0,.arr (List.map Vl.Pattern.c a)),(3,.own 1 (List.length (α:=Vl.Pattern) (out.set i v))),(4,.lit (.int .i64 ((i+1):Int)))],[.pack [] [],.elems 6 (R.set i [.lit (.int .i64 v.op),.lit (.int .i64 v.ctor),.lit (.int .i64 v.n),.lit (.int .i64 v.m),.lit (.int .i64 v.var),.lit h]),.pack (List.flatten (List.map Vl.Pattern.c (out.set i v))) (setU 6 i U [.int .i64 v.op,.int .i64 v.ctor,.int .i64 v.n,.int .i64 v.m,.int .i64 v.var,h])]⟩ (by refine Gh.trans (Gh.setRow (c:=Vl.Pattern.c) (y:=v) 2 [3] (by exact rfl) e10 (by simp) H2 (by simp) (.lit (.int .i64 v.op) (.lit (.int .i64 v.ctor) (.lit (.int .i64 v.n) (.lit (.int .i64 v.m) (.lit (.int .i64 v.var) (.pk 3 (by exact rfl) .nil)))))) (by simp) (by decide)) ?_;exact(Gh.to3 (by simp) (by first|simp -dsimp[RW.len H2,RW.closed H2,h4,z6,↓e7,o_h,↓e10,hrow11,lrow11,w12];done|simp_all))) ?_
   exact(ih_laws_toPatternS__f_l1 a (out.set i v) (i+1) o hF) (R.set i [.lit (.int .i64 v.op),.lit (.int .i64 v.ctor),.lit (.int .i64 v.n),.lit (.int .i64 v.m),.lit (.int .i64 v.var),.lit h]) (setU 6 i U [.int .i64 v.op,.int .i64 v.ctor,.int .i64 v.n,.int .i64 v.m,.int .i64 v.var,h]) ((RW.set H2 le10 [.int .i64 v.op,.int .i64 v.ctor,.int .i64 v.n,.int .i64 v.m,.int .i64 v.var,h] rfl).cong (by simp) (by simp) rfl) _ rfl _ hq
  ·have q5:¬(i<a.length):=auq h4
   have z6:¬((i:Int)<(a.length:Int)):=auz
   rw[if_neg q5]at hF
   cases hF
   repeat(first|refine chk.ga ?_|simp -dsimp[RW.len H2,RW.closed H2,h4,q5,z6])
   refine Leave.go ⟨[(3,.own 1 (List.length (α:=Vl.Pattern) out))],[.pack [] [],.elems 6 R,.pack (List.flatten (List.map Vl.Pattern.c out)) U]⟩ (Gh.to3 (by simp) (by first|simp -dsimp[RW.len H2,RW.closed H2,h4,q5,z6];done|simp_all)) ?_
   exact hq R U H2
theorem C.laws_toClause__f (a:Vl.Clause)(r:Vl.Clause)(hF:F.f26 a=some r):FCall Tryz.prog B 21 [.agg [.lit (.int .i64 a.pat.op),.lit (.int .i64 a.pat.ctor),.lit (.int .i64 a.pat.n),.lit (.int .i64 a.pat.m),.lit (.int .i64 a.pat.var),.arr (List.map Vl.Pattern.c a.pat.kids),.lit (.int .i64 a.guard.op),.lit (.int .i64 a.guard.var),.lit (.int .i64 a.guard.n)]] (.agg [.lit (.int .i64 r.pat.op),.lit (.int .i64 r.pat.ctor),.lit (.int .i64 r.pat.n),.lit (.int .i64 r.pat.m),.lit (.int .i64 r.pat.var),.arr (List.map Vl.Pattern.c r.pat.kids),.lit (.int .i64 r.guard.op),.lit (.int .i64 r.guard.var),.lit (.int .i64 r.guard.n)]):=by
 unfold F.f26 at hF
 refine FCall.enterG Tryz.func21 (by kernel_rfl) rfl Tryz.ntmps21 (by simp) (Gh.packZ .nil) ?_
 repeat(first|refine chk.ga ?_|simp -dsimp)
 have hF:=ob hF;obtain⟨v,e1,hF⟩:=hF
 refine(((CC.laws_toPattern__f B hB1 hB2).1 a.pat v e1)).go1 (by simp -dsimp) (by simp) (fun h o_h=> ?_)
 repeat(first|refine chk.ga ?_|simp -dsimp[o_h])
 have hF:=ob hF;obtain⟨v2,e3,hF⟩:=hF
 refine((C.f25 B hB1 hB2 a.guard v2 e3)).goW (by first|simp[o_h];done|simp_all) (by simp) ?_
 cases hF
 repeat(first|refine chk.ga ?_|simp -dsimp[o_h])
 exact⟨_,by decide,(.agg (.lit _ (.lit _ (.lit _ (.lit _ (.lit _ (.pk 4 rfl (.lit _ (.lit _ (.lit _ .nil))))))))) .nil:CT _ _ _ _)⟩
theorem C.f90 (n:Int)(low:Int)(high:Int)(r:Bool)(hF:F.f90 n low high=some r):PureCall Tryz.prog B 175 [.lit (.int .i64 n),.lit (.int .i64 low),.lit (.int .i64 high)] (.lit (.bool r)):=by
 unfold F.f90 at hF
 refine PureCall.enterLe Tryz.func175 (by kernel_rfl) rfl Tryz.ntmps175 (by simp) (by simp) ?_
 repeat(first|refine chk.ga ?_|simp -dsimp)
 refine abr.split (fun h1=> ?_) (fun h1=> ?_)
 ·have q2:(low≤n):=auq h1
  rw[if_pos q2]at hF
  cases hF
  repeat(first|refine chk.ga ?_|simp -dsimp[h1])
  all_goals(try first|omega|rfl)
 ·have q2:¬(low≤n):=auq h1
  rw[if_neg q2]at hF
  cases hF
  repeat(first|refine chk.ga ?_|simp -dsimp[h1,q2])
  all_goals(try first|omega|rfl)
theorem CC.f91 (s:ByteArray):(∀(i:Nat) (o:Lo Bool Unit),F.f91 s i=some o→∀(c:Code),navO [1,1,0,1,0,0] (bodyOf Tryz.f215)=some c→∀(Q:Exit→ASt→Prop),o.post (fun r=>∀st,Post Tryz.prog Tryz.f215 (fun r' _=>r'.le (.lit (.bool r))) .ret st→Q .ret st) (fun s=>Q (.exit 0) ⟨[],[]⟩)→ALoopU Tryz.prog B 0 34 (hold c .mk) ⟨[(0,.lit (.string s)),(3,.lit (.int .i64 (i:Int)))],[]⟩ (hold Q .mk)):=by
 refine F.f91.partial_correctness s
  _
  ?_
 ·intro _f_f91 ih_f91 i o hF
  intro c hc Q hq
  obtain rfl:c=_:=navEq hc rfl
  refine ALoopU.know fun hk hs=> ?_
  clear hk hs
  refine ALoopU.enter ?_
  repeat(first|refine chk.ga ?_|simp -dsimp)
  refine abr.split (fun h11=> ?_) (fun h11=> ?_)
  ·have q12:(i<s.size):=auq h11
   have z13:((i:Int)<(s.size:Int)):=auz
   rw[if_pos q12]at hF
   repeat(first|refine chk.ga ?_|simp -dsimp[h11,z13])
   refine abr.split (fun h14=> ?_) (fun h14=> ?_)
   ·have q15:¬(byteAt s i<97):=auq h14
    have z16:¬(((byteAt s i:Nat):Int)<(97:Int)):=auz
    rw[if_neg q15]at hF
    repeat(first|refine chk.ga ?_|simp -dsimp[h11,z13,h14,q15,z16])
    refine abr.split (fun h17=> ?_) (fun h17=> ?_)
    ·have q18:(122<byteAt s i):=auq h17
     have z19:((122:Int)<((byteAt s i:Nat):Int)):=auz
     rw[if_pos q18]at hF
     cases hF
     repeat(first|refine chk.ga ?_|simp -dsimp[h11,z13,h14,q15,z16,h17,z19])
     refine Leave.go _ (Gh.refl _) (hq _ ?_)
     repeat(first|refine chk.ga ?_|simp -dsimp[h11,z13,h14,q15,z16,h17,z19])
    ·have q18:¬(122<byteAt s i):=auq h17
     have z19:¬((122:Int)<((byteAt s i:Nat):Int)):=auz
     rw[if_neg q18]at hF
     have hF:=oc hF;obtain⟨c20,hF⟩:=hF
     have w21:IntKind.i64.wrap ((i:Int)+1)=(i:Int)+1:=wrap_in (by omega) (by omega)
     repeat(first|refine chk.ga ?_|simp -dsimp[h11,z13,h14,q15,z16,h17,q18,z19,w21])
     refine Again.go _ ?_ ((ih_f91 (i+1) o hF) _ rfl _ hq)
     exact(Gh.to3 (by simp) (by first|simp -dsimp[h11,z13,h14,q15,z16,h17,q18,z19,w21];done|simp_all))
   ·have q15:(byteAt s i<97):=auq h14
    have z16:(((byteAt s i:Nat):Int)<(97:Int)):=auz
    rw[if_pos q15]at hF
    cases hF
    repeat(first|refine chk.ga ?_|simp -dsimp[h11,z13,h14,q15,z16])
    refine Leave.go _ (Gh.refl _) (hq _ ?_)
    repeat(first|refine chk.ga ?_|simp -dsimp[h11,z13,h14,q15,z16])
  ·have q12:¬(i<s.size):=auq h11
   have z13:¬((i:Int)<(s.size:Int)):=auz
   rw[if_neg q12]at hF
   cases hF
   repeat(first|refine chk.ga ?_|simp -dsimp[h11,q12,z13])
   refine Leave.go ⟨[],[]⟩ (Gh.to3 (by simp) (by first|simp -dsimp[h11,q12,z13];done|simp_all)) ?_
   exact hq
theorem C.f92 (s:ByteArray)(r:Bool)(hF:F.f92 s=some r):PureCall Tryz.prog B 215 [.lit (.string s)] (.lit (.bool r)):=by
 unfold F.f92 at hF
 refine PureCall.enterLe Tryz.func215 (by kernel_rfl) rfl Tryz.ntmps215 (by simp) (by simp) ?_
 repeat(first|refine chk.ga ?_|simp -dsimp)
 have hF:=ob hF;obtain⟨v,e1,hF⟩:=hF
 refine((C.f90 B hB1 hB2 (s.size:Int) (1:Int) (5:Int) v e1)).goW (by simp) (by simp) ?_
 repeat(first|refine chk.ga ?_|simp -dsimp)
 refine abr.split (fun h2=> ?_) (fun h2=> ?_)
 ·have q3:(v=true):=auq h2
  rw[if_pos q3]at hF
  have hF:=oc hF;obtain⟨c4,hF⟩:=hF
  repeat(first|refine chk.ga ?_|simp -dsimp[h2])
  refine abr.split (fun h5=> ?_) (fun h5=> ?_)
  ·have q6:¬(byteAt s 0<65):=auq h5
   have z7:¬(((byteAt s 0:Nat):Int)<(65:Int)):=auz
   rw[if_neg q6]at hF
   repeat(first|refine chk.ga ?_|simp -dsimp[h2,h5,q6,z7])
   refine abr.split (fun h8=> ?_) (fun h8=> ?_)
   ·have q9:(90<byteAt s 0):=auq h8
    have z10:((90:Int)<((byteAt s 0:Nat):Int)):=auz
    rw[if_pos q9]at hF
    cases hF
    repeat(first|refine chk.ga ?_|simp -dsimp[h2,h5,q6,z7,h8,z10])
    all_goals(try first|omega|rfl)
   ·have q9:¬(90<byteAt s 0):=auq h8
    have z10:¬((90:Int)<((byteAt s 0:Nat):Int)):=auz
    rw[if_neg q9]at hF
    repeat(first|refine chk.ga ?_|simp -dsimp[h2,h5,q6,z7,h8,q9,z10])
    have hF:=ob hF;obtain⟨o',ho22,hF⟩:=hF
    refine ALoop.goU _ ?_ (((CC.f91 B hB1 hB2 s) 1 o' ho22) _ rfl _ ?_)
    ·exact(Gh.to3 (by simp) (by first|simp -dsimp[h2,h5,q6,z7,h8,q9,z10];done|simp_all))
    rcases o' with r0|sx
    ·dsimp only at hF
     cases hF
     intro st h
     simpa using h
    ·dsimp only at hF
     cases hF
     repeat(first|refine chk.ga ?_|simp -dsimp)
     all_goals(try first|omega|rfl)
  ·have q6:(byteAt s 0<65):=auq h5
   have z7:(((byteAt s 0:Nat):Int)<(65:Int)):=auz
   rw[if_pos q6]at hF
   cases hF
   repeat(first|refine chk.ga ?_|simp -dsimp[h2,h5,q6,z7])
   all_goals(try first|omega|rfl)
 ·have q3:¬(v=true):=auq h2
  rw[if_neg q3]at hF
  cases hF
  repeat(first|refine chk.ga ?_|simp -dsimp[h2,q3])
  all_goals(try first|omega|rfl)
theorem C.f93 (w:List Vl.Data)(t:Vl.Ty)(r:Bool)(hF:F.f93 w t=some r):PureCall Tryz.prog B 218 [.arr (List.map Vl.Data.c w),.agg [.lit (.int .i64 t.data),.lit (.int .i64 t.index)]] (.lit (.bool r)):=by
 unfold F.f93 at hF
 refine PureCall.enterLe Tryz.func218 (by kernel_rfl) rfl Tryz.ntmps218 (by simp) (by simp) ?_
 repeat(first|refine chk.ga ?_|simp -dsimp)
 refine abr.split (fun h1=> ?_) (fun h1=> ?_)
 ·have q2:¬(dec (eq2 (t.data,t.index) ((-1),0))=true):=auq h1
  rw[if_neg q2]at hF
  repeat(first|refine chk.ga ?_|simp -dsimp[h1,q2])
  have hF:=ob hF;obtain⟨v,e3,hF⟩:=hF
  refine((C.f90 B hB1 hB2 t.data (0:Int) (IntKind.i64.wrap ((w.length:Int) -1)) v e3)).goW (by first|simp[h1,q2];done|simp_all) (by simp) ?_
  repeat(first|refine chk.ga ?_|simp -dsimp[h1,q2])
  refine abr.split (fun h4=> ?_) (fun h4=> ?_)
  ·have q5:(v=true):=auq h4
   rw[if_pos q5]at hF
   repeat(first|refine chk.ga ?_|simp -dsimp[h1,q2,h4])
   have hF:=ob hF;obtain⟨v6,e7,hF⟩:=hF
   refine((C.f90 B hB1 hB2 t.index (-1:Int) (3:Int) v6 e7)).goW (by first|simp[h1,q2,h4];done|simp_all) (by simp) ?_
   cases hF
   repeat(first|refine chk.ga ?_|simp -dsimp[h1,q2,h4])
   all_goals(try first|omega|rfl)
  ·have q5:¬(v=true):=auq h4
   rw[if_neg q5]at hF
   cases hF
   repeat(first|refine chk.ga ?_|simp -dsimp[h1,q2,h4,q5])
   all_goals(try first|omega|rfl)
 ·have q2:(dec (eq2 (t.data,t.index) ((-1),0))=true):=auq h1
  rw[if_pos q2]at hF
  cases hF
  repeat(first|refine chk.ga ?_|simp -dsimp[h1,q2])
  all_goals(try first|omega|rfl)
theorem C.f94 (t:Vl.Ty)(a1:List Vl.Data)(r:Bool)(hF:F.f94 t a1=some r):PureCall Tryz.prog B 217 [.agg [.lit (.int .i64 t.data),.lit (.int .i64 t.index)],.rptr [.arr (List.map Vl.Data.c a1)] 0] (.lit (.bool r)):=by
 unfold F.f94 at hF
 refine PureCall.enterLe Tryz.func217 (by kernel_rfl) rfl Tryz.ntmps217 (by simp) (by simp) ?_
 repeat(first|refine chk.ga ?_|simp -dsimp)
 have hF:=ob hF;obtain⟨v,e1,hF⟩:=hF
 refine((C.f93 B hB1 hB2 a1 t v e1)).goW (by simp) (by simp) ?_
 cases hF
 repeat(first|refine chk.ga ?_|simp -dsimp)
 all_goals(try first|omega|rfl)
theorem CC.f95 (s:List Vl.Ty)(k0:List Vl.Data):(∀(i:Nat) (o:Lo Int Unit),F.f95 s k0 i=some o→∀(c:Code),navO [1,0,1,0,0] (bodyOf Tryz.f224)=some c→∀(Q:Exit→ASt→Prop),o.post (fun r=>∀st,Post Tryz.prog Tryz.f224 (fun r' _=>r'.le (.lit (.int .i64 r))) .ret st→Q .ret st) (fun s=>Q (.exit 0) ⟨[],[]⟩)→ALoopU Tryz.prog B 0 19 (hold c .mk) ⟨[(0,.arr (List.map Vl.Ty.c s)),(1,.fn (.func 217) [] [.rptr [.arr (List.map Vl.Data.c k0)] 0]),(7,.lit (.int .i64 (s.length:Int))),(8,.lit (.int .i64 (i:Int)))],[]⟩ (hold Q .mk)):=by
 refine F.f95.partial_correctness s k0
  _
  ?_
 ·intro _f_f95 ih_f95 i o hF
  intro c hc Q hq
  obtain rfl:c=_:=navEq hc rfl
  refine ALoopU.know fun hk hs=> ?_
  have b0:=hk 0
  simp -dsimp at b0
  clear hk hs
  refine ALoopU.enter ?_
  repeat(first|refine chk.ga ?_|simp -dsimp)
  refine abr.split (fun h1=> ?_) (fun h1=> ?_)
  ·have q2:(i<s.length):=auq h1
   have z3:((i:Int)<(s.length:Int)):=auz
   rw[if_pos q2]at hF
   have hF:=ob hF;obtain⟨x,e4,hF⟩:=hF
   have le4:=lt_of_get e4
   repeat(first|refine chk.ga ?_|simp -dsimp[h1,z3,↓e4])
   have hF:=ob hF;obtain⟨v,e5,hF⟩:=hF
   refine((C.f94 B hB1 hB2 x k0 v e5)).goW (by first|simp[h1,z3,↓e4];done|simp_all) (by simp) ?_
   repeat(first|refine chk.ga ?_|simp -dsimp[h1,z3,↓e4])
   refine abr.split (fun h6=> ?_) (fun h6=> ?_)
   ·have q7:(v=true):=auq h6
    rw[if_pos q7]at hF
    cases hF
    repeat(first|refine chk.ga ?_|simp -dsimp[h1,z3,↓e4,h6])
    refine Leave.go _ (Gh.refl _) (hq _ ?_)
    repeat(first|refine chk.ga ?_|simp -dsimp[h1,z3,↓e4,h6])
   ·have q7:¬(v=true):=auq h6
    rw[if_neg q7]at hF
    have w8:IntKind.i64.wrap ((i:Int)+1)=(i:Int)+1:=wrap_in (by omega) (by omega)
    repeat(first|refine chk.ga ?_|simp -dsimp[h1,z3,↓e4,h6,q7,w8])
    refine Again.go _ ?_ ((ih_f95 (i+1) o hF) _ rfl _ hq)
    exact(Gh.to3 (by simp) (by first|simp -dsimp[h1,z3,↓e4,h6,q7,w8];done|simp_all))
  ·have q2:¬(i<s.length):=auq h1
   have z3:¬((i:Int)<(s.length:Int)):=auz
   rw[if_neg q2]at hF
   cases hF
   repeat(first|refine chk.ga ?_|simp -dsimp[h1,q2,z3])
   refine Leave.go ⟨[],[]⟩ (Gh.to3 (by simp) (by first|simp -dsimp[h1,q2,z3];done|simp_all)) ?_
   exact hq
theorem C.f96 (s:List Vl.Ty)(k0:List Vl.Data)(r:Int)(hF:F.f96 s k0=some r):PureCall Tryz.prog B 224 [.arr (List.map Vl.Ty.c s),.fn (.func 217) [] [.rptr [.arr (List.map Vl.Data.c k0)] 0]] (.lit (.int .i64 r)):=by
 unfold F.f96 at hF
 refine PureCall.enterLe Tryz.func224 (by kernel_rfl) rfl Tryz.ntmps224 (by simp) (by simp) ?_
 repeat(first|refine chk.ga ?_|simp -dsimp)
 have hF:=ob hF;obtain⟨o',ho9,hF⟩:=hF
 refine ALoop.goU _ ?_ (((CC.f95 B hB1 hB2 s k0) 0 o' ho9) _ rfl _ ?_)
 ·exact(Gh.to3 (by simp) (by simp -dsimp))
 rcases o' with r0|sx
 ·dsimp only at hF
  cases hF
  intro st h
  simpa using h
 ·dsimp only at hF
  cases hF
  repeat(first|refine chk.ga ?_|simp -dsimp)
  all_goals(try first|omega|rfl)
theorem C.f97 (s:List Vl.Ty)(k0:List Vl.Data)(r:Bool)(hF:F.f97 s k0=some r):PureCall Tryz.prog B 216 [.arr (List.map Vl.Ty.c s),.fn (.func 217) [] [.rptr [.arr (List.map Vl.Data.c k0)] 0]] (.lit (.bool r)):=by
 unfold F.f97 at hF
 refine PureCall.enterLe Tryz.func216 (by kernel_rfl) rfl Tryz.ntmps216 (by simp) (by simp) ?_
 repeat(first|refine chk.ga ?_|simp -dsimp)
 have hF:=ob hF;obtain⟨v,e1,hF⟩:=hF
 refine((C.f96 B hB1 hB2 s k0 v e1)).goW (by simp) (by simp) ?_
 cases hF
 repeat(first|refine chk.ga ?_|simp -dsimp)
 all_goals(try first|omega|rfl)
theorem C.f98 (w:List Vl.Data)(c':Vl.Ctor)(r:Bool)(hF:F.f98 w c'=some r):PureCall Tryz.prog B 198 [.arr (List.map Vl.Data.c w),.agg [.lit (.string c'.name),.arr (List.map Vl.Ty.c c'.args),.lit (.int .i64 c'.index)]] (.lit (.bool r)):=by
 unfold F.f98 at hF
 refine PureCall.enterLe Tryz.func198 (by kernel_rfl) rfl Tryz.ntmps198 (by simp) (by simp) ?_
 repeat(first|refine chk.ga ?_|simp -dsimp)
 have hF:=ob hF;obtain⟨v,e1,hF⟩:=hF
 refine((C.f92 B hB1 hB2 c'.name v e1)).goW (by simp) (by simp) ?_
 repeat(first|refine chk.ga ?_|simp -dsimp)
 refine abr.split (fun h2=> ?_) (fun h2=> ?_)
 ·have q3:(v=true):=auq h2
  rw[if_pos q3]at hF
  repeat(first|refine chk.ga ?_|simp -dsimp[h2])
  refine abr.split (fun h4=> ?_) (fun h4=> ?_)
  ·have q5:(c'.args.length≤3):=auq h4
   have z6:((c'.args.length:Int)≤(3:Int)):=auz
   rw[if_pos q5]at hF
   repeat(first|refine chk.ga ?_|simp -dsimp[h2,h4,z6])
   have hF:=ob hF;obtain⟨v7,e8,hF⟩:=hF
   refine((C.f90 B hB1 hB2 c'.index (0:Int) (3:Int) v7 e8)).goW (by first|simp[h2,h4,z6];done|simp_all) (by simp) ?_
   repeat(first|refine chk.ga ?_|simp -dsimp[h2,h4,z6])
   refine abr.split (fun h9=> ?_) (fun h9=> ?_)
   ·have q10:(v7=true):=auq h9
    rw[if_pos q10]at hF
    repeat(first|refine chk.ga ?_|simp -dsimp[h2,h4,z6,h9])
    have hF:=ob hF;obtain⟨v11,e12,hF⟩:=hF
    refine((C.f97 B hB1 hB2 c'.args w v11 e12)).lend (by first|simp -dsimp[h2,h4,z6,h9];done|simp_all) (by simp -dsimp) ?_
    cases hF
    repeat(first|refine chk.ga ?_|simp -dsimp[h2,h4,z6,h9])
    all_goals(try first|omega|rfl)
   ·have q10:¬(v7=true):=auq h9
    rw[if_neg q10]at hF
    cases hF
    repeat(first|refine chk.ga ?_|simp -dsimp[h2,h4,z6,h9,q10])
    all_goals(try first|omega|rfl)
  ·have q5:¬(c'.args.length≤3):=auq h4
   have z6:¬((c'.args.length:Int)≤(3:Int)):=auz
   rw[if_neg q5]at hF
   cases hF
   repeat(first|refine chk.ga ?_|simp -dsimp[h2,h4,q5,z6])
   all_goals(try first|omega|rfl)
 ·have q3:¬(v=true):=auq h2
  rw[if_neg q3]at hF
  cases hF
  repeat(first|refine chk.ga ?_|simp -dsimp[h2,q3])
  all_goals(try first|omega|rfl)
theorem CC.f99 (w:List Vl.Data)(met4:List ByteArray)(i:Nat)(x:Vl.Data):(∀(met26:List ByteArray) (i27:Nat) (o:Lo Bool (List ByteArray)),F.f99 w met4 i x met26 i27=some o→∀(b1 b2:Nat),¬b1=b2→∀(c:Code),navO [1,1,1,1,0,1,0,0,1,1,0,0,1,1,1,1,0,0] (bodyOf Tryz.f157)=some c→∀(Q:Exit→ASt→Ms→Prop),o.post (fun r=>∀st,Post Tryz.prog Tryz.f157 (fun r' _=>r'=(.lit (.bool r))) .ret st→∀ms,Q .ret st ms) (fun s=>Q (.exit 2) ⟨[(0,.arr (List.map Vl.Data.c w)),(3,.lit (.map (some b1))),(4,.lit (.map (some b2))),(14,.arr (List.map Vl.Data.c w)),(15,.lit (.int .i64 (w.length:Int))),(16,.lit (.int .i64 (i:Int)))],[]⟩ [(b1,s),(b2,msIns met4 x.name)])→MLoop Tryz.prog B 79 (hold c .mk) ⟨[(0,.arr (List.map Vl.Data.c w)),(3,.lit (.map (some b1))),(4,.lit (.map (some b2))),(14,.arr (List.map Vl.Data.c w)),(15,.lit (.int .i64 (w.length:Int))),(16,.lit (.int .i64 (i:Int))),(58,.arr (List.map Vl.Ctor.c x.ctors)),(59,.lit (.int .i64 (x.ctors.length:Int))),(60,.lit (.int .i64 (i27:Int)))],[]⟩ [(b1,met26),(b2,msIns met4 x.name)] (hold Q .mk)):=by
 refine F.f99.partial_correctness w met4 i x
  _
  ?_
 ·intro _f_f99 ih_f99 met26 i27 o hF
  intro b1 b2 hb2 c hc Q hq
  obtain rfl:c=_:=navEq hc rfl
  refine MLoop.know fun hk hs=> ?_
  have b0:=hk 0
  simp -dsimp at b0
  have b14:=hk 14
  simp -dsimp at b14
  have b58:=hk 58
  simp -dsimp at b58
  clear hk hs
  refine MLoop.enter ?_
  repeat(first|refine chk.ga ?_|simp -dsimp[hb2])
  refine abr.split (fun h28=> ?_) (fun h28=> ?_)
  ·have q29:(i27<x.ctors.length):=auq h28
   have z30:((i27:Int)<(x.ctors.length:Int)):=auz
   rw[if_pos q29]at hF
   have hF:=ob hF;obtain⟨x31,e32,hF⟩:=hF
   have le32:=lt_of_get e32
   repeat(first|refine chk.ga ?_|simp -dsimp[hb2,h28,z30,↓e32])
   have hF:=ob hF;obtain⟨v33,e34,hF⟩:=hF
   refine((C.f98 B hB1 hB2 w x31 v33 e34)).goW (by first|simp[hb2,h28,z30,↓e32];done|simp_all) (by simp) ?_
   repeat(first|refine chk.ga ?_|simp -dsimp[hb2,h28,z30,↓e32])
   refine abr.split (fun h35=> ?_) (fun h35=> ?_)
   ·have q36:(v33=true):=auq h35
    rw[if_pos q36]at hF
    repeat(first|refine chk.ga ?_|simp -dsimp[hb2,h28,z30,↓e32,h35])
    refine abr.split (fun h37=> ?_) (fun h37=> ?_)
    ·have q38:(dec (x31.name∈met26)=true):=auq h37
     rw[if_pos q38]at hF
     cases hF
     repeat(first|refine chk.ga ?_|simp -dsimp[hb2,h28,z30,↓e32,h35,h37])
     refine LeaveM.go _ (Gh.refl _) (hq _ ?_ _)
     repeat(first|refine chk.ga ?_|simp -dsimp[hb2,h28,z30,↓e32,h35,h37])
    ·have q38:¬(dec (x31.name∈met26)=true):=auq h37
     rw[if_neg q38]at hF
     have w39:IntKind.i64.wrap ((i27:Int)+1)=(i27:Int)+1:=wrap_in (by omega) (by omega)
     repeat(first|refine chk.ga ?_|simp -dsimp[hb2,h28,z30,↓e32,h35,h37,q38,w39])
     refine AgainM.go ⟨[(0,.arr (List.map Vl.Data.c w)),(3,.lit (.map (some b1))),(4,.lit (.map (some b2))),(14,.arr (List.map Vl.Data.c w)),(15,.lit (.int .i64 (w.length:Int))),(16,.lit (.int .i64 (i:Int))),(58,.arr (List.map Vl.Ctor.c x.ctors)),(59,.lit (.int .i64 (x.ctors.length:Int))),(60,.lit (.int .i64 ((i27+1):Int)))],[]⟩ (Gh.to3 (by simp) (by first|simp -dsimp[hb2,h28,z30,↓e32,h35,h37,q38,w39];done|simp_all)) ?_
     exact(ih_f99 (msIns met26 x31.name) (i27+1) o hF) b1 b2 hb2 _ rfl _ hq
   ·have q36:¬(v33=true):=auq h35
    rw[if_neg q36]at hF
    cases hF
    repeat(first|refine chk.ga ?_|simp -dsimp[hb2,h28,z30,↓e32,h35,q36])
    refine LeaveM.go _ (Gh.refl _) (hq _ ?_ _)
    repeat(first|refine chk.ga ?_|simp -dsimp[hb2,h28,z30,↓e32,h35,q36])
  ·have q29:¬(i27<x.ctors.length):=auq h28
   have z30:¬((i27:Int)<(x.ctors.length:Int)):=auz
   rw[if_neg q29]at hF
   cases hF
   repeat(first|refine chk.ga ?_|simp -dsimp[hb2,h28,q29,z30])
   refine LeaveM.go ⟨[(0,.arr (List.map Vl.Data.c w)),(3,.lit (.map (some b1))),(4,.lit (.map (some b2))),(14,.arr (List.map Vl.Data.c w)),(15,.lit (.int .i64 (w.length:Int))),(16,.lit (.int .i64 (i:Int)))],[]⟩ (Gh.to3 (by simp) (by first|simp -dsimp[hb2,h28,q29,z30];done|simp_all)) ?_
   exact hq
theorem CC.f100 (w:List Vl.Data):(∀(met:List ByteArray) (met4:List ByteArray) (i:Nat) (o:Lo Bool ((List ByteArray)×(List ByteArray))),F.f100 w met met4 i=some o→∀(b1 b2:Nat),¬b1=b2→∀(c:Code),navO [1,1,1,1,0,1,0,0] (bodyOf Tryz.f157)=some c→∀(Q:Exit→ASt→Ms→Prop),o.post (fun r=>∀st,Post Tryz.prog Tryz.f157 (fun r' _=>r'=(.lit (.bool r))) .ret st→∀ms,Q .ret st ms) (fun s=>Q (.exit 0) ⟨[],[]⟩ [(b1,s.1),(b2,s.2)])→MLoop Tryz.prog B 79 (hold c .mk) ⟨[(0,.arr (List.map Vl.Data.c w)),(3,.lit (.map (some b1))),(4,.lit (.map (some b2))),(14,.arr (List.map Vl.Data.c w)),(15,.lit (.int .i64 (w.length:Int))),(16,.lit (.int .i64 (i:Int)))],[]⟩ [(b1,met),(b2,met4)] (hold Q .mk)):=by
 refine F.f100.partial_correctness w
  _
  ?_
 ·intro _f_f100 ih_f100 met met4 i o hF
  intro b1 b2 hb2 c hc Q hq
  obtain rfl:c=_:=navEq hc rfl
  refine MLoop.know fun hk hs=> ?_
  have b0:=hk 0
  simp -dsimp at b0
  have b14:=hk 14
  simp -dsimp at b14
  clear hk hs
  refine MLoop.enter ?_
  repeat(first|refine chk.ga ?_|simp -dsimp[hb2])
  refine abr.split (fun h5=> ?_) (fun h5=> ?_)
  ·have q6:(i<w.length):=auq h5
   have z7:((i:Int)<(w.length:Int)):=auz
   rw[if_pos q6]at hF
   have hF:=ob hF;obtain⟨x,e8,hF⟩:=hF
   have le8:=lt_of_get e8
   repeat(first|refine chk.ga ?_|simp -dsimp[hb2,h5,z7,↓e8])
   refine abr.split (fun h9=> ?_) (fun h9=> ?_)
   ·have q10:(x.name.size=1):=auq h9
    have z11:((x.name.size:Int)=(1:Int)):=auz
    rw[if_pos q10]at hF
    have hF:=oc hF;obtain⟨c12,hF⟩:=hF
    repeat(first|refine chk.ga ?_|simp -dsimp[hb2,h5,z7,↓e8,h9,z11])
    refine abr.split (fun h13=> ?_) (fun h13=> ?_)
    ·have q14:¬(byteAt x.name 0<65):=auq h13
     have z15:¬(((byteAt x.name 0:Nat):Int)<(65:Int)):=auz
     rw[if_neg q14]at hF
     repeat(first|refine chk.ga ?_|simp -dsimp[hb2,h5,z7,↓e8,h9,z11,h13,q14,z15])
     refine abr.split (fun h16=> ?_) (fun h16=> ?_)
     ·have q17:¬(90<byteAt x.name 0):=auq h16
      have z18:¬((90:Int)<((byteAt x.name 0:Nat):Int)):=auz
      rw[if_neg q17]at hF
      repeat(first|refine chk.ga ?_|simp -dsimp[hb2,h5,z7,↓e8,h9,z11,h13,q14,z15,h16,q17,z18])
      refine abr.split (fun h19=> ?_) (fun h19=> ?_)
      ·have q20:¬(x.name.toList=(⟨#[73]⟩:ByteArray).toList):=auq h19
       rw[if_neg q20]at hF
       repeat(first|refine chk.ga ?_|simp -dsimp[hb2,h5,z7,↓e8,h9,z11,h13,q14,z15,h16,q17,z18,h19,q20])
       refine abr.split (fun h21=> ?_) (fun h21=> ?_)
       ·have q22:¬(dec (x.name∈met4)=true):=auq h21
        rw[if_neg q22]at hF
        repeat(first|refine chk.ga ?_|simp -dsimp[hb2,h5,z7,↓e8,h9,z11,h13,q14,z15,h16,q17,z18,h19,q20,h21,q22])
        have hF:=ob hF;obtain⟨v,e23,hF⟩:=hF
        refine((C.f90 B hB1 hB2 (x.ctors.length:Int) (1:Int) (4:Int) v e23)).goW (by first|simp[hb2,h5,z7,↓e8,h9,z11,h13,q14,z15,h16,q17,z18,h19,q20,h21,q22];done|simp_all) (by simp) ?_
        repeat(first|refine chk.ga ?_|simp -dsimp[hb2,h5,z7,↓e8,h9,z11,h13,q14,z15,h16,q17,z18,h19,q20,h21,q22])
        refine abr.split (fun h24=> ?_) (fun h24=> ?_)
        ·have q25:¬(v=true):=auq h24
         rw[if_neg q25]at hF
         cases hF
         repeat(first|refine chk.ga ?_|simp -dsimp[hb2,h5,z7,↓e8,h9,z11,h13,q14,z15,h16,q17,z18,h19,q20,h21,q22,h24,q25])
         refine LeaveM.go _ (Gh.refl _) (hq _ ?_ _)
         repeat(first|refine chk.ga ?_|simp -dsimp[hb2,h5,z7,↓e8,h9,z11,h13,q14,z15,h16,q17,z18,h19,q20,h21,q22,h24,q25])
        ·have q25:(v=true):=auq h24
         rw[if_pos q25]at hF
         repeat(first|refine chk.ga ?_|simp -dsimp[hb2,h5,z7,↓e8,h9,z11,h13,q14,z15,h16,q17,z18,h19,q20,h21,q22,h24,q25])
         have hF:=ob hF;obtain⟨o',ho40,hF⟩:=hF
         refine MLoop.goU ⟨[(0,.arr (List.map Vl.Data.c w)),(3,.lit (.map (some b1))),(4,.lit (.map (some b2))),(14,.arr (List.map Vl.Data.c w)),(15,.lit (.int .i64 (w.length:Int))),(16,.lit (.int .i64 (i:Int))),(58,.arr (List.map Vl.Ctor.c x.ctors)),(59,.lit (.int .i64 (x.ctors.length:Int))),(60,.lit (.int .i64 (0:Int)))],[]⟩ (Gh.to3 (by simp) (by first|simp -dsimp[hb2,h5,z7,↓e8,h9,z11,h13,q14,z15,h16,q17,z18,h19,q20,h21,q22,h24,q25];done|simp_all)) ?_
         refine((CC.f99 B hB1 hB2 w met4 i x) met 0 o' ho40) b1 b2 hb2 _ rfl _ ?_
         rcases o' with r0|sx
         ·dsimp only at hF
          cases hF
          intro st h ms
          simp -dsimp
          refine LeaveM.go st (Gh.refl _) (hq st h ms)
         ·dsimp only at hF
          have hF:=oc hF;obtain⟨c41,hF⟩:=hF
          have w42:IntKind.i64.wrap ((i:Int)+1)=(i:Int)+1:=wrap_in (by omega) (by omega)
          repeat(first|refine chk.ga ?_|simp -dsimp[w42])
          refine AgainM.go ⟨[(0,.arr (List.map Vl.Data.c w)),(3,.lit (.map (some b1))),(4,.lit (.map (some b2))),(14,.arr (List.map Vl.Data.c w)),(15,.lit (.int .i64 (w.length:Int))),(16,.lit (.int .i64 ((i+1):Int)))],[]⟩ (Gh.to3 (by simp) (by first|simp -dsimp[w42];done|simp_all)) ?_
          exact(ih_f100 sx (msIns met4 x.name) (i+1) o hF) b1 b2 hb2 _ rfl _ hq
       ·have q22:(dec (x.name∈met4)=true):=auq h21
        rw[if_pos q22]at hF
        cases hF
        repeat(first|refine chk.ga ?_|simp -dsimp[hb2,h5,z7,↓e8,h9,z11,h13,q14,z15,h16,q17,z18,h19,q20,h21,q22])
        refine LeaveM.go _ (Gh.refl _) (hq _ ?_ _)
        repeat(first|refine chk.ga ?_|simp -dsimp[hb2,h5,z7,↓e8,h9,z11,h13,q14,z15,h16,q17,z18,h19,q20,h21,q22])
      ·have q20:(x.name.toList=(⟨#[73]⟩:ByteArray).toList):=auq h19
       rw[if_pos q20]at hF
       cases hF
       repeat(first|refine chk.ga ?_|simp -dsimp[hb2,h5,z7,↓e8,h9,z11,h13,q14,z15,h16,q17,z18,h19,q20])
       refine LeaveM.go _ (Gh.refl _) (hq _ ?_ _)
       repeat(first|refine chk.ga ?_|simp -dsimp[hb2,h5,z7,↓e8,h9,z11,h13,q14,z15,h16,q17,z18,h19,q20])
     ·have q17:(90<byteAt x.name 0):=auq h16
      have z18:((90:Int)<((byteAt x.name 0:Nat):Int)):=auz
      rw[if_pos q17]at hF
      cases hF
      repeat(first|refine chk.ga ?_|simp -dsimp[hb2,h5,z7,↓e8,h9,z11,h13,q14,z15,h16,q17,z18])
      refine LeaveM.go _ (Gh.refl _) (hq _ ?_ _)
      repeat(first|refine chk.ga ?_|simp -dsimp[hb2,h5,z7,↓e8,h9,z11,h13,q14,z15,h16,q17,z18])
    ·have q14:(byteAt x.name 0<65):=auq h13
     have z15:(((byteAt x.name 0:Nat):Int)<(65:Int)):=auz
     rw[if_pos q14]at hF
     cases hF
     repeat(first|refine chk.ga ?_|simp -dsimp[hb2,h5,z7,↓e8,h9,z11,h13,q14,z15])
     refine LeaveM.go _ (Gh.refl _) (hq _ ?_ _)
     repeat(first|refine chk.ga ?_|simp -dsimp[hb2,h5,z7,↓e8,h9,z11,h13,q14,z15])
   ·have q10:¬(x.name.size=1):=auq h9
    have z11:¬((x.name.size:Int)=(1:Int)):=auz
    rw[if_neg q10]at hF
    cases hF
    repeat(first|refine chk.ga ?_|simp -dsimp[hb2,h5,z7,↓e8,h9,q10,z11])
    refine LeaveM.go _ (Gh.refl _) (hq _ ?_ _)
    repeat(first|refine chk.ga ?_|simp -dsimp[hb2,h5,z7,↓e8,h9,q10,z11])
  ·have q6:¬(i<w.length):=auq h5
   have z7:¬((i:Int)<(w.length:Int)):=auz
   rw[if_neg q6]at hF
   cases hF
   repeat(first|refine chk.ga ?_|simp -dsimp[hb2,h5,q6,z7])
   refine LeaveM.go ⟨[],[]⟩ (Gh.to3 (by simp) (by first|simp -dsimp[hb2,h5,q6,z7];done|simp_all)) ?_
   exact hq
theorem C.f101 (w:List Vl.Data)(r:Bool)(hF:F.f101 w=some r):PureCall Tryz.prog B 157 [.arr (List.map Vl.Data.c w)] (.lit (.bool r)):=by
 unfold F.f101 at hF
 refine PureCall.enterM Tryz.func157 (by kernel_rfl) rfl Tryz.ntmps157 (by simp) ?_
 repeat(first|refine chk.ga ?_|simp -dsimp)
 refine abr.split (fun h1=> ?_) (fun h1=> ?_)
 ·have q2:(4<w.length):=auq h1
  have z3:((4:Int)<(w.length:Int)):=auz
  rw[if_pos q2]at hF
  cases hF
  repeat(first|refine chk.ga ?_|simp -dsimp[h1,z3])
  all_goals(try first|omega|rfl)
 ·have q2:¬(4<w.length):=auq h1
  have z3:¬((4:Int)<(w.length:Int)):=auz
  rw[if_neg q2]at hF
  repeat(first|refine chk.ga ?_|simp -dsimp[h1,q2,z3])
  refine AMake.go fun b1 hb1=> ?_
  repeat(first|refine chk.ga ?_|simp -dsimp[h1,q2,z3])
  refine AMake.go fun b2 hb2=> ?_
  simp at hb2
  repeat(first|refine chk.ga ?_|simp -dsimp[h1,q2,z3,hb2])
  have hF:=ob hF;obtain⟨o'44,ho43,hF⟩:=hF
  refine MLoop.goU ⟨[(0,.arr (List.map Vl.Data.c w)),(3,.lit (.map (some b1))),(4,.lit (.map (some b2))),(14,.arr (List.map Vl.Data.c w)),(15,.lit (.int .i64 (w.length:Int))),(16,.lit (.int .i64 (0:Int)))],[]⟩ (Gh.to3 (by simp) (by first|simp -dsimp[h1,q2,z3,hb2];done|simp_all)) ?_
  refine((CC.f100 B hB1 hB2 w) [] [] 0 o'44 ho43) b1 b2 hb2 _ rfl _ ?_
  rcases o'44 with r046|sx45
  ·dsimp only at hF
   cases hF
   intro st h ms
   simpa using h
  ·dsimp only at hF
   cases hF
   repeat(first|refine chk.ga ?_|simp -dsimp)
   all_goals(try first|omega|rfl)
theorem C.f102 (w:List Vl.Data)(t:Vl.Ty)(r:Bool)(hF:F.f102 w t=some r):PureCall Tryz.prog B 158 [.arr (List.map Vl.Data.c w),.agg [.lit (.int .i64 t.data),.lit (.int .i64 t.index)]] (.lit (.bool r)):=by
 unfold F.f102 at hF
 refine PureCall.enterLe Tryz.func158 (by kernel_rfl) rfl Tryz.ntmps158 (by simp) (by simp) ?_
 repeat(first|refine chk.ga ?_|simp -dsimp)
 refine abr.split (fun h1=> ?_) (fun h1=> ?_)
 ·have q2:¬(dec (eq2 (t.data,t.index) ((-1),0))=true):=auq h1
  rw[if_neg q2]at hF
  repeat(first|refine chk.ga ?_|simp -dsimp[h1,q2])
  have hF:=ob hF;obtain⟨v,e3,hF⟩:=hF
  refine((C.f90 B hB1 hB2 t.data (0:Int) (IntKind.i64.wrap ((w.length:Int) -1)) v e3)).goW (by first|simp[h1,q2];done|simp_all) (by simp) ?_
  repeat(first|refine chk.ga ?_|simp -dsimp[h1,q2])
  refine abr.split (fun h4=> ?_) (fun h4=> ?_)
  ·have q5:(v=true):=auq h4
   rw[if_pos q5]at hF
   repeat(first|refine chk.ga ?_|simp -dsimp[h1,q2,h4])
   have hF:=ob hF;obtain⟨v6,e7,hF⟩:=hF
   refine((C.f90 B hB1 hB2 t.index (0:Int) (3:Int) v6 e7)).goW (by first|simp[h1,q2,h4];done|simp_all) (by simp) ?_
   cases hF
   repeat(first|refine chk.ga ?_|simp -dsimp[h1,q2,h4])
   all_goals(try first|omega|rfl)
  ·have q5:¬(v=true):=auq h4
   rw[if_neg q5]at hF
   cases hF
   repeat(first|refine chk.ga ?_|simp -dsimp[h1,q2,h4,q5])
   all_goals(try first|omega|rfl)
 ·have q2:(dec (eq2 (t.data,t.index) ((-1),0))=true):=auq h1
  rw[if_pos q2]at hF
  cases hF
  repeat(first|refine chk.ga ?_|simp -dsimp[h1,q2])
  all_goals(try first|omega|rfl)
theorem C.f103 (w:List Vl.Data)(t:Vl.Ty)(r:Bool)(hF:F.f103 w t=some r):PureCall Tryz.prog B 103 [.arr (List.map Vl.Data.c w),.agg [.lit (.int .i64 t.data),.lit (.int .i64 t.index)]] (.lit (.bool r)):=by
 unfold F.f103 at hF
 refine PureCall.enterLe Tryz.func103 (by kernel_rfl) rfl Tryz.ntmps103 (by simp) (by simp) ?_
 repeat(first|refine chk.ga ?_|simp -dsimp)
 have hF:=ob hF;obtain⟨v,e1,hF⟩:=hF
 refine((C.f101 B hB1 hB2 w v e1)).goW (by simp) (by simp) ?_
 repeat(first|refine chk.ga ?_|simp -dsimp)
 refine abr.split (fun h2=> ?_) (fun h2=> ?_)
 ·have q3:(v=true):=auq h2
  rw[if_pos q3]at hF
  repeat(first|refine chk.ga ?_|simp -dsimp[h2])
  have hF:=ob hF;obtain⟨v4,e5,hF⟩:=hF
  refine((C.f102 B hB1 hB2 w t v4 e5)).goW (by first|simp[h2];done|simp_all) (by simp) ?_
  cases hF
  repeat(first|refine chk.ga ?_|simp -dsimp[h2])
  all_goals(try first|omega|rfl)
 ·have q3:¬(v=true):=auq h2
  rw[if_neg q3]at hF
  cases hF
  repeat(first|refine chk.ga ?_|simp -dsimp[h2,q3])
  all_goals(try first|omega|rfl)
theorem C.f104 (p:Vl.Pattern)(ctor:Bool)(numbers:Bool)(variable':Bool)(kids:Int)(r:Bool)(hF:F.f104 p ctor numbers variable' kids=some r):PureCall Tryz.prog B 199 [.agg [.lit (.int .i64 p.op),.lit (.int .i64 p.ctor),.lit (.int .i64 p.n),.lit (.int .i64 p.m),.lit (.int .i64 p.var),.arr (List.map Vl.Pattern.c p.kids)],.lit (.bool ctor),.lit (.bool numbers),.lit (.bool variable'),.lit (.int .i64 kids)] (.lit (.bool r)):=by
 unfold F.f104 at hF
 refine PureCall.enterLe Tryz.func199 (by kernel_rfl) rfl Tryz.ntmps199 (by simp) (by simp) ?_
 repeat(first|refine chk.ga ?_|simp -dsimp)
 refine abr.split (fun h1=> ?_) (fun h1=> ?_)
 ·have q2:¬(ctor=true):=auq h1
  rw[if_neg q2]at hF
  repeat(first|refine chk.ga ?_|simp -dsimp[h1,q2])
  refine abr.split (fun h3=> ?_) (fun h3=> ?_)
  ·have q4:(p.ctor=0):=auq h3
   rw[if_pos q4]at hF
   repeat(first|refine chk.ga ?_|simp -dsimp[h1,q2,h3])
   refine abr.split (fun h5=> ?_) (fun h5=> ?_)
   ·have q6:¬(numbers=true):=auq h5
    rw[if_neg q6]at hF
    repeat(first|refine chk.ga ?_|simp -dsimp[h1,q2,h3,h5,q6])
    refine abr.split (fun h7=> ?_) (fun h7=> ?_)
    ·have q8:(p.n=0):=auq h7
     rw[if_pos q8]at hF
     repeat(first|refine chk.ga ?_|simp -dsimp[h1,q2,h3,h5,q6,h7])
     refine abr.split (fun h9=> ?_) (fun h9=> ?_)
     ·have q10:(p.m=0):=auq h9
      rw[if_pos q10]at hF
      repeat(first|refine chk.ga ?_|simp -dsimp[h1,q2,h3,h5,q6,h7,h9])
      refine abr.split (fun h11=> ?_) (fun h11=> ?_)
      ·have q12:¬(variable'=true):=auq h11
       rw[if_neg q12]at hF
       repeat(first|refine chk.ga ?_|simp -dsimp[h1,q2,h3,h5,q6,h7,h9,h11,q12])
       refine abr.split (fun h13=> ?_) (fun h13=> ?_)
       ·have q14:(p.var=0):=auq h13
        rw[if_pos q14]at hF
        cases hF
        repeat(first|refine chk.ga ?_|simp -dsimp[h1,q2,h3,h5,q6,h7,h9,h11,q12,h13])
        all_goals(try first|omega|rfl)
       ·have q14:¬(p.var=0):=auq h13
        rw[if_neg q14]at hF
        cases hF
        repeat(first|refine chk.ga ?_|simp -dsimp[h1,q2,h3,h5,q6,h7,h9,h11,q12,h13,q14])
        all_goals(try first|omega|rfl)
      ·have q12:(variable'=true):=auq h11
       rw[if_pos q12]at hF
       cases hF
       repeat(first|refine chk.ga ?_|simp -dsimp[h1,q2,h3,h5,q6,h7,h9,h11,q12])
       all_goals(try first|omega|rfl)
     ·have q10:¬(p.m=0):=auq h9
      rw[if_neg q10]at hF
      cases hF
      repeat(first|refine chk.ga ?_|simp -dsimp[h1,q2,h3,h5,q6,h7,h9,q10])
      all_goals(try first|omega|rfl)
    ·have q8:¬(p.n=0):=auq h7
     rw[if_neg q8]at hF
     cases hF
     repeat(first|refine chk.ga ?_|simp -dsimp[h1,q2,h3,h5,q6,h7,q8])
     all_goals(try first|omega|rfl)
   ·have q6:(numbers=true):=auq h5
    rw[if_pos q6]at hF
    repeat(first|refine chk.ga ?_|simp -dsimp[h1,q2,h3,h5,q6])
    refine abr.split (fun h15=> ?_) (fun h15=> ?_)
    ·have q16:¬(variable'=true):=auq h15
     rw[if_neg q16]at hF
     repeat(first|refine chk.ga ?_|simp -dsimp[h1,q2,h3,h5,q6,h15,q16])
     refine abr.split (fun h17=> ?_) (fun h17=> ?_)
     ·have q18:(p.var=0):=auq h17
      rw[if_pos q18]at hF
      cases hF
      repeat(first|refine chk.ga ?_|simp -dsimp[h1,q2,h3,h5,q6,h15,q16,h17])
      all_goals(try first|omega|rfl)
     ·have q18:¬(p.var=0):=auq h17
      rw[if_neg q18]at hF
      cases hF
      repeat(first|refine chk.ga ?_|simp -dsimp[h1,q2,h3,h5,q6,h15,q16,h17,q18])
      all_goals(try first|omega|rfl)
    ·have q16:(variable'=true):=auq h15
     rw[if_pos q16]at hF
     cases hF
     repeat(first|refine chk.ga ?_|simp -dsimp[h1,q2,h3,h5,q6,h15,q16])
     all_goals(try first|omega|rfl)
  ·have q4:¬(p.ctor=0):=auq h3
   rw[if_neg q4]at hF
   cases hF
   repeat(first|refine chk.ga ?_|simp -dsimp[h1,q2,h3,q4])
   all_goals(try first|omega|rfl)
 ·have q2:(ctor=true):=auq h1
  rw[if_pos q2]at hF
  repeat(first|refine chk.ga ?_|simp -dsimp[h1,q2])
  refine abr.split (fun h19=> ?_) (fun h19=> ?_)
  ·have q20:¬(numbers=true):=auq h19
   rw[if_neg q20]at hF
   repeat(first|refine chk.ga ?_|simp -dsimp[h1,q2,h19,q20])
   refine abr.split (fun h21=> ?_) (fun h21=> ?_)
   ·have q22:(p.n=0):=auq h21
    rw[if_pos q22]at hF
    repeat(first|refine chk.ga ?_|simp -dsimp[h1,q2,h19,q20,h21])
    refine abr.split (fun h23=> ?_) (fun h23=> ?_)
    ·have q24:(p.m=0):=auq h23
     rw[if_pos q24]at hF
     repeat(first|refine chk.ga ?_|simp -dsimp[h1,q2,h19,q20,h21,h23])
     refine abr.split (fun h25=> ?_) (fun h25=> ?_)
     ·have q26:¬(variable'=true):=auq h25
      rw[if_neg q26]at hF
      repeat(first|refine chk.ga ?_|simp -dsimp[h1,q2,h19,q20,h21,h23,h25,q26])
      refine abr.split (fun h27=> ?_) (fun h27=> ?_)
      ·have q28:(p.var=0):=auq h27
       rw[if_pos q28]at hF
       cases hF
       repeat(first|refine chk.ga ?_|simp -dsimp[h1,q2,h19,q20,h21,h23,h25,q26,h27])
       all_goals(try first|omega|rfl)
      ·have q28:¬(p.var=0):=auq h27
       rw[if_neg q28]at hF
       cases hF
       repeat(first|refine chk.ga ?_|simp -dsimp[h1,q2,h19,q20,h21,h23,h25,q26,h27,q28])
       all_goals(try first|omega|rfl)
     ·have q26:(variable'=true):=auq h25
      rw[if_pos q26]at hF
      cases hF
      repeat(first|refine chk.ga ?_|simp -dsimp[h1,q2,h19,q20,h21,h23,h25,q26])
      all_goals(try first|omega|rfl)
    ·have q24:¬(p.m=0):=auq h23
     rw[if_neg q24]at hF
     cases hF
     repeat(first|refine chk.ga ?_|simp -dsimp[h1,q2,h19,q20,h21,h23,q24])
     all_goals(try first|omega|rfl)
   ·have q22:¬(p.n=0):=auq h21
    rw[if_neg q22]at hF
    cases hF
    repeat(first|refine chk.ga ?_|simp -dsimp[h1,q2,h19,q20,h21,q22])
    all_goals(try first|omega|rfl)
  ·have q20:(numbers=true):=auq h19
   rw[if_pos q20]at hF
   repeat(first|refine chk.ga ?_|simp -dsimp[h1,q2,h19,q20])
   refine abr.split (fun h29=> ?_) (fun h29=> ?_)
   ·have q30:¬(variable'=true):=auq h29
    rw[if_neg q30]at hF
    repeat(first|refine chk.ga ?_|simp -dsimp[h1,q2,h19,q20,h29,q30])
    refine abr.split (fun h31=> ?_) (fun h31=> ?_)
    ·have q32:(p.var=0):=auq h31
     rw[if_pos q32]at hF
     cases hF
     repeat(first|refine chk.ga ?_|simp -dsimp[h1,q2,h19,q20,h29,q30,h31])
     all_goals(try first|omega|rfl)
    ·have q32:¬(p.var=0):=auq h31
     rw[if_neg q32]at hF
     cases hF
     repeat(first|refine chk.ga ?_|simp -dsimp[h1,q2,h19,q20,h29,q30,h31,q32])
     all_goals(try first|omega|rfl)
   ·have q30:(variable'=true):=auq h29
    rw[if_pos q30]at hF
    cases hF
    repeat(first|refine chk.ga ?_|simp -dsimp[h1,q2,h19,q20,h29,q30])
    all_goals(try first|omega|rfl)
theorem C.f105 (v:Int)(r:Bool)(hF:F.f105 v=some r):PureCall Tryz.prog B 200 [.lit (.int .i64 v)] (.lit (.bool r)):=by
 unfold F.f105 at hF
 refine PureCall.enterLe Tryz.func200 (by kernel_rfl) rfl Tryz.ntmps200 (by simp) (by simp) ?_
 repeat(first|refine chk.ga ?_|simp -dsimp)
 have hF:=ob hF;obtain⟨v1,e2,hF⟩:=hF
 refine((C.f90 B hB1 hB2 v (0:Int) (5:Int) v1 e2)).goW (by simp) (by simp) ?_
 cases hF
 repeat(first|refine chk.ga ?_|simp -dsimp)
 all_goals(try first|omega|rfl)
theorem CC.f106 (t:Vl.Ty)(x:Vl.Data):(∀(i:Nat) (out:List Int) (o:List Int),F.f106 t x i out=some o→∀(c:Code),navO [1,1,0,1,0,1,0,0] (bodyOf Tryz.f107)=some c→∀(Q:Exit→ASt→Prop),(Q (.exit 0) ⟨[(5,.own 1 (List.length (α:=Int) o))],[.dead,.elems 1 (List.map cI o)]⟩)→ALoopU Tryz.prog B 0 44 (hold c .mk) ⟨[(3,.ptr 0 0),(5,.own 1 (List.length (α:=Int) out)),(16,.arr (List.map Vl.Ctor.c x.ctors)),(17,.lit (.int .i64 (x.ctors.length:Int))),(18,.lit (.int .i64 (i:Int)))],[.cells [.lit (.int .i64 t.data),.lit (.int .i64 t.index)],.elems 1 (List.map cI out)]⟩ (hold Q .mk)):=by
 refine F.f106.partial_correctness t x
  _
  ?_
 ·intro _f_f106 ih_f106 i out o hF
  intro c hc Q hq
  obtain rfl:c=_:=navEq hc rfl
  refine ALoopU.know fun hk hs=> ?_
  have b16:=hk 16
  simp -dsimp at b16
  have d1:=hs 1 _ rfl
  simp -dsimp[Blk.bnd]at d1
  clear hk hs
  refine ALoopU.enter ?_
  repeat(first|refine chk.ga ?_|simp -dsimp)
  refine abr.split (fun h4=> ?_) (fun h4=> ?_)
  ·have q5:(i<x.ctors.length):=auq h4
   have z6:((i:Int)<(x.ctors.length:Int)):=auz
   rw[if_pos q5]at hF
   have hF:=ob hF;obtain⟨x7,e8,hF⟩:=hF
   have le8:=lt_of_get e8
   repeat(first|refine chk.ga ?_|simp -dsimp[h4,z6,↓e8])
   refine abr.split (fun h9=> ?_) (fun h9=> ?_)
   ·have q10:¬(t.index=0):=auq h9
    rw[if_neg q10]at hF
    repeat(first|refine chk.ga ?_|simp -dsimp[h4,z6,↓e8,h9,q10])
    refine abr.split (fun h11=> ?_) (fun h11=> ?_)
    ·have q12:¬(x7.index=0):=auq h11
     rw[if_neg q12]at hF
     repeat(first|refine chk.ga ?_|simp -dsimp[h4,z6,↓e8,h9,q10,h11,q12])
     refine abr.split (fun h13=> ?_) (fun h13=> ?_)
     ·have q14:(x7.index=t.index):=auq h13
      rw[if_pos q14]at hF
      have hF:=oc hF;obtain⟨c15,hF⟩:=hF
      have w16:IntKind.i64.wrap ((i:Int)+1)=(i:Int)+1:=wrap_in (by omega) (by omega)
      repeat(first|refine chk.ga ?_|simp -dsimp[h4,z6,↓e8,h9,q10,h11,q12,h13,w16])
      refine Again.go _ ?_ ((ih_f106 (i+1) (out++[(i:Int)]) o hF) _ rfl _ hq)
      exact(Gh.to3 (by simp) (by first|simp -dsimp[h4,z6,↓e8,h9,q10,h11,q12,h13,w16];done|simp_all))
     ·have q14:¬(x7.index=t.index):=auq h13
      rw[if_neg q14]at hF
      have w17:IntKind.i64.wrap ((i:Int)+1)=(i:Int)+1:=wrap_in (by omega) (by omega)
      repeat(first|refine chk.ga ?_|simp -dsimp[h4,z6,↓e8,h9,q10,h11,q12,h13,q14,w17])
      refine Again.go _ ?_ ((ih_f106 (i+1) out o hF) _ rfl _ hq)
      exact(Gh.to3 (by simp) (by first|simp -dsimp[h4,z6,↓e8,h9,q10,h11,q12,h13,q14,w17];done|simp_all))
    ·have q12:(x7.index=0):=auq h11
     rw[if_pos q12]at hF
     have hF:=oc hF;obtain⟨c18,hF⟩:=hF
     have w19:IntKind.i64.wrap ((i:Int)+1)=(i:Int)+1:=wrap_in (by omega) (by omega)
     repeat(first|refine chk.ga ?_|simp -dsimp[h4,z6,↓e8,h9,q10,h11,q12,w19])
     refine Again.go _ ?_ ((ih_f106 (i+1) (out++[(i:Int)]) o hF) _ rfl _ hq)
     exact(Gh.to3 (by simp) (by first|simp -dsimp[h4,z6,↓e8,h9,q10,h11,q12,w19];done|simp_all))
   ·have q10:(t.index=0):=auq h9
    rw[if_pos q10]at hF
    have hF:=oc hF;obtain⟨c20,hF⟩:=hF
    have w21:IntKind.i64.wrap ((i:Int)+1)=(i:Int)+1:=wrap_in (by omega) (by omega)
    repeat(first|refine chk.ga ?_|simp -dsimp[h4,z6,↓e8,h9,q10,w21])
    refine Again.go _ ?_ ((ih_f106 (i+1) (out++[(i:Int)]) o hF) _ rfl _ hq)
    exact(Gh.to3 (by simp) (by first|simp -dsimp[h4,z6,↓e8,h9,q10,w21];done|simp_all))
  ·have q5:¬(i<x.ctors.length):=auq h4
   have z6:¬((i:Int)<(x.ctors.length:Int)):=auz
   rw[if_neg q5]at hF
   cases hF
   repeat(first|refine chk.ga ?_|simp -dsimp[h4,q5,z6])
   refine Leave.go ⟨[(5,.own 1 (List.length (α:=Int) out))],[.dead,.elems 1 (List.map cI out)]⟩ (Gh.to3 (by simp) (by first|simp -dsimp[h4,q5,z6];done|simp_all)) ?_
   exact hq
theorem C.f107 (w:List Vl.Data)(t:Vl.Ty)(r:List Int)(hF:F.f107 w t=some r):PureCall Tryz.prog B 107 [.arr (List.map Vl.Data.c w),.agg [.lit (.int .i64 t.data),.lit (.int .i64 t.index)]] (.arr (List.map cI r)):=by
 unfold F.f107 at hF
 refine PureCall.enterLe Tryz.func107 (by kernel_rfl) rfl Tryz.ntmps107 (by simp) (by simp) ?_
 repeat(first|refine chk.ga ?_|simp -dsimp)
 refine abr.split (fun h1=> ?_) (fun h1=> ?_)
 ·have q2:¬(t.data=(-1)):=auq h1
  rw[if_neg q2]at hF
  have hF:=ob hF;obtain⟨x,e3a,hF⟩:=hF
  have e3a:=at_some e3a;obtain⟨ne3,e3⟩:=e3a
  have le3:=lt_of_get e3
  repeat(first|refine chk.ga ?_|simp -dsimp[h1,q2,↓e3])
  have hF:=ob hF;obtain⟨o',ho22,hF⟩:=hF
  refine ALoop.goU ⟨[(3,.ptr 0 0),(5,.own 1 (List.length (α:=Int) [])),(16,.arr (List.map Vl.Ctor.c x.ctors)),(17,.lit (.int .i64 (x.ctors.length:Int))),(18,.lit (.int .i64 (0:Int)))],[.cells [.lit (.int .i64 t.data),.lit (.int .i64 t.index)],.elems 1 (List.map cI [])]⟩ (by refine Gh.trans (Gh.nil 5 1 (by simp -dsimp)) ?_;exact(Gh.to3 (by simp) (by first|simp -dsimp[h1,q2,↓e3];done|simp_all))) ?_
  refine((CC.f106 B hB1 hB2 t x) 0 [] o' ho22) _ rfl _ ?_
  cases hF
  repeat(first|refine chk.ga ?_|simp -dsimp)
  all_goals(try first|omega|rfl)
 ·have q2:(t.data=(-1)):=auq h1
  rw[if_pos q2]at hF
  cases hF
  repeat(first|refine chk.ga ?_|simp -dsimp[h1,q2])
  all_goals(try first|omega|rfl)
theorem CC.f108 (s:List Int)(v:Int):(∀(i:Nat) (o:Lo Int Unit),F.f108 s v i=some o→∀(c:Code),navO [1,0,1,0,0] (bodyOf Tryz.f207)=some c→∀(Q:Exit→ASt→Prop),o.post (fun r=>∀st,Post Tryz.prog Tryz.f207 (fun r' _=>r'.le (.lit (.int .i64 r))) .ret st→Q .ret st) (fun s=>Q (.exit 0) ⟨[],[]⟩)→ALoopU Tryz.prog B 0 19 (hold c .mk) ⟨[(0,.arr (List.map cI s)),(1,.lit (.int .i64 v)),(7,.lit (.int .i64 (s.length:Int))),(8,.lit (.int .i64 (i:Int)))],[]⟩ (hold Q .mk)):=by
 refine F.f108.partial_correctness s v
  _
  ?_
 ·intro _f_f108 ih_f108 i o hF
  intro c hc Q hq
  obtain rfl:c=_:=navEq hc rfl
  refine ALoopU.know fun hk hs=> ?_
  have b0:=hk 0
  simp -dsimp at b0
  clear hk hs
  refine ALoopU.enter ?_
  repeat(first|refine chk.ga ?_|simp -dsimp)
  refine abr.split (fun h1=> ?_) (fun h1=> ?_)
  ·have q2:(i<s.length):=auq h1
   have z3:((i:Int)<(s.length:Int)):=auz
   rw[if_pos q2]at hF
   have hF:=ob hF;obtain⟨x,e4,hF⟩:=hF
   have le4:=lt_of_get e4
   repeat(first|refine chk.ga ?_|simp -dsimp[h1,z3,↓e4])
   refine abr.split (fun h5=> ?_) (fun h5=> ?_)
   ·have q6:(v=x):=auq h5
    rw[if_pos q6]at hF
    cases hF
    repeat(first|refine chk.ga ?_|simp -dsimp[h1,z3,↓e4,h5])
    refine Leave.go _ (Gh.refl _) (hq _ ?_)
    repeat(first|refine chk.ga ?_|simp -dsimp[h1,z3,↓e4,h5])
   ·have q6:¬(v=x):=auq h5
    rw[if_neg q6]at hF
    have w7:IntKind.i64.wrap ((i:Int)+1)=(i:Int)+1:=wrap_in (by omega) (by omega)
    repeat(first|refine chk.ga ?_|simp -dsimp[h1,z3,↓e4,h5,q6,w7])
    refine Again.go _ ?_ ((ih_f108 (i+1) o hF) _ rfl _ hq)
    exact(Gh.to3 (by simp) (by first|simp -dsimp[h1,z3,↓e4,h5,q6,w7];done|simp_all))
  ·have q2:¬(i<s.length):=auq h1
   have z3:¬((i:Int)<(s.length:Int)):=auz
   rw[if_neg q2]at hF
   cases hF
   repeat(first|refine chk.ga ?_|simp -dsimp[h1,q2,z3])
   refine Leave.go ⟨[],[]⟩ (Gh.to3 (by simp) (by first|simp -dsimp[h1,q2,z3];done|simp_all)) ?_
   exact hq
theorem C.f109 (s:List Int)(v:Int)(r:Int)(hF:F.f109 s v=some r):PureCall Tryz.prog B 207 [.arr (List.map cI s),.lit (.int .i64 v)] (.lit (.int .i64 r)):=by
 unfold F.f109 at hF
 refine PureCall.enterLe Tryz.func207 (by kernel_rfl) rfl Tryz.ntmps207 (by simp) (by simp) ?_
 repeat(first|refine chk.ga ?_|simp -dsimp)
 have hF:=ob hF;obtain⟨o',ho8,hF⟩:=hF
 refine ALoop.goU _ ?_ (((CC.f108 B hB1 hB2 s v) 0 o' ho8) _ rfl _ ?_)
 ·exact(Gh.to3 (by simp) (by simp -dsimp))
 rcases o' with r0|sx
 ·dsimp only at hF
  cases hF
  intro st h
  simpa using h
 ·dsimp only at hF
  cases hF
  repeat(first|refine chk.ga ?_|simp -dsimp)
  all_goals(try first|omega|rfl)
theorem C.f110 (s:List Int)(v:Int)(r:Bool)(hF:F.f110 s v=some r):PureCall Tryz.prog B 176 [.arr (List.map cI s),.lit (.int .i64 v)] (.lit (.bool r)):=by
 unfold F.f110 at hF
 refine PureCall.enterLe Tryz.func176 (by kernel_rfl) rfl Tryz.ntmps176 (by simp) (by simp) ?_
 repeat(first|refine chk.ga ?_|simp -dsimp)
 have hF:=ob hF;obtain⟨v1,e2,hF⟩:=hF
 refine((C.f109 B hB1 hB2 s v v1 e2)).goW (by simp) (by simp) ?_
 cases hF
 repeat(first|refine chk.ga ?_|simp -dsimp)
 all_goals(try first|omega|rfl)
theorem CC.f111 (t:Vl.Ty)(x2:Vl.Ctor):(∀(i:Nat) (out:List Vl.Ty) (o:List Vl.Ty),F.f111 t x2 i out=some o→∀(c:Code),navO [1,1,1,1,1,0,1,0,0] (bodyOf Tryz.f131)=some c→∀(Q:Exit→ASt→Prop),(Q (.exit 0) ⟨[(9,.own 2 (List.length (α:=Vl.Ty) o))],[.dead,.dead,.elems 2 (List.map Vl.Ty.c o)]⟩)→ALoopU Tryz.prog B 0 45 (hold c .mk) ⟨[(8,.lit (.int .i64 t.index)),(9,.own 2 (List.length (α:=Vl.Ty) out)),(28,.arr (List.map Vl.Ty.c x2.args)),(29,.lit (.int .i64 (x2.args.length:Int))),(30,.lit (.int .i64 (i:Int)))],[.dead,.dead,.elems 2 (List.map Vl.Ty.c out)]⟩ (hold Q .mk)):=by
 refine F.f111.partial_correctness t x2
  _
  ?_
 ·intro _f_f111 ih_f111 i out o hF
  intro c hc Q hq
  obtain rfl:c=_:=navEq hc rfl
  refine ALoopU.know fun hk hs=> ?_
  have b28:=hk 28
  simp -dsimp at b28
  have d2:=hs 2 _ rfl
  simp -dsimp[Blk.bnd]at d2
  clear hk hs
  refine ALoopU.enter ?_
  repeat(first|refine chk.ga ?_|simp -dsimp)
  refine abr.split (fun h6=> ?_) (fun h6=> ?_)
  ·have q7:(i<x2.args.length):=auq h6
   have z8:((i:Int)<(x2.args.length:Int)):=auz
   rw[if_pos q7]at hF
   have hF:=ob hF;obtain⟨x9,e10,hF⟩:=hF
   have le10:=lt_of_get e10
   repeat(first|refine chk.ga ?_|simp -dsimp[h6,z8,↓e10])
   refine abr.split (fun h11=> ?_) (fun h11=> ?_)
   ·have q12:(x9.index=(-1)):=auq h11
    rw[if_pos q12]at hF
    have hF:=oc hF;obtain⟨c13,hF⟩:=hF
    have w14:IntKind.i64.wrap ((i:Int)+1)=(i:Int)+1:=wrap_in (by omega) (by omega)
    repeat(first|refine chk.ga ?_|simp -dsimp[h6,z8,↓e10,h11,w14])
    refine Again.go _ ?_ ((ih_f111 (i+1) (out++[(⟨x9.data,t.index⟩:Vl.Ty)]) o hF) _ rfl _ hq)
    exact(Gh.to3 (by simp) (by first|simp -dsimp[h6,z8,↓e10,h11,w14];done|simp_all))
   ·have q12:¬(x9.index=(-1)):=auq h11
    rw[if_neg q12]at hF
    have hF:=oc hF;obtain⟨c15,hF⟩:=hF
    have w16:IntKind.i64.wrap ((i:Int)+1)=(i:Int)+1:=wrap_in (by omega) (by omega)
    repeat(first|refine chk.ga ?_|simp -dsimp[h6,z8,↓e10,h11,q12,w16])
    refine Again.go _ ?_ ((ih_f111 (i+1) (out++[x9]) o hF) _ rfl _ hq)
    exact(Gh.to3 (by simp) (by first|simp -dsimp[h6,z8,↓e10,h11,q12,w16];done|simp_all))
  ·have q7:¬(i<x2.args.length):=auq h6
   have z8:¬((i:Int)<(x2.args.length:Int)):=auz
   rw[if_neg q7]at hF
   cases hF
   repeat(first|refine chk.ga ?_|simp -dsimp[h6,q7,z8])
   refine Leave.go ⟨[(9,.own 2 (List.length (α:=Vl.Ty) out))],[.dead,.dead,.elems 2 (List.map Vl.Ty.c out)]⟩ (Gh.to3 (by simp) (by first|simp -dsimp[h6,q7,z8];done|simp_all)) ?_
   exact hq
theorem CC.f112 (x2:Vl.Ctor):(∀(i18:Nat) (out19:List Vl.Ty) (o:List Vl.Ty),F.f112 x2 i18 out19=some o→∀(c:Code),navO [1,1,1,1,1,0,1,0,0] (bodyOf Tryz.f131)=some c→∀(Q:Exit→ASt→Prop),(Q (.exit 0) ⟨[(9,.own 2 (List.length (α:=Vl.Ty) o))],[.dead,.dead,.elems 2 (List.map Vl.Ty.c o)]⟩)→ALoopU Tryz.prog B 0 45 (hold c .mk) ⟨[(8,.lit (.int .i64 x2.index)),(9,.own 2 (List.length (α:=Vl.Ty) out19)),(28,.arr (List.map Vl.Ty.c x2.args)),(29,.lit (.int .i64 (x2.args.length:Int))),(30,.lit (.int .i64 (i18:Int)))],[.dead,.dead,.elems 2 (List.map Vl.Ty.c out19)]⟩ (hold Q .mk)):=by
 refine F.f112.partial_correctness x2
  _
  ?_
 ·intro _f_f112 ih_f112 i18 out19 o hF
  intro c hc Q hq
  obtain rfl:c=_:=navEq hc rfl
  refine ALoopU.know fun hk hs=> ?_
  have b28:=hk 28
  simp -dsimp at b28
  have d2:=hs 2 _ rfl
  simp -dsimp[Blk.bnd]at d2
  clear hk hs
  refine ALoopU.enter ?_
  repeat(first|refine chk.ga ?_|simp -dsimp)
  refine abr.split (fun h20=> ?_) (fun h20=> ?_)
  ·have q21:(i18<x2.args.length):=auq h20
   have z22:((i18:Int)<(x2.args.length:Int)):=auz
   rw[if_pos q21]at hF
   have hF:=ob hF;obtain⟨x23,e24,hF⟩:=hF
   have le24:=lt_of_get e24
   repeat(first|refine chk.ga ?_|simp -dsimp[h20,z22,↓e24])
   refine abr.split (fun h25=> ?_) (fun h25=> ?_)
   ·have q26:(x23.index=(-1)):=auq h25
    rw[if_pos q26]at hF
    have hF:=oc hF;obtain⟨c27,hF⟩:=hF
    have w28:IntKind.i64.wrap ((i18:Int)+1)=(i18:Int)+1:=wrap_in (by omega) (by omega)
    repeat(first|refine chk.ga ?_|simp -dsimp[h20,z22,↓e24,h25,w28])
    refine Again.go _ ?_ ((ih_f112 (i18+1) (out19++[(⟨x23.data,x2.index⟩:Vl.Ty)]) o hF) _ rfl _ hq)
    exact(Gh.to3 (by simp) (by first|simp -dsimp[h20,z22,↓e24,h25,w28];done|simp_all))
   ·have q26:¬(x23.index=(-1)):=auq h25
    rw[if_neg q26]at hF
    have hF:=oc hF;obtain⟨c29,hF⟩:=hF
    have w30:IntKind.i64.wrap ((i18:Int)+1)=(i18:Int)+1:=wrap_in (by omega) (by omega)
    repeat(first|refine chk.ga ?_|simp -dsimp[h20,z22,↓e24,h25,q26,w30])
    refine Again.go _ ?_ ((ih_f112 (i18+1) (out19++[x23]) o hF) _ rfl _ hq)
    exact(Gh.to3 (by simp) (by first|simp -dsimp[h20,z22,↓e24,h25,q26,w30];done|simp_all))
  ·have q21:¬(i18<x2.args.length):=auq h20
   have z22:¬((i18:Int)<(x2.args.length:Int)):=auz
   rw[if_neg q21]at hF
   cases hF
   repeat(first|refine chk.ga ?_|simp -dsimp[h20,q21,z22])
   refine Leave.go ⟨[(9,.own 2 (List.length (α:=Vl.Ty) out19))],[.dead,.dead,.elems 2 (List.map Vl.Ty.c out19)]⟩ (Gh.to3 (by simp) (by first|simp -dsimp[h20,q21,z22];done|simp_all)) ?_
   exact hq
theorem C.f113 (w:List Vl.Data)(t:Vl.Ty)(ctor:Int)(r:List Vl.Ty)(hF:F.f113 w t ctor=some r):PureCall Tryz.prog B 131 [.arr (List.map Vl.Data.c w),.agg [.lit (.int .i64 t.data),.lit (.int .i64 t.index)],.lit (.int .i64 ctor)] (.arr (List.map Vl.Ty.c r)):=by
 unfold F.f113 at hF
 refine PureCall.enterLe Tryz.func131 (by kernel_rfl) rfl Tryz.ntmps131 (by simp) (by simp) ?_
 have hF:=ob hF;obtain⟨x,e1a,hF⟩:=hF
 have e1a:=at_some e1a;obtain⟨ne1,e1⟩:=e1a
 have le1:=lt_of_get e1
 have hF:=ob hF;obtain⟨x2,e3a,hF⟩:=hF
 have e3a:=at_some e3a;obtain⟨ne3,e3⟩:=e3a
 have le3:=lt_of_get e3
 repeat(first|refine chk.ga ?_|simp -dsimp[↓e1,↓e3])
 refine abr.split (fun h4=> ?_) (fun h4=> ?_)
 ·have q5:(x2.index=0):=auq h4
  rw[if_pos q5]at hF
  repeat(first|refine chk.ga ?_|simp -dsimp[↓e1,↓e3,h4])
  have hF:=ob hF;obtain⟨o',ho17,hF⟩:=hF
  refine ALoop.goU ⟨[(8,.lit (.int .i64 t.index)),(9,.own 2 (List.length (α:=Vl.Ty) [])),(28,.arr (List.map Vl.Ty.c x2.args)),(29,.lit (.int .i64 (x2.args.length:Int))),(30,.lit (.int .i64 (0:Int)))],[.dead,.dead,.elems 2 (List.map Vl.Ty.c [])]⟩ (by refine Gh.trans (Gh.nil 9 2 (by simp -dsimp)) ?_;exact(Gh.to3 (by simp) (by first|simp -dsimp[↓e1,↓e3,h4];done|simp_all))) ?_
  refine((CC.f111 B hB1 hB2 t x2) 0 [] o' ho17) _ rfl _ ?_
  cases hF
  repeat(first|refine chk.ga ?_|simp -dsimp)
  all_goals(try first|omega|rfl)
 ·have q5:¬(x2.index=0):=auq h4
  rw[if_neg q5]at hF
  repeat(first|refine chk.ga ?_|simp -dsimp[↓e1,↓e3,h4,q5])
  have hF:=ob hF;obtain⟨o'32,ho31,hF⟩:=hF
  refine ALoop.goU ⟨[(8,.lit (.int .i64 x2.index)),(9,.own 2 (List.length (α:=Vl.Ty) [])),(28,.arr (List.map Vl.Ty.c x2.args)),(29,.lit (.int .i64 (x2.args.length:Int))),(30,.lit (.int .i64 (0:Int)))],[.dead,.dead,.elems 2 (List.map Vl.Ty.c [])]⟩ (by refine Gh.trans (Gh.nil 9 2 (by simp -dsimp)) ?_;exact(Gh.to3 (by simp) (by first|simp -dsimp[↓e1,↓e3,h4,q5];done|simp_all))) ?_
  refine((CC.f112 B hB1 hB2 x2) 0 [] o'32 ho31) _ rfl _ ?_
  cases hF
  repeat(first|refine chk.ga ?_|simp -dsimp)
  all_goals(try first|omega|rfl)
theorem C.f114 (w:List Vl.Data)(t:Vl.Ty)(p:Vl.Pattern)(r:(List Vl.Ty)×Bool)(hF:F.f114 w t p=some r):PureCall Tryz.prog B 159 [.arr (List.map Vl.Data.c w),.agg [.lit (.int .i64 t.data),.lit (.int .i64 t.index)],.agg [.lit (.int .i64 p.op),.lit (.int .i64 p.ctor),.lit (.int .i64 p.n),.lit (.int .i64 p.m),.lit (.int .i64 p.var),.arr (List.map Vl.Pattern.c p.kids)]] (.tup [.arr (List.map Vl.Ty.c r.1),.lit (.bool r.2)]):=by
 unfold F.f114 at hF
 refine PureCall.enterLe Tryz.func159 (by kernel_rfl) rfl Tryz.ntmps159 (by simp) (by simp) ?_
 repeat(first|refine chk.ga ?_|simp -dsimp)
 refine abr.split (fun h1=> ?_) (fun h1=> ?_)
 ·have q2:(p.op=1):=auq h1
  rw[if_pos q2]at hF
  repeat(first|refine chk.ga ?_|simp -dsimp[h1])
  have hF:=ob hF;obtain⟨v,e3,hF⟩:=hF
  refine((C.f104 B hB1 hB2 p false false false (0:Int) v e3)).goW (by first|simp[h1];done|simp_all) (by simp) ?_
  cases hF
  repeat(first|refine chk.ga ?_|simp -dsimp[h1])
  all_goals(try first|omega|rfl)
 ·have q2:¬(p.op=1):=auq h1
  rw[if_neg q2]at hF
  repeat(first|refine chk.ga ?_|simp -dsimp[h1,q2])
  refine abr.split (fun h4=> ?_) (fun h4=> ?_)
  ·have q5:(p.op=2):=auq h4
   rw[if_pos q5]at hF
   repeat(first|refine chk.ga ?_|simp -dsimp[h1,q2,h4])
   have hF:=ob hF;obtain⟨v6,e7,hF⟩:=hF
   refine((C.f104 B hB1 hB2 p false false true (0:Int) v6 e7)).goW (by first|simp[h1,q2,h4];done|simp_all) (by simp) ?_
   repeat(first|refine chk.ga ?_|simp -dsimp[h1,q2,h4])
   refine abr.split (fun h8=> ?_) (fun h8=> ?_)
   ·have q9:(v6=true):=auq h8
    rw[if_pos q9]at hF
    repeat(first|refine chk.ga ?_|simp -dsimp[h1,q2,h4,h8])
    have hF:=ob hF;obtain⟨v10,e11,hF⟩:=hF
    refine((C.f105 B hB1 hB2 p.var v10 e11)).goW (by first|simp[h1,q2,h4,h8];done|simp_all) (by simp) ?_
    cases hF
    repeat(first|refine chk.ga ?_|simp -dsimp[h1,q2,h4,h8])
    all_goals(try first|omega|rfl)
   ·have q9:¬(v6=true):=auq h8
    rw[if_neg q9]at hF
    cases hF
    repeat(first|refine chk.ga ?_|simp -dsimp[h1,q2,h4,h8,q9])
    all_goals(try first|omega|rfl)
  ·have q5:¬(p.op=2):=auq h4
   rw[if_neg q5]at hF
   repeat(first|refine chk.ga ?_|simp -dsimp[h1,q2,h4,q5])
   refine abr.split (fun h12=> ?_) (fun h12=> ?_)
   ·have q13:(p.op=3):=auq h12
    rw[if_pos q13]at hF
    repeat(first|refine chk.ga ?_|simp -dsimp[h1,q2,h4,q5,h12])
    refine ADraw.simple follows (by kernel_rfl) (by kernel_rfl) ?_
    repeat(first|refine chk.ga ?_|simp -dsimp[h1,q2,h4,q5,h12])
    refine abr.split (fun h14=> ?_) (fun h14=> ?_)
    ·have q15:(t.data=(-1)):=auq h14
     rw[if_pos q15]at hF
     repeat(first|refine chk.ga ?_|simp -dsimp[h1,q2,h4,q5,h12,h14])
     have hF:=ob hF;obtain⟨v16,e17,hF⟩:=hF
     refine((C.f104 B hB1 hB2 p false true false (0:Int) v16 e17)).pgoW (by first|simp[h1,q2,h4,q5,h12,h14];done|simp_all) (by simp) ?_
     repeat(first|refine chk.ga ?_|simp -dsimp[h1,q2,h4,q5,h12,h14])
     refine abr.split (fun h18=> ?_) (fun h18=> ?_)
     ·have q19:(v16=true):=auq h18
      rw[if_pos q19]at hF
      repeat(first|refine chk.ga ?_|simp -dsimp[h1,q2,h4,q5,h12,h14,h18])
      refine abr.split (fun h20=> ?_) (fun h20=> ?_)
      ·have q21:(0≤p.n):=auq h20
       rw[if_pos q21]at hF
       repeat(first|refine chk.ga ?_|simp -dsimp[h1,q2,h4,q5,h12,h14,h18,h20])
       refine abr.split (fun h22=> ?_) (fun h22=> ?_)
       ·have q23:(p.n≤p.m):=auq h22
        rw[if_pos q23]at hF
        cases hF
        repeat(first|refine chk.ga ?_|simp -dsimp[h1,q2,h4,q5,h12,h14,h18,h20,h22])
        all_goals(try first|omega|rfl)
       ·have q23:¬(p.n≤p.m):=auq h22
        rw[if_neg q23]at hF
        cases hF
        repeat(first|refine chk.ga ?_|simp -dsimp[h1,q2,h4,q5,h12,h14,h18,h20,h22,q23])
        all_goals(try first|omega|rfl)
      ·have q21:¬(0≤p.n):=auq h20
       rw[if_neg q21]at hF
       cases hF
       repeat(first|refine chk.ga ?_|simp -dsimp[h1,q2,h4,q5,h12,h14,h18,h20,q21])
       all_goals(try first|omega|rfl)
     ·have q19:¬(v16=true):=auq h18
      rw[if_neg q19]at hF
      cases hF
      repeat(first|refine chk.ga ?_|simp -dsimp[h1,q2,h4,q5,h12,h14,h18,q19])
      all_goals(try first|omega|rfl)
    ·have q15:¬(t.data=(-1)):=auq h14
     rw[if_neg q15]at hF
     cases hF
     repeat(first|refine chk.ga ?_|simp -dsimp[h1,q2,h4,q5,h12,h14,q15])
     all_goals(try first|omega|rfl)
   ·have q13:¬(p.op=3):=auq h12
    rw[if_neg q13]at hF
    repeat(first|refine chk.ga ?_|simp -dsimp[h1,q2,h4,q5,h12,q13])
    refine abr.split (fun h24=> ?_) (fun h24=> ?_)
    ·have q25:(p.op=4):=auq h24
     rw[if_pos q25]at hF
     repeat(first|refine chk.ga ?_|simp -dsimp[h1,q2,h4,q5,h12,q13,h24])
     refine ADraw.simple follows (by kernel_rfl) (by kernel_rfl) ?_
     repeat(first|refine chk.ga ?_|simp -dsimp[h1,q2,h4,q5,h12,q13,h24])
     have hF:=ob hF;obtain⟨v26,e27,hF⟩:=hF
     refine((C.f107 B hB1 hB2 w t v26 e27)).pgoW (by first|simp[h1,q2,h4,q5,h12,q13,h24];done|simp_all) (by simp) ?_
     repeat(first|refine chk.ga ?_|simp -dsimp[h1,q2,h4,q5,h12,q13,h24])
     have hF:=ob hF;obtain⟨v28,e29,hF⟩:=hF
     refine((C.f110 B hB1 hB2 v26 p.ctor v28 e29)).pgoW (by first|simp[h1,q2,h4,q5,h12,q13,h24];done|simp_all) (by simp) ?_
     repeat(first|refine chk.ga ?_|simp -dsimp[h1,q2,h4,q5,h12,q13,h24])
     refine abr.split (fun h30=> ?_) (fun h30=> ?_)
     ·have q31:¬(v28=true):=auq h30
      rw[if_neg q31]at hF
      cases hF
      repeat(first|refine chk.ga ?_|simp -dsimp[h1,q2,h4,q5,h12,q13,h24,h30,q31])
      all_goals(try first|omega|rfl)
     ·have q31:(v28=true):=auq h30
      rw[if_pos q31]at hF
      repeat(first|refine chk.ga ?_|simp -dsimp[h1,q2,h4,q5,h12,q13,h24,h30,q31])
      have hF:=ob hF;obtain⟨v32,e33,hF⟩:=hF
      refine((C.f113 B hB1 hB2 w t p.ctor v32 e33)).goW (by first|simp[h1,q2,h4,q5,h12,q13,h24,h30,q31];done|simp_all) (by simp) ?_
      repeat(first|refine chk.ga ?_|simp -dsimp[h1,q2,h4,q5,h12,q13,h24,h30,q31])
      have hF:=ob hF;obtain⟨v34,e35,hF⟩:=hF
      refine((C.f104 B hB1 hB2 p true false false (v32.length:Int) v34 e35)).goW (by first|simp[h1,q2,h4,q5,h12,q13,h24,h30,q31];done|simp_all) (by simp) ?_
      cases hF
      repeat(first|refine chk.ga ?_|simp -dsimp[h1,q2,h4,q5,h12,q13,h24,h30,q31])
      all_goals(try first|omega|rfl)
    ·have q25:¬(p.op=4):=auq h24
     rw[if_neg q25]at hF
     repeat(first|refine chk.ga ?_|simp -dsimp[h1,q2,h4,q5,h12,q13,h24,q25])
     refine abr.split (fun h36=> ?_) (fun h36=> ?_)
     ·have q37:(p.op=5):=auq h36
      rw[if_pos q37]at hF
      repeat(first|refine chk.ga ?_|simp -dsimp[h1,q2,h4,q5,h12,q13,h24,q25,h36])
      refine ADraw.eff [] [(0,0),(0,0),(0,1),(0,1),(0,1),(1,1),(1,1)] [1,1,1,2,1,1,1] follows (by kernel_rfl) (by kernel_rfl) (by kernel_rfl) ?_
      repeat(first|refine chk.ga ?_|simp -dsimp[h1,q2,h4,q5,h12,q13,h24,q25,h36])
      have hF:=ob hF;obtain⟨v38,e39,hF⟩:=hF
      refine((C.f104 B hB1 hB2 p false false false (2:Int) v38 e39)).pgoW (by first|simp[h1,q2,h4,q5,h12,q13,h24,q25,h36];done|simp_all) (by simp) ?_
      cases hF
      repeat(first|refine chk.ga ?_|simp -dsimp[h1,q2,h4,q5,h12,q13,h24,q25,h36])
      all_goals(try first|omega|rfl)
     ·have q37:¬(p.op=5):=auq h36
      rw[if_neg q37]at hF
      repeat(first|refine chk.ga ?_|simp -dsimp[h1,q2,h4,q5,h12,q13,h24,q25,h36,q37])
      refine abr.split (fun h40=> ?_) (fun h40=> ?_)
      ·have q41:(p.op=6):=auq h40
       rw[if_pos q41]at hF
       repeat(first|refine chk.ga ?_|simp -dsimp[h1,q2,h4,q5,h12,q13,h24,q25,h36,q37,h40])
       refine ADraw.eff [] [(0,0),(0,1),(0,1),(0,1),(0,1),(0,1),(0,1),(0,1),(0,1),(1,1),(1,1)] [1,1,2,1,1,0,2,1,1,1,1] follows (by kernel_rfl) (by kernel_rfl) (by kernel_rfl) ?_
       repeat(first|refine chk.ga ?_|simp -dsimp[h1,q2,h4,q5,h12,q13,h24,q25,h36,q37,h40])
       have hF:=ob hF;obtain⟨v42,e43,hF⟩:=hF
       refine((C.f104 B hB1 hB2 p false false true (1:Int) v42 e43)).pgoW (by first|simp[h1,q2,h4,q5,h12,q13,h24,q25,h36,q37,h40];done|simp_all) (by simp) ?_
       repeat(first|refine chk.ga ?_|simp -dsimp[h1,q2,h4,q5,h12,q13,h24,q25,h36,q37,h40])
       refine abr.split (fun h44=> ?_) (fun h44=> ?_)
       ·have q45:(v42=true):=auq h44
        rw[if_pos q45]at hF
        repeat(first|refine chk.ga ?_|simp -dsimp[h1,q2,h4,q5,h12,q13,h24,q25,h36,q37,h40,h44])
        have hF:=ob hF;obtain⟨v46,e47,hF⟩:=hF
        refine((C.f105 B hB1 hB2 p.var v46 e47)).pgoW (by first|simp[h1,q2,h4,q5,h12,q13,h24,q25,h36,q37,h40,h44];done|simp_all) (by simp) ?_
        cases hF
        repeat(first|refine chk.ga ?_|simp -dsimp[h1,q2,h4,q5,h12,q13,h24,q25,h36,q37,h40,h44])
        all_goals(try first|omega|rfl)
       ·have q45:¬(v42=true):=auq h44
        rw[if_neg q45]at hF
        cases hF
        repeat(first|refine chk.ga ?_|simp -dsimp[h1,q2,h4,q5,h12,q13,h24,q25,h36,q37,h40,h44,q45])
        all_goals(try first|omega|rfl)
      ·have q41:¬(p.op=6):=auq h40
       rw[if_neg q41]at hF
       cases hF
       repeat(first|refine chk.ga ?_|simp -dsimp[h1,q2,h4,q5,h12,q13,h24,q25,h36,q37,h40,q41])
       all_goals(try first|omega|rfl)
theorem CC.f115 (s:List Vl.VarType)(v:Vl.VarType):(∀(i:Nat) (o:Lo Int Unit),F.f115 s v i=some o→∀(c:Code),navO [1,0,1,0,0] (bodyOf Tryz.f220)=some c→∀(Q:Exit→ASt→Prop),o.post (fun r=>∀st,Post Tryz.prog Tryz.f220 (fun r' _=>r'.le (.lit (.int .i64 r))) .ret st→Q .ret st) (fun s=>Q (.exit 0) ⟨[],[]⟩)→ALoopU Tryz.prog B 0 19 (hold c .mk) ⟨[(0,.arr (List.map Vl.VarType.c s)),(3,.ptr 0 0),(7,.lit (.int .i64 (s.length:Int))),(8,.lit (.int .i64 (i:Int)))],[.cells [.lit (.int .i64 v.var),.lit (.int .i64 v.type.data),.lit (.int .i64 v.type.index)]]⟩ (hold Q .mk)):=by
 refine F.f115.partial_correctness s v
  _
  ?_
 ·intro _f_f115 ih_f115 i o hF
  intro c hc Q hq
  obtain rfl:c=_:=navEq hc rfl
  refine ALoopU.know fun hk hs=> ?_
  have b0:=hk 0
  simp -dsimp at b0
  clear hk hs
  refine ALoopU.enter ?_
  repeat(first|refine chk.ga ?_|simp -dsimp)
  refine abr.split (fun h1=> ?_) (fun h1=> ?_)
  ·have q2:(i<s.length):=auq h1
   have z3:((i:Int)<(s.length:Int)):=auz
   rw[if_pos q2]at hF
   repeat(first|refine chk.ga ?_|simp -dsimp[h1,z3])
   refine ADraw.simple follows (by kernel_rfl) (by kernel_rfl) ?_
   have hF:=ob hF;obtain⟨x,e4,hF⟩:=hF
   have le4:=lt_of_get e4
   repeat(first|refine chk.ga ?_|simp -dsimp[h1,z3,↓e4])
   refine abr.split (fun h5=> ?_) (fun h5=> ?_)
   ·have q6:(dec (eq3 (v.var,v.type.data,v.type.index) (x.var,x.type.data,x.type.index))=true):=auq h5
    rw[if_pos q6]at hF
    cases hF
    repeat(first|refine chk.ga ?_|simp -dsimp[h1,z3,↓e4,h5])
    refine Leave.go _ (Gh.refl _) (hq _ ?_)
    repeat(first|refine chk.ga ?_|simp -dsimp[h1,z3,↓e4,h5])
   ·have q6:¬(dec (eq3 (v.var,v.type.data,v.type.index) (x.var,x.type.data,x.type.index))=true):=auq h5
    rw[if_neg q6]at hF
    have w7:IntKind.i64.wrap ((i:Int)+1)=(i:Int)+1:=wrap_in (by omega) (by omega)
    repeat(first|refine chk.ga ?_|simp -dsimp[h1,z3,↓e4,h5,q6,w7])
    refine Again.go _ ?_ ((ih_f115 (i+1) o hF) _ rfl _ hq)
    exact(Gh.to3 (by simp) (by first|simp -dsimp[h1,z3,↓e4,h5,q6,w7];done|simp_all))
  ·have q2:¬(i<s.length):=auq h1
   have z3:¬((i:Int)<(s.length:Int)):=auz
   rw[if_neg q2]at hF
   cases hF
   repeat(first|refine chk.ga ?_|simp -dsimp[h1,q2,z3])
   refine Leave.go ⟨[],[]⟩ (Gh.to3 (by simp) (by first|simp -dsimp[h1,q2,z3];done|simp_all)) ?_
   exact hq
theorem C.f116 (s:List Vl.VarType)(v:Vl.VarType)(r:Int)(hF:F.f116 s v=some r):PureCall Tryz.prog B 220 [.arr (List.map Vl.VarType.c s),.agg [.lit (.int .i64 v.var),.lit (.int .i64 v.type.data),.lit (.int .i64 v.type.index)]] (.lit (.int .i64 r)):=by
 unfold F.f116 at hF
 refine PureCall.enterLe Tryz.func220 (by kernel_rfl) rfl Tryz.ntmps220 (by simp) (by simp) ?_
 repeat(first|refine chk.ga ?_|simp -dsimp)
 have hF:=ob hF;obtain⟨o',ho8,hF⟩:=hF
 refine ALoop.goU _ ?_ (((CC.f115 B hB1 hB2 s v) 0 o' ho8) _ rfl _ ?_)
 ·exact(Gh.to3 (by simp) (by simp -dsimp))
 rcases o' with r0|sx
 ·dsimp only at hF
  cases hF
  intro st h
  simpa using h
 ·dsimp only at hF
  cases hF
  repeat(first|refine chk.ga ?_|simp -dsimp)
  all_goals(try first|omega|rfl)
theorem C.f117 (s:List Vl.VarType)(v:Vl.VarType)(r:Bool)(hF:F.f117 s v=some r):PureCall Tryz.prog B 205 [.arr (List.map Vl.VarType.c s),.agg [.lit (.int .i64 v.var),.lit (.int .i64 v.type.data),.lit (.int .i64 v.type.index)]] (.lit (.bool r)):=by
 unfold F.f117 at hF
 refine PureCall.enterLe Tryz.func205 (by kernel_rfl) rfl Tryz.ntmps205 (by simp) (by simp) ?_
 repeat(first|refine chk.ga ?_|simp -dsimp)
 have hF:=ob hF;obtain⟨v1,e2,hF⟩:=hF
 refine((C.f116 B hB1 hB2 s v v1 e2)).goW (by simp) (by simp) ?_
 cases hF
 repeat(first|refine chk.ga ?_|simp -dsimp)
 all_goals(try first|omega|rfl)
theorem C.f118 (v:Vl.VarType)(a1:List Vl.VarType)(r:Bool)(hF:F.f118 v a1=some r):PureCall Tryz.prog B 222 [.agg [.lit (.int .i64 v.var),.lit (.int .i64 v.type.data),.lit (.int .i64 v.type.index)],.rptr [.arr (List.map Vl.VarType.c a1)] 0] (.lit (.bool r)):=by
 unfold F.f118 at hF
 refine PureCall.enterLe Tryz.func222 (by kernel_rfl) rfl Tryz.ntmps222 (by simp) (by simp) ?_
 repeat(first|refine chk.ga ?_|simp -dsimp)
 have hF:=ob hF;obtain⟨v1,e2,hF⟩:=hF
 refine((C.f117 B hB1 hB2 a1 v v1 e2)).goW (by simp) (by simp) ?_
 cases hF
 repeat(first|refine chk.ga ?_|simp -dsimp)
 all_goals(try first|omega|rfl)
theorem CC.f119 (s:List Vl.VarType)(k0:List Vl.VarType):(∀(i:Nat) (o:Lo Int Unit),F.f119 s k0 i=some o→∀(c:Code),navO [1,0,1,0,0] (bodyOf Tryz.f225)=some c→∀(Q:Exit→ASt→Prop),o.post (fun r=>∀st,Post Tryz.prog Tryz.f225 (fun r' _=>r'.le (.lit (.int .i64 r))) .ret st→Q .ret st) (fun s=>Q (.exit 0) ⟨[],[]⟩)→ALoopU Tryz.prog B 0 19 (hold c .mk) ⟨[(0,.arr (List.map Vl.VarType.c s)),(1,.fn (.func 222) [] [.rptr [.arr (List.map Vl.VarType.c k0)] 0]),(7,.lit (.int .i64 (s.length:Int))),(8,.lit (.int .i64 (i:Int)))],[]⟩ (hold Q .mk)):=by
 refine F.f119.partial_correctness s k0
  _
  ?_
 ·intro _f_f119 ih_f119 i o hF
  intro c hc Q hq
  obtain rfl:c=_:=navEq hc rfl
  refine ALoopU.know fun hk hs=> ?_
  have b0:=hk 0
  simp -dsimp at b0
  clear hk hs
  refine ALoopU.enter ?_
  repeat(first|refine chk.ga ?_|simp -dsimp)
  refine abr.split (fun h1=> ?_) (fun h1=> ?_)
  ·have q2:(i<s.length):=auq h1
   have z3:((i:Int)<(s.length:Int)):=auz
   rw[if_pos q2]at hF
   have hF:=ob hF;obtain⟨x,e4,hF⟩:=hF
   have le4:=lt_of_get e4
   repeat(first|refine chk.ga ?_|simp -dsimp[h1,z3,↓e4])
   have hF:=ob hF;obtain⟨v,e5,hF⟩:=hF
   refine((C.f118 B hB1 hB2 x k0 v e5)).goW (by first|simp[h1,z3,↓e4];done|simp_all) (by simp) ?_
   repeat(first|refine chk.ga ?_|simp -dsimp[h1,z3,↓e4])
   refine abr.split (fun h6=> ?_) (fun h6=> ?_)
   ·have q7:(v=true):=auq h6
    rw[if_pos q7]at hF
    cases hF
    repeat(first|refine chk.ga ?_|simp -dsimp[h1,z3,↓e4,h6])
    refine Leave.go _ (Gh.refl _) (hq _ ?_)
    repeat(first|refine chk.ga ?_|simp -dsimp[h1,z3,↓e4,h6])
   ·have q7:¬(v=true):=auq h6
    rw[if_neg q7]at hF
    have w8:IntKind.i64.wrap ((i:Int)+1)=(i:Int)+1:=wrap_in (by omega) (by omega)
    repeat(first|refine chk.ga ?_|simp -dsimp[h1,z3,↓e4,h6,q7,w8])
    refine Again.go _ ?_ ((ih_f119 (i+1) o hF) _ rfl _ hq)
    exact(Gh.to3 (by simp) (by first|simp -dsimp[h1,z3,↓e4,h6,q7,w8];done|simp_all))
  ·have q2:¬(i<s.length):=auq h1
   have z3:¬((i:Int)<(s.length:Int)):=auz
   rw[if_neg q2]at hF
   cases hF
   repeat(first|refine chk.ga ?_|simp -dsimp[h1,q2,z3])
   refine Leave.go ⟨[],[]⟩ (Gh.to3 (by simp) (by first|simp -dsimp[h1,q2,z3];done|simp_all)) ?_
   exact hq
theorem C.f120 (s:List Vl.VarType)(k0:List Vl.VarType)(r:Int)(hF:F.f120 s k0=some r):PureCall Tryz.prog B 225 [.arr (List.map Vl.VarType.c s),.fn (.func 222) [] [.rptr [.arr (List.map Vl.VarType.c k0)] 0]] (.lit (.int .i64 r)):=by
 unfold F.f120 at hF
 refine PureCall.enterLe Tryz.func225 (by kernel_rfl) rfl Tryz.ntmps225 (by simp) (by simp) ?_
 repeat(first|refine chk.ga ?_|simp -dsimp)
 have hF:=ob hF;obtain⟨o',ho9,hF⟩:=hF
 refine ALoop.goU _ ?_ (((CC.f119 B hB1 hB2 s k0) 0 o' ho9) _ rfl _ ?_)
 ·exact(Gh.to3 (by simp) (by simp -dsimp))
 rcases o' with r0|sx
 ·dsimp only at hF
  cases hF
  intro st h
  simpa using h
 ·dsimp only at hF
  cases hF
  repeat(first|refine chk.ga ?_|simp -dsimp)
  all_goals(try first|omega|rfl)
theorem C.f121 (s:List Vl.VarType)(k0:List Vl.VarType)(r:Bool)(hF:F.f121 s k0=some r):PureCall Tryz.prog B 221 [.arr (List.map Vl.VarType.c s),.fn (.func 222) [] [.rptr [.arr (List.map Vl.VarType.c k0)] 0]] (.lit (.bool r)):=by
 unfold F.f121 at hF
 refine PureCall.enterLe Tryz.func221 (by kernel_rfl) rfl Tryz.ntmps221 (by simp) (by simp) ?_
 repeat(first|refine chk.ga ?_|simp -dsimp)
 have hF:=ob hF;obtain⟨v,e1,hF⟩:=hF
 refine((C.f120 B hB1 hB2 s k0 v e1)).goW (by simp) (by simp) ?_
 cases hF
 repeat(first|refine chk.ga ?_|simp -dsimp)
 all_goals(try first|omega|rfl)
theorem C.f122 (a:List Vl.VarType)(b:List Vl.VarType)(r:Bool)(hF:F.f122 a b=some r):PureCall Tryz.prog B 206 [.arr (List.map Vl.VarType.c a),.arr (List.map Vl.VarType.c b)] (.lit (.bool r)):=by
 unfold F.f122 at hF
 refine PureCall.enterLe Tryz.func206 (by kernel_rfl) rfl Tryz.ntmps206 (by simp) (by simp) ?_
 repeat(first|refine chk.ga ?_|simp -dsimp)
 refine abr.split (fun h1=> ?_) (fun h1=> ?_)
 ·have q2:(a.length=b.length):=auq h1
  have z3:((a.length:Int)=(b.length:Int)):=auz
  rw[if_pos q2]at hF
  repeat(first|refine chk.ga ?_|simp -dsimp[h1,z3])
  have hF:=ob hF;obtain⟨v,e4,hF⟩:=hF
  refine((C.f121 B hB1 hB2 a b v e4)).lend (by first|simp -dsimp[h1,z3];done|simp_all) (by simp -dsimp) ?_
  cases hF
  repeat(first|refine chk.ga ?_|simp -dsimp[h1,z3])
  all_goals(try first|omega|rfl)
 ·have q2:¬(a.length=b.length):=auq h1
  have z3:¬((a.length:Int)=(b.length:Int)):=auz
  rw[if_neg q2]at hF
  cases hF
  repeat(first|refine chk.ga ?_|simp -dsimp[h1,q2,z3])
  all_goals(try first|omega|rfl)
theorem CC.f123 (sx:Int×(List Vl.VarType)):(∀(set':Nat→Bool) (i37:Nat) (o:Lo ((List Vl.VarType)×Bool×Int) Unit),F.f123 sx set' i37=some o→∀(c:Code),navO [1,1,1,1,1,1,1,1,1,0,1,0,0] (bodyOf Tryz.f170)=some c→∀(Q:Exit→ASt→Prop),o.post (fun r=>∀st,Post Tryz.prog Tryz.f170 (fun r' σ'=>r'.le (.tup [.arr (List.map Vl.VarType.c r.1),.lit (.bool r.2.1)])∧mcell σ' [.lit (.int .i64 r.2.2)]) .ret st→Q .ret st) (fun s=>Q (.exit 3) ⟨[(14,.own 4 (List.length (α:=Vl.VarType) sx.2))],[.cells [.lit (.int .i64 sx.1)],.dead,.dead,.dead,.elems 3 (List.map Vl.VarType.c sx.2)]⟩)→ALoopU Tryz.prog B 1 114 (hold c .mk) ⟨[(14,.own 4 (List.length (α:=Vl.VarType) sx.2)),(19,.ptr 5 0),(99,.own 4 (List.length (α:=Vl.VarType) sx.2)),(100,.lit (.int .i64 (sx.2.length:Int))),(101,.lit (.int .i64 (i37:Int)))],[.cells [.lit (.int .i64 sx.1)],.dead,.dead,.dead,.elems 3 (List.map Vl.VarType.c sx.2),.cells (fcB 6 set')]⟩ (hold Q .mk)):=by
 refine F.f123.partial_correctness sx
  _
  ?_
 ·intro _f_f123 ih_f123 set' i37 o hF
  intro c hc Q hq
  obtain rfl:c=_:=navEq hc rfl
  refine ALoopU.know fun hk hs=> ?_
  have d4:=hs 4 _ rfl
  simp -dsimp[Blk.bnd]at d4
  clear hk hs
  refine ALoopU.enter ?_
  repeat(first|refine chk.ga ?_|simp -dsimp)
  refine abr.split (fun h38=> ?_) (fun h38=> ?_)
  ·have q39:(i37<sx.2.length):=auq h38
   have z40:((i37:Int)<(sx.2.length:Int)):=auz
   rw[if_pos q39]at hF
   have hF:=ob hF;obtain⟨x41,e42,hF⟩:=hF
   have le42:=lt_of_get e42
   have hF:=oc hF;obtain⟨c43,hF⟩:=hF
   repeat(first|refine chk.ga ?_|simp -dsimp[h38,z40,↓e42,c43])
   refine abr.split (fun h44=> ?_) (fun h44=> ?_)
   ·have q45:(set' x41.var.toNat=true):=auq h44
    rw[if_pos q45]at hF
    cases hF
    repeat(first|refine chk.ga ?_|simp -dsimp[h38,z40,↓e42,c43,h44])
    refine Leave.go _ (Gh.refl _) (hq _ ?_)
    repeat(first|refine chk.ga ?_|simp -dsimp[h38,z40,↓e42,c43,h44])
   ·have q45:¬(set' x41.var.toNat=true):=auq h44
    rw[if_neg q45]at hF
    have w46:IntKind.i64.wrap ((i37:Int)+1)=(i37:Int)+1:=wrap_in (by omega) (by omega)
    repeat(first|refine chk.ga ?_|simp -dsimp[h38,z40,↓e42,c43,h44,q45,w46])
    refine Again.go _ ?_ ((ih_f123 (updF set' x41.var.toNat true) (i37+1) o hF) _ rfl _ hq)
    exact(Gh.to3 (by simp) (by first|simp -dsimp[h38,z40,↓e42,c43,h44,q45,w46];done|simp_all))
  ·have q39:¬(i37<sx.2.length):=auq h38
   have z40:¬((i37:Int)<(sx.2.length:Int)):=auz
   rw[if_neg q39]at hF
   cases hF
   repeat(first|refine chk.ga ?_|simp -dsimp[h38,q39,z40])
   refine Leave.go ⟨[(14,.own 4 (List.length (α:=Vl.VarType) sx.2))],[.cells [.lit (.int .i64 sx.1)],.dead,.dead,.dead,.elems 3 (List.map Vl.VarType.c sx.2)]⟩ (Gh.to3 (by simp) (by first|simp -dsimp[h38,q39,z40];done|simp_all)) ?_
   exact hq
theorem CC.f124 (sx81:Int×(List Vl.VarType)):(∀(set'82:Nat→Bool) (i83:Nat) (o:Lo ((List Vl.VarType)×Bool×Int) Unit),F.f124 sx81 set'82 i83=some o→∀(c:Code),navO [1,1,1,1,1,1,1,1,1,0,1,0,0] (bodyOf Tryz.f170)=some c→∀(Q:Exit→ASt→Prop),o.post (fun r=>∀st,Post Tryz.prog Tryz.f170 (fun r' σ'=>r'.le (.tup [.arr (List.map Vl.VarType.c r.1),.lit (.bool r.2.1)])∧mcell σ' [.lit (.int .i64 r.2.2)]) .ret st→Q .ret st) (fun s=>Q (.exit 3) ⟨[(14,.own 3 (List.length (α:=Vl.VarType) sx81.2))],[.cells [.lit (.int .i64 sx81.1)],.dead,.dead,.elems 3 (List.map Vl.VarType.c sx81.2)]⟩)→ALoopU Tryz.prog B 1 114 (hold c .mk) ⟨[(14,.own 3 (List.length (α:=Vl.VarType) sx81.2)),(19,.ptr 4 0),(99,.own 3 (List.length (α:=Vl.VarType) sx81.2)),(100,.lit (.int .i64 (sx81.2.length:Int))),(101,.lit (.int .i64 (i83:Int)))],[.cells [.lit (.int .i64 sx81.1)],.dead,.dead,.elems 3 (List.map Vl.VarType.c sx81.2),.cells (fcB 6 set'82)]⟩ (hold Q .mk)):=by
 refine F.f124.partial_correctness sx81
  _
  ?_
 ·intro _f_f124 ih_f124 set'82 i83 o hF
  intro c hc Q hq
  obtain rfl:c=_:=navEq hc rfl
  refine ALoopU.know fun hk hs=> ?_
  have d3:=hs 3 _ rfl
  simp -dsimp[Blk.bnd]at d3
  clear hk hs
  refine ALoopU.enter ?_
  repeat(first|refine chk.ga ?_|simp -dsimp)
  refine abr.split (fun h84=> ?_) (fun h84=> ?_)
  ·have q85:(i83<sx81.2.length):=auq h84
   have z86:((i83:Int)<(sx81.2.length:Int)):=auz
   rw[if_pos q85]at hF
   have hF:=ob hF;obtain⟨x87,e88,hF⟩:=hF
   have le88:=lt_of_get e88
   have hF:=oc hF;obtain⟨c89,hF⟩:=hF
   repeat(first|refine chk.ga ?_|simp -dsimp[h84,z86,↓e88,c89])
   refine abr.split (fun h90=> ?_) (fun h90=> ?_)
   ·have q91:(set'82 x87.var.toNat=true):=auq h90
    rw[if_pos q91]at hF
    cases hF
    repeat(first|refine chk.ga ?_|simp -dsimp[h84,z86,↓e88,c89,h90])
    refine Leave.go _ (Gh.refl _) (hq _ ?_)
    repeat(first|refine chk.ga ?_|simp -dsimp[h84,z86,↓e88,c89,h90])
   ·have q91:¬(set'82 x87.var.toNat=true):=auq h90
    rw[if_neg q91]at hF
    have w92:IntKind.i64.wrap ((i83:Int)+1)=(i83:Int)+1:=wrap_in (by omega) (by omega)
    repeat(first|refine chk.ga ?_|simp -dsimp[h84,z86,↓e88,c89,h90,q91,w92])
    refine Again.go _ ?_ ((ih_f124 (updF set'82 x87.var.toNat true) (i83+1) o hF) _ rfl _ hq)
    exact(Gh.to3 (by simp) (by first|simp -dsimp[h84,z86,↓e88,c89,h90,q91,w92];done|simp_all))
  ·have q85:¬(i83<sx81.2.length):=auq h84
   have z86:¬((i83:Int)<(sx81.2.length:Int)):=auz
   rw[if_neg q85]at hF
   cases hF
   repeat(first|refine chk.ga ?_|simp -dsimp[h84,q85,z86])
   refine Leave.go ⟨[(14,.own 3 (List.length (α:=Vl.VarType) sx81.2))],[.cells [.lit (.int .i64 sx81.1)],.dead,.dead,.elems 3 (List.map Vl.VarType.c sx81.2)]⟩ (Gh.to3 (by simp) (by first|simp -dsimp[h84,q85,z86];done|simp_all)) ?_
   exact hq
theorem CC.f125 (sx128:Int×(List Vl.VarType)):(∀(set'129:Nat→Bool) (i130:Nat) (o:Lo ((List Vl.VarType)×Bool×Int) Unit),F.f125 sx128 set'129 i130=some o→∀(c:Code),navO [1,1,1,1,1,1,1,1,1,0,1,0,0] (bodyOf Tryz.f170)=some c→∀(Q:Exit→ASt→Prop),o.post (fun r=>∀st,Post Tryz.prog Tryz.f170 (fun r' σ'=>r'.le (.tup [.arr (List.map Vl.VarType.c r.1),.lit (.bool r.2.1)])∧mcell σ' [.lit (.int .i64 r.2.2)]) .ret st→Q .ret st) (fun s=>Q (.exit 3) ⟨[(14,.own 4 (List.length (α:=Vl.VarType) sx128.2))],[.cells [.lit (.int .i64 sx128.1)],.dead,.dead,.dead,.elems 3 (List.map Vl.VarType.c sx128.2)]⟩)→ALoopU Tryz.prog B 1 114 (hold c .mk) ⟨[(14,.own 4 (List.length (α:=Vl.VarType) sx128.2)),(19,.ptr 5 0),(99,.own 4 (List.length (α:=Vl.VarType) sx128.2)),(100,.lit (.int .i64 (sx128.2.length:Int))),(101,.lit (.int .i64 (i130:Int)))],[.cells [.lit (.int .i64 sx128.1)],.dead,.dead,.dead,.elems 3 (List.map Vl.VarType.c sx128.2),.cells (fcB 6 set'129)]⟩ (hold Q .mk)):=by
 refine F.f125.partial_correctness sx128
  _
  ?_
 ·intro _f_f125 ih_f125 set'129 i130 o hF
  intro c hc Q hq
  obtain rfl:c=_:=navEq hc rfl
  refine ALoopU.know fun hk hs=> ?_
  have d4:=hs 4 _ rfl
  simp -dsimp[Blk.bnd]at d4
  clear hk hs
  refine ALoopU.enter ?_
  repeat(first|refine chk.ga ?_|simp -dsimp)
  refine abr.split (fun h131=> ?_) (fun h131=> ?_)
  ·have q132:(i130<sx128.2.length):=auq h131
   have z133:((i130:Int)<(sx128.2.length:Int)):=auz
   rw[if_pos q132]at hF
   have hF:=ob hF;obtain⟨x134,e135,hF⟩:=hF
   have le135:=lt_of_get e135
   have hF:=oc hF;obtain⟨c136,hF⟩:=hF
   repeat(first|refine chk.ga ?_|simp -dsimp[h131,z133,↓e135,c136])
   refine abr.split (fun h137=> ?_) (fun h137=> ?_)
   ·have q138:(set'129 x134.var.toNat=true):=auq h137
    rw[if_pos q138]at hF
    cases hF
    repeat(first|refine chk.ga ?_|simp -dsimp[h131,z133,↓e135,c136,h137])
    refine Leave.go _ (Gh.refl _) (hq _ ?_)
    repeat(first|refine chk.ga ?_|simp -dsimp[h131,z133,↓e135,c136,h137])
   ·have q138:¬(set'129 x134.var.toNat=true):=auq h137
    rw[if_neg q138]at hF
    have w139:IntKind.i64.wrap ((i130:Int)+1)=(i130:Int)+1:=wrap_in (by omega) (by omega)
    repeat(first|refine chk.ga ?_|simp -dsimp[h131,z133,↓e135,c136,h137,q138,w139])
    refine Again.go _ ?_ ((ih_f125 (updF set'129 x134.var.toNat true) (i130+1) o hF) _ rfl _ hq)
    exact(Gh.to3 (by simp) (by first|simp -dsimp[h131,z133,↓e135,c136,h137,q138,w139];done|simp_all))
  ·have q132:¬(i130<sx128.2.length):=auq h131
   have z133:¬((i130:Int)<(sx128.2.length:Int)):=auz
   rw[if_neg q132]at hF
   cases hF
   repeat(first|refine chk.ga ?_|simp -dsimp[h131,q132,z133])
   refine Leave.go ⟨[(14,.own 4 (List.length (α:=Vl.VarType) sx128.2))],[.cells [.lit (.int .i64 sx128.1)],.dead,.dead,.dead,.elems 3 (List.map Vl.VarType.c sx128.2)]⟩ (Gh.to3 (by simp) (by first|simp -dsimp[h131,q132,z133];done|simp_all)) ?_
   exact hq
theorem CC.f126 (w:List Vl.Data):(∀(t:Vl.Ty) (p:Vl.Pattern) (deep:Int) (count:Int) (r:(List Vl.VarType)×Bool×Int),F.f126 w t p deep count=some r→MutCall Tryz.prog B 170 [.lit (.int .i64 count)] [.arr (List.map Vl.Data.c w),.agg [.lit (.int .i64 t.data),.lit (.int .i64 t.index)],.agg [.lit (.int .i64 p.op),.lit (.int .i64 p.ctor),.lit (.int .i64 p.n),.lit (.int .i64 p.m),.lit (.int .i64 p.var),.arr (List.map Vl.Pattern.c p.kids)],.lit (.int .i64 deep),.ptr 0 0] (.tup [.arr (List.map Vl.VarType.c r.1),.lit (.bool r.2.1)]) [.lit (.int .i64 r.2.2)])∧
  (∀(p:Vl.Pattern) (deep:Int) (v:(List Vl.Ty)×Bool) (z51:Int) (vars52:List Vl.VarType) (i53:Nat) (o:Lo ((List Vl.VarType)×Bool×Int) (Int×(List Vl.VarType))),F.f128 w p deep v z51 vars52 i53=some o→∀(c:Code),navO [1,1,1,1,1,1,1,0,1,0,0] (bodyOf Tryz.f170)=some c→∀(Q:Exit→ASt→Prop),o.post (fun r=>∀st,Post Tryz.prog Tryz.f170 (fun r' σ'=>r'.le (.tup [.arr (List.map Vl.VarType.c r.1),.lit (.bool r.2.1)])∧mcell σ' [.lit (.int .i64 r.2.2)]) .ret st→Q .ret st) (fun s=>Q (.exit 0) ⟨[(14,.own 3 (List.length (α:=Vl.VarType) s.2))],[.cells [.lit (.int .i64 s.1)],.dead,.dead,.elems 3 (List.map Vl.VarType.c s.2)]⟩)→ALoopU Tryz.prog B 1 114 (hold c .mk) ⟨[(0,.arr (List.map Vl.Data.c w)),(3,.lit (.int .i64 deep)),(4,.ptr 0 0),(7,.ptr 2 0),(12,.arr (List.map Vl.Ty.c v.1)),(14,.own 3 (List.length (α:=Vl.VarType) vars52)),(60,.arr (List.map Vl.Pattern.c p.kids)),(61,.lit (.int .i64 (p.kids.length:Int))),(62,.lit (.int .i64 (i53:Int)))],[.cells [.lit (.int .i64 z51)],.dead,.cells [.lit (.int .i64 p.op),.lit (.int .i64 p.ctor),.lit (.int .i64 p.n),.lit (.int .i64 p.m),.lit (.int .i64 p.var),.arr (List.map Vl.Pattern.c p.kids)],.elems 3 (List.map Vl.VarType.c vars52)]⟩ (hold Q .mk))∧
  (∀(p:Vl.Pattern) (deep:Int) (v:(List Vl.Ty)×Bool) (z:Int) (vars:List Vl.VarType) (i:Nat) (o:Lo ((List Vl.VarType)×Bool×Int) (Int×(List Vl.VarType))),F.f127 w p deep v z vars i=some o→∀(c:Code),navO [1,1,1,1,1,1,1,0,1,0,0] (bodyOf Tryz.f170)=some c→∀(Q:Exit→ASt→Prop),o.post (fun r=>∀st,Post Tryz.prog Tryz.f170 (fun r' σ'=>r'.le (.tup [.arr (List.map Vl.VarType.c r.1),.lit (.bool r.2.1)])∧mcell σ' [.lit (.int .i64 r.2.2)]) .ret st→Q .ret st) (fun s=>Q (.exit 0) ⟨[(14,.own 4 (List.length (α:=Vl.VarType) s.2))],[.cells [.lit (.int .i64 s.1)],.dead,.dead,.dead,.elems 3 (List.map Vl.VarType.c s.2)]⟩)→ALoopU Tryz.prog B 1 114 (hold c .mk) ⟨[(0,.arr (List.map Vl.Data.c w)),(3,.lit (.int .i64 deep)),(4,.ptr 0 0),(7,.ptr 2 0),(12,.arr (List.map Vl.Ty.c v.1)),(14,.own 4 (List.length (α:=Vl.VarType) vars)),(60,.arr (List.map Vl.Pattern.c p.kids)),(61,.lit (.int .i64 (p.kids.length:Int))),(62,.lit (.int .i64 (i:Int)))],[.cells [.lit (.int .i64 z)],.dead,.cells [.lit (.int .i64 p.op),.lit (.int .i64 p.ctor),.lit (.int .i64 p.n),.lit (.int .i64 p.m),.lit (.int .i64 p.var),.arr (List.map Vl.Pattern.c p.kids)],.dead,.elems 3 (List.map Vl.VarType.c vars)]⟩ (hold Q .mk))∧
  (∀(p:Vl.Pattern) (deep:Int) (v:(List Vl.Ty)×Bool) (z98:Int) (vars99:List Vl.VarType) (i100:Nat) (o:Lo ((List Vl.VarType)×Bool×Int) (Int×(List Vl.VarType))),F.f129 w p deep v z98 vars99 i100=some o→∀(c:Code),navO [1,1,1,1,1,1,1,0,1,0,0] (bodyOf Tryz.f170)=some c→∀(Q:Exit→ASt→Prop),o.post (fun r=>∀st,Post Tryz.prog Tryz.f170 (fun r' σ'=>r'.le (.tup [.arr (List.map Vl.VarType.c r.1),.lit (.bool r.2.1)])∧mcell σ' [.lit (.int .i64 r.2.2)]) .ret st→Q .ret st) (fun s=>Q (.exit 0) ⟨[(14,.own 4 (List.length (α:=Vl.VarType) s.2))],[.cells [.lit (.int .i64 s.1)],.dead,.dead,.dead,.elems 3 (List.map Vl.VarType.c s.2)]⟩)→ALoopU Tryz.prog B 1 114 (hold c .mk) ⟨[(0,.arr (List.map Vl.Data.c w)),(3,.lit (.int .i64 deep)),(4,.ptr 0 0),(7,.ptr 2 0),(12,.arr (List.map Vl.Ty.c v.1)),(14,.own 4 (List.length (α:=Vl.VarType) vars99)),(60,.arr (List.map Vl.Pattern.c p.kids)),(61,.lit (.int .i64 (p.kids.length:Int))),(62,.lit (.int .i64 (i100:Int)))],[.cells [.lit (.int .i64 z98)],.dead,.cells [.lit (.int .i64 p.op),.lit (.int .i64 p.ctor),.lit (.int .i64 p.n),.lit (.int .i64 p.m),.lit (.int .i64 p.var),.arr (List.map Vl.Pattern.c p.kids)],.dead,.elems 3 (List.map Vl.VarType.c vars99)]⟩ (hold Q .mk)):=by
 refine F.f126.mutual_partial_correctness w
  _ _ _ _
  ?_ ?_ ?_ ?_
 ·intro _f_f128 _f_f127 _f_f129 ih_f128 ih_f127 ih_f129 t p deep count r hF
  refine MutCall.enter Tryz.func170 (by kernel_rfl) rfl Tryz.ntmps170 (by simp) (by simp) (by simp) (by simp) ?_
  repeat(first|refine chk.ga ?_|simp -dsimp)
  refine abr.split (fun h1=> ?_) (fun h1=> ?_)
  ·have q2:¬(60<IntKind.i64.wrap (count+1)):=auq h1
   rw[if_neg q2]at hF
   repeat(first|refine chk.ga ?_|simp -dsimp[h1,q2])
   refine abr.split (fun h3=> ?_) (fun h3=> ?_)
   ·have q4:(10<deep):=auq h3
    rw[if_pos q4]at hF
    cases hF
    repeat(first|refine chk.ga ?_|simp -dsimp[h1,q2,h3])
    all_goals(try first|omega|rfl)
   ·have q4:¬(10<deep):=auq h3
    rw[if_neg q4]at hF
    repeat(first|refine chk.ga ?_|simp -dsimp[h1,q2,h3,q4])
    have hF:=ob hF;obtain⟨v,e5,hF⟩:=hF
    refine((C.f114 B hB1 hB2 w t p v e5)).goW (by first|simp[h1,q2,h3,q4];done|simp_all) (by simp) ?_
    repeat(first|refine chk.ga ?_|simp -dsimp[h1,q2,h3,q4])
    refine abr.split (fun h6=> ?_) (fun h6=> ?_)
    ·have q7:¬(v.2=true):=auq h6
     rw[if_neg q7]at hF
     cases hF
     repeat(first|refine chk.ga ?_|simp -dsimp[h1,q2,h3,q4,h6,q7])
     all_goals(try first|omega|rfl)
    ·have q7:(v.2=true):=auq h6
     rw[if_pos q7]at hF
     repeat(first|refine chk.ga ?_|simp -dsimp[h1,q2,h3,q4,h6,q7])
     refine abr.split (fun h8=> ?_) (fun h8=> ?_)
     ·have q9:¬(p.op=2):=auq h8
      rw[if_neg q9]at hF
      repeat(first|refine chk.ga ?_|simp -dsimp[h1,q2,h3,q4,h6,q7,h8,q9])
      refine abr.split (fun h10=> ?_) (fun h10=> ?_)
      ·have q11:(p.op=6):=auq h10
       rw[if_pos q11]at hF
       repeat(first|refine chk.ga ?_|simp -dsimp[h1,q2,h3,q4,h6,q7,h8,q9,h10])
       have hF:=ob hF;obtain⟨o',ho36,hF⟩:=hF
       refine ALoop.goU _ ?_ ((ih_f127 p deep v (IntKind.i64.wrap (count+1)) [(⟨p.var,t⟩:Vl.VarType)] 0 o' ho36) _ rfl _ ?_)
       ·exact(Gh.to3 (by simp) (by first|simp -dsimp[h1,q2,h3,q4,h6,q7,h8,q9,h10];done|simp_all))
       rcases o' with r050|sx
       ·dsimp only at hF
        cases hF
        intro st h
        simpa using h
       ·dsimp only at hF
        repeat(first|refine chk.ga ?_|simp -dsimp)
        have hF:=ob hF;obtain⟨o'48,ho47,hF⟩:=hF
        refine ALoop.goU _ ?_ (((CC.f123 B hB1 hB2 sx) (fun _=>false) 0 o'48 ho47) _ rfl _ ?_)
        ·exact(Gh.to3 (by simp) (by simp -dsimp))
        rcases o'48 with r0|sx49
        ·dsimp only at hF
         cases hF
         intro st h
         simpa using h
        ·dsimp only at hF
         cases hF
         repeat(first|refine chk.ga ?_|simp -dsimp)
         all_goals(try first|omega|rfl)
      ·have q11:¬(p.op=6):=auq h10
       rw[if_neg q11]at hF
       repeat(first|refine chk.ga ?_|simp -dsimp[h1,q2,h3,q4,h6,q7,h8,q9,h10,q11])
       have hF:=ob hF;obtain⟨o'80,ho79,hF⟩:=hF
       refine ALoop.goU ⟨[(0,.arr (List.map Vl.Data.c w)),(3,.lit (.int .i64 deep)),(4,.ptr 0 0),(7,.ptr 2 0),(12,.arr (List.map Vl.Ty.c v.1)),(14,.own 3 (List.length (α:=Vl.VarType) [])),(60,.arr (List.map Vl.Pattern.c p.kids)),(61,.lit (.int .i64 (p.kids.length:Int))),(62,.lit (.int .i64 (0:Int)))],[.cells [.lit (.int .i64 (IntKind.i64.wrap (count+1)))],.dead,.cells [.lit (.int .i64 p.op),.lit (.int .i64 p.ctor),.lit (.int .i64 p.n),.lit (.int .i64 p.m),.lit (.int .i64 p.var),.arr (List.map Vl.Pattern.c p.kids)],.elems 3 (List.map Vl.VarType.c [])]⟩ (by refine Gh.trans (Gh.nil 14 3 (by simp -dsimp)) ?_;exact(Gh.to3 (by simp) (by first|simp -dsimp[h1,q2,h3,q4,h6,q7,h8,q9,h10,q11];done|simp_all))) ?_
       refine(ih_f128 p deep v (IntKind.i64.wrap (count+1)) [] 0 o'80 ho79) _ rfl _ ?_
       rcases o'80 with r097|sx81
       ·dsimp only at hF
        cases hF
        intro st h
        simpa using h
       ·dsimp only at hF
        repeat(first|refine chk.ga ?_|simp -dsimp)
        have hF:=ob hF;obtain⟨o'94,ho93,hF⟩:=hF
        refine ALoop.goU _ ?_ (((CC.f124 B hB1 hB2 sx81) (fun _=>false) 0 o'94 ho93) _ rfl _ ?_)
        ·exact(Gh.to3 (by simp) (by simp -dsimp))
        rcases o'94 with r096|sx95
        ·dsimp only at hF
         cases hF
         intro st h
         simpa using h
        ·dsimp only at hF
         cases hF
         repeat(first|refine chk.ga ?_|simp -dsimp)
         all_goals(try first|omega|rfl)
     ·have q9:(p.op=2):=auq h8
      rw[if_pos q9]at hF
      repeat(first|refine chk.ga ?_|simp -dsimp[h1,q2,h3,q4,h6,q7,h8,q9])
      have hF:=ob hF;obtain⟨o'127,ho126,hF⟩:=hF
      refine ALoop.goU _ ?_ ((ih_f129 p deep v (IntKind.i64.wrap (count+1)) [(⟨p.var,t⟩:Vl.VarType)] 0 o'127 ho126) _ rfl _ ?_)
      ·exact(Gh.to3 (by simp) (by first|simp -dsimp[h1,q2,h3,q4,h6,q7,h8,q9];done|simp_all))
      rcases o'127 with r0144|sx128
      ·dsimp only at hF
       cases hF
       intro st h
       simpa using h
      ·dsimp only at hF
       repeat(first|refine chk.ga ?_|simp -dsimp)
       have hF:=ob hF;obtain⟨o'141,ho140,hF⟩:=hF
       refine ALoop.goU _ ?_ (((CC.f125 B hB1 hB2 sx128) (fun _=>false) 0 o'141 ho140) _ rfl _ ?_)
       ·exact(Gh.to3 (by simp) (by simp -dsimp))
       rcases o'141 with r0143|sx142
       ·dsimp only at hF
        cases hF
        intro st h
        simpa using h
       ·dsimp only at hF
        cases hF
        repeat(first|refine chk.ga ?_|simp -dsimp)
        all_goals(try first|omega|rfl)
  ·have q2:(60<IntKind.i64.wrap (count+1)):=auq h1
   rw[if_pos q2]at hF
   cases hF
   repeat(first|refine chk.ga ?_|simp -dsimp[h1,q2])
   all_goals(try first|omega|rfl)
 ·intro _f_f126 _f_f128 ih_f126 ih_f128 p deep v z51 vars52 i53 o hF
  intro c hc Q hq
  obtain rfl:c=_:=navEq hc rfl
  refine ALoopU.know fun hk hs=> ?_
  have b0:=hk 0
  simp -dsimp at b0
  have b12:=hk 12
  simp -dsimp at b12
  have b60:=hk 60
  simp -dsimp at b60
  have d2:=hs 2 _ rfl
  simp -dsimp[Blk.bnd]at d2
  have d3:=hs 3 _ rfl
  simp -dsimp[Blk.bnd]at d3
  clear hk hs
  refine ALoopU.enter ?_
  repeat(first|refine chk.ga ?_|simp -dsimp)
  refine abr.split (fun h54=> ?_) (fun h54=> ?_)
  ·have q55:(i53<p.kids.length):=auq h54
   have z56:((i53:Int)<(p.kids.length:Int)):=auz
   rw[if_pos q55]at hF
   have hF:=ob hF;obtain⟨x57,e58,hF⟩:=hF
   have le58:=lt_of_get e58
   repeat(first|refine chk.ga ?_|simp -dsimp[h54,z56,↓e58])
   refine ADraw.eff [170] [(0,0),(0,0),(0,0),(0,0),(0,0),(0,0),(0,0),(0,0),(0,0),(0,1),(1,1),(1,1),(1,1),(1,1),(1,1)] [1,1,1,1,1,1,1,1,1,1,1,1,1,1,1] follows (by kernel_rfl) (by kernel_rfl) (by kernel_rfl) ?_
   have hF:=ob hF;obtain⟨x59,e60,hF⟩:=hF
   have le60:=lt_of_get e60
   repeat(first|refine chk.ga ?_|simp -dsimp[h54,z56,↓e58,↓e60])
   have hF:=ob hF;obtain⟨v61,e62,hF⟩:=hF
   refine((ih_f126 x59 x57 (IntKind.i64.wrap (deep+1)) z51 v61 e62)).ego 0 rfl (by first|simp[h54,z56,↓e58,↓e60];done|simp_all) (by simp) (by first|simp[h54,z56,↓e58,↓e60];done|simp_all) ?_
   repeat(first|refine chk.ga ?_|simp -dsimp[h54,z56,↓e58,↓e60])
   refine abr.split (fun h63=> ?_) (fun h63=> ?_)
   ·have q64:¬(v61.2.1=true):=auq h63
    rw[if_neg q64]at hF
    cases hF
    repeat(first|refine chk.ga ?_|simp -dsimp[h54,z56,↓e58,↓e60,h63,q64])
    refine Leave.go _ (Gh.refl _) (hq _ ?_)
    repeat(first|refine chk.ga ?_|simp -dsimp[h54,z56,↓e58,↓e60,h63,q64])
   ·have q64:(v61.2.1=true):=auq h63
    rw[if_pos q64]at hF
    repeat(first|refine chk.ga ?_|simp -dsimp[h54,z56,↓e58,↓e60,h63,q64])
    refine abr.split (fun h65=> ?_) (fun h65=> ?_)
    ·have q66:(p.op=5):=auq h65
     rw[if_pos q66]at hF
     repeat(first|refine chk.ga ?_|simp -dsimp[h54,z56,↓e58,↓e60,h63,q64,h65])
     refine abr.split (fun h67=> ?_) (fun h67=> ?_)
     ·have q68:(i53=1):=auq h67
      have z69:((i53:Int)=(1:Int)):=auz
      rw[if_pos q68]at hF
      repeat(first|refine chk.ga ?_|simp -dsimp[h54,z56,↓e58,↓e60,h63,q64,h65,eq_true h67,eq_true z69])
      have hF:=ob hF;obtain⟨v70,e71,hF⟩:=hF
      refine((C.f122 B hB1 hB2 vars52 v61.1 v70 e71)).lend (by first|simp -dsimp[h54,z56,↓e58,↓e60,h63,q64,h65,eq_true h67,eq_true z69];done|simp_all) (by simp -dsimp) ?_
      repeat(first|refine chk.ga ?_|simp -dsimp[h54,z56,↓e58,↓e60,h63,q64,h65,eq_true h67,eq_true z69])
      refine abr.split (fun h72=> ?_) (fun h72=> ?_)
      ·have q73:¬(v70=true):=auq h72
       rw[if_neg q73]at hF
       cases hF
       repeat(first|refine chk.ga ?_|simp -dsimp[h54,z56,↓e58,↓e60,h63,q64,h65,eq_true h67,eq_true z69,h72,q73])
       refine Leave.go _ (Gh.refl _) (hq _ ?_)
       repeat(first|refine chk.ga ?_|simp -dsimp[h54,z56,↓e58,↓e60,h63,q64,h65,eq_true h67,eq_true z69,h72,q73])
      ·have q73:(v70=true):=auq h72
       rw[if_pos q73]at hF
       have w74:IntKind.i64.wrap ((i53:Int)+1)=(i53:Int)+1:=wrap_in (by omega) (by omega)
       repeat(first|refine chk.ga ?_|simp -dsimp[h54,z56,↓e58,↓e60,h63,q64,h65,eq_true h67,eq_true z69,h72,q73,w74])
       refine Again.go _ ?_ ((ih_f128 p deep v v61.2.2 vars52 (i53+1) o hF) _ rfl _ hq)
       exact(Gh.to3 (by simp) (by first|simp -dsimp[h54,z56,↓e58,↓e60,h63,q64,h65,eq_true h67,eq_true z69,h72,q73,w74];done|simp_all))
     ·have q68:¬(i53=1):=auq h67
      have z69:¬((i53:Int)=(1:Int)):=auz
      rw[if_neg q68]at hF
      have hF:=oc hF;obtain⟨c75,hF⟩:=hF
      have w76:IntKind.i64.wrap ((i53:Int)+1)=(i53:Int)+1:=wrap_in (by omega) (by omega)
      repeat(first|refine chk.ga ?_|simp -dsimp[h54,z56,↓e58,↓e60,h63,q64,h65,h67,q68,z69,w76])
      refine Again.go _ ?_ ((ih_f128 p deep v v61.2.2 (vars52++v61.1) (i53+1) o hF) _ rfl _ hq)
      exact(Gh.to3 (by simp) (by first|simp -dsimp[h54,z56,↓e58,↓e60,h63,q64,h65,h67,q68,z69,w76];done|simp_all))
    ·have q66:¬(p.op=5):=auq h65
     rw[if_neg q66]at hF
     have hF:=oc hF;obtain⟨c77,hF⟩:=hF
     have w78:IntKind.i64.wrap ((i53:Int)+1)=(i53:Int)+1:=wrap_in (by omega) (by omega)
     repeat(first|refine chk.ga ?_|simp -dsimp[h54,z56,↓e58,↓e60,h63,q64,h65,q66,w78])
     refine Again.go _ ?_ ((ih_f128 p deep v v61.2.2 (vars52++v61.1) (i53+1) o hF) _ rfl _ hq)
     exact(Gh.to3 (by simp) (by first|simp -dsimp[h54,z56,↓e58,↓e60,h63,q64,h65,q66,w78];done|simp_all))
  ·have q55:¬(i53<p.kids.length):=auq h54
   have z56:¬((i53:Int)<(p.kids.length:Int)):=auz
   rw[if_neg q55]at hF
   cases hF
   repeat(first|refine chk.ga ?_|simp -dsimp[h54,q55,z56])
   refine Leave.go ⟨[(14,.own 3 (List.length (α:=Vl.VarType) vars52))],[.cells [.lit (.int .i64 z51)],.dead,.dead,.elems 3 (List.map Vl.VarType.c vars52)]⟩ (Gh.to3 (by simp) (by first|simp -dsimp[h54,q55,z56];done|simp_all)) ?_
   exact hq
 ·intro _f_f126 _f_f127 ih_f126 ih_f127 p deep v z vars i o hF
  intro c hc Q hq
  obtain rfl:c=_:=navEq hc rfl
  refine ALoopU.know fun hk hs=> ?_
  have b0:=hk 0
  simp -dsimp at b0
  have b12:=hk 12
  simp -dsimp at b12
  have b60:=hk 60
  simp -dsimp at b60
  have d2:=hs 2 _ rfl
  simp -dsimp[Blk.bnd]at d2
  have d4:=hs 4 _ rfl
  simp -dsimp[Blk.bnd]at d4
  clear hk hs
  refine ALoopU.enter ?_
  repeat(first|refine chk.ga ?_|simp -dsimp)
  refine abr.split (fun h12=> ?_) (fun h12=> ?_)
  ·have q13:(i<p.kids.length):=auq h12
   have z14:((i:Int)<(p.kids.length:Int)):=auz
   rw[if_pos q13]at hF
   have hF:=ob hF;obtain⟨x,e15,hF⟩:=hF
   have le15:=lt_of_get e15
   repeat(first|refine chk.ga ?_|simp -dsimp[h12,z14,↓e15])
   refine ADraw.eff [170] [(0,0),(0,0),(0,0),(0,0),(0,0),(0,0),(0,0),(0,0),(0,0),(0,1),(1,1),(1,1),(1,1),(1,1),(1,1)] [1,1,1,1,1,1,1,1,1,1,1,1,1,1,1] follows (by kernel_rfl) (by kernel_rfl) (by kernel_rfl) ?_
   have hF:=ob hF;obtain⟨x16,e17,hF⟩:=hF
   have le17:=lt_of_get e17
   repeat(first|refine chk.ga ?_|simp -dsimp[h12,z14,↓e15,↓e17])
   have hF:=ob hF;obtain⟨v18,e19,hF⟩:=hF
   refine((ih_f126 x16 x (IntKind.i64.wrap (deep+1)) z v18 e19)).ego 0 rfl (by first|simp[h12,z14,↓e15,↓e17];done|simp_all) (by simp) (by first|simp[h12,z14,↓e15,↓e17];done|simp_all) ?_
   repeat(first|refine chk.ga ?_|simp -dsimp[h12,z14,↓e15,↓e17])
   refine abr.split (fun h20=> ?_) (fun h20=> ?_)
   ·have q21:¬(v18.2.1=true):=auq h20
    rw[if_neg q21]at hF
    cases hF
    repeat(first|refine chk.ga ?_|simp -dsimp[h12,z14,↓e15,↓e17,h20,q21])
    refine Leave.go _ (Gh.refl _) (hq _ ?_)
    repeat(first|refine chk.ga ?_|simp -dsimp[h12,z14,↓e15,↓e17,h20,q21])
   ·have q21:(v18.2.1=true):=auq h20
    rw[if_pos q21]at hF
    repeat(first|refine chk.ga ?_|simp -dsimp[h12,z14,↓e15,↓e17,h20,q21])
    refine abr.split (fun h22=> ?_) (fun h22=> ?_)
    ·have q23:(p.op=5):=auq h22
     rw[if_pos q23]at hF
     repeat(first|refine chk.ga ?_|simp -dsimp[h12,z14,↓e15,↓e17,h20,q21,h22])
     refine abr.split (fun h24=> ?_) (fun h24=> ?_)
     ·have q25:(i=1):=auq h24
      have z26:((i:Int)=(1:Int)):=auz
      rw[if_pos q25]at hF
      repeat(first|refine chk.ga ?_|simp -dsimp[h12,z14,↓e15,↓e17,h20,q21,h22,eq_true h24,eq_true z26])
      have hF:=ob hF;obtain⟨v27,e28,hF⟩:=hF
      refine((C.f122 B hB1 hB2 vars v18.1 v27 e28)).lend (by first|simp -dsimp[h12,z14,↓e15,↓e17,h20,q21,h22,eq_true h24,eq_true z26];done|simp_all) (by simp -dsimp) ?_
      repeat(first|refine chk.ga ?_|simp -dsimp[h12,z14,↓e15,↓e17,h20,q21,h22,eq_true h24,eq_true z26])
      refine abr.split (fun h29=> ?_) (fun h29=> ?_)
      ·have q30:¬(v27=true):=auq h29
       rw[if_neg q30]at hF
       cases hF
       repeat(first|refine chk.ga ?_|simp -dsimp[h12,z14,↓e15,↓e17,h20,q21,h22,eq_true h24,eq_true z26,h29,q30])
       refine Leave.go _ (Gh.refl _) (hq _ ?_)
       repeat(first|refine chk.ga ?_|simp -dsimp[h12,z14,↓e15,↓e17,h20,q21,h22,eq_true h24,eq_true z26,h29,q30])
      ·have q30:(v27=true):=auq h29
       rw[if_pos q30]at hF
       have w31:IntKind.i64.wrap ((i:Int)+1)=(i:Int)+1:=wrap_in (by omega) (by omega)
       repeat(first|refine chk.ga ?_|simp -dsimp[h12,z14,↓e15,↓e17,h20,q21,h22,eq_true h24,eq_true z26,h29,q30,w31])
       refine Again.go _ ?_ ((ih_f127 p deep v v18.2.2 vars (i+1) o hF) _ rfl _ hq)
       exact(Gh.to3 (by simp) (by first|simp -dsimp[h12,z14,↓e15,↓e17,h20,q21,h22,eq_true h24,eq_true z26,h29,q30,w31];done|simp_all))
     ·have q25:¬(i=1):=auq h24
      have z26:¬((i:Int)=(1:Int)):=auz
      rw[if_neg q25]at hF
      have hF:=oc hF;obtain⟨c32,hF⟩:=hF
      have w33:IntKind.i64.wrap ((i:Int)+1)=(i:Int)+1:=wrap_in (by omega) (by omega)
      repeat(first|refine chk.ga ?_|simp -dsimp[h12,z14,↓e15,↓e17,h20,q21,h22,h24,q25,z26,w33])
      refine Again.go _ ?_ ((ih_f127 p deep v v18.2.2 (vars++v18.1) (i+1) o hF) _ rfl _ hq)
      exact(Gh.to3 (by simp) (by first|simp -dsimp[h12,z14,↓e15,↓e17,h20,q21,h22,h24,q25,z26,w33];done|simp_all))
    ·have q23:¬(p.op=5):=auq h22
     rw[if_neg q23]at hF
     have hF:=oc hF;obtain⟨c34,hF⟩:=hF
     have w35:IntKind.i64.wrap ((i:Int)+1)=(i:Int)+1:=wrap_in (by omega) (by omega)
     repeat(first|refine chk.ga ?_|simp -dsimp[h12,z14,↓e15,↓e17,h20,q21,h22,q23,w35])
     refine Again.go _ ?_ ((ih_f127 p deep v v18.2.2 (vars++v18.1) (i+1) o hF) _ rfl _ hq)
     exact(Gh.to3 (by simp) (by first|simp -dsimp[h12,z14,↓e15,↓e17,h20,q21,h22,q23,w35];done|simp_all))
  ·have q13:¬(i<p.kids.length):=auq h12
   have z14:¬((i:Int)<(p.kids.length:Int)):=auz
   rw[if_neg q13]at hF
   cases hF
   repeat(first|refine chk.ga ?_|simp -dsimp[h12,q13,z14])
   refine Leave.go ⟨[(14,.own 4 (List.length (α:=Vl.VarType) vars))],[.cells [.lit (.int .i64 z)],.dead,.dead,.dead,.elems 3 (List.map Vl.VarType.c vars)]⟩ (Gh.to3 (by simp) (by first|simp -dsimp[h12,q13,z14];done|simp_all)) ?_
   exact hq
 ·intro _f_f126 _f_f129 ih_f126 ih_f129 p deep v z98 vars99 i100 o hF
  intro c hc Q hq
  obtain rfl:c=_:=navEq hc rfl
  refine ALoopU.know fun hk hs=> ?_
  have b0:=hk 0
  simp -dsimp at b0
  have b12:=hk 12
  simp -dsimp at b12
  have b60:=hk 60
  simp -dsimp at b60
  have d2:=hs 2 _ rfl
  simp -dsimp[Blk.bnd]at d2
  have d4:=hs 4 _ rfl
  simp -dsimp[Blk.bnd]at d4
  clear hk hs
  refine ALoopU.enter ?_
  repeat(first|refine chk.ga ?_|simp -dsimp)
  refine abr.split (fun h101=> ?_) (fun h101=> ?_)
  ·have q102:(i100<p.kids.length):=auq h101
   have z103:((i100:Int)<(p.kids.length:Int)):=auz
   rw[if_pos q102]at hF
   have hF:=ob hF;obtain⟨x104,e105,hF⟩:=hF
   have le105:=lt_of_get e105
   repeat(first|refine chk.ga ?_|simp -dsimp[h101,z103,↓e105])
   refine ADraw.eff [170] [(0,0),(0,0),(0,0),(0,0),(0,0),(0,0),(0,0),(0,0),(0,0),(0,1),(1,1),(1,1),(1,1),(1,1),(1,1)] [1,1,1,1,1,1,1,1,1,1,1,1,1,1,1] follows (by kernel_rfl) (by kernel_rfl) (by kernel_rfl) ?_
   have hF:=ob hF;obtain⟨x106,e107,hF⟩:=hF
   have le107:=lt_of_get e107
   repeat(first|refine chk.ga ?_|simp -dsimp[h101,z103,↓e105,↓e107])
   have hF:=ob hF;obtain⟨v108,e109,hF⟩:=hF
   refine((ih_f126 x106 x104 (IntKind.i64.wrap (deep+1)) z98 v108 e109)).ego 0 rfl (by first|simp[h101,z103,↓e105,↓e107];done|simp_all) (by simp) (by first|simp[h101,z103,↓e105,↓e107];done|simp_all) ?_
   repeat(first|refine chk.ga ?_|simp -dsimp[h101,z103,↓e105,↓e107])
   refine abr.split (fun h110=> ?_) (fun h110=> ?_)
   ·have q111:¬(v108.2.1=true):=auq h110
    rw[if_neg q111]at hF
    cases hF
    repeat(first|refine chk.ga ?_|simp -dsimp[h101,z103,↓e105,↓e107,h110,q111])
    refine Leave.go _ (Gh.refl _) (hq _ ?_)
    repeat(first|refine chk.ga ?_|simp -dsimp[h101,z103,↓e105,↓e107,h110,q111])
   ·have q111:(v108.2.1=true):=auq h110
    rw[if_pos q111]at hF
    repeat(first|refine chk.ga ?_|simp -dsimp[h101,z103,↓e105,↓e107,h110,q111])
    refine abr.split (fun h112=> ?_) (fun h112=> ?_)
    ·have q113:(p.op=5):=auq h112
     rw[if_pos q113]at hF
     repeat(first|refine chk.ga ?_|simp -dsimp[h101,z103,↓e105,↓e107,h110,q111,h112])
     refine abr.split (fun h114=> ?_) (fun h114=> ?_)
     ·have q115:(i100=1):=auq h114
      have z116:((i100:Int)=(1:Int)):=auz
      rw[if_pos q115]at hF
      repeat(first|refine chk.ga ?_|simp -dsimp[h101,z103,↓e105,↓e107,h110,q111,h112,eq_true h114,eq_true z116])
      have hF:=ob hF;obtain⟨v117,e118,hF⟩:=hF
      refine((C.f122 B hB1 hB2 vars99 v108.1 v117 e118)).lend (by first|simp -dsimp[h101,z103,↓e105,↓e107,h110,q111,h112,eq_true h114,eq_true z116];done|simp_all) (by simp -dsimp) ?_
      repeat(first|refine chk.ga ?_|simp -dsimp[h101,z103,↓e105,↓e107,h110,q111,h112,eq_true h114,eq_true z116])
      refine abr.split (fun h119=> ?_) (fun h119=> ?_)
      ·have q120:¬(v117=true):=auq h119
       rw[if_neg q120]at hF
       cases hF
       repeat(first|refine chk.ga ?_|simp -dsimp[h101,z103,↓e105,↓e107,h110,q111,h112,eq_true h114,eq_true z116,h119,q120])
       refine Leave.go _ (Gh.refl _) (hq _ ?_)
       repeat(first|refine chk.ga ?_|simp -dsimp[h101,z103,↓e105,↓e107,h110,q111,h112,eq_true h114,eq_true z116,h119,q120])
      ·have q120:(v117=true):=auq h119
       rw[if_pos q120]at hF
       have w121:IntKind.i64.wrap ((i100:Int)+1)=(i100:Int)+1:=wrap_in (by omega) (by omega)
       repeat(first|refine chk.ga ?_|simp -dsimp[h101,z103,↓e105,↓e107,h110,q111,h112,eq_true h114,eq_true z116,h119,q120,w121])
       refine Again.go _ ?_ ((ih_f129 p deep v v108.2.2 vars99 (i100+1) o hF) _ rfl _ hq)
       exact(Gh.to3 (by simp) (by first|simp -dsimp[h101,z103,↓e105,↓e107,h110,q111,h112,eq_true h114,eq_true z116,h119,q120,w121];done|simp_all))
     ·have q115:¬(i100=1):=auq h114
      have z116:¬((i100:Int)=(1:Int)):=auz
      rw[if_neg q115]at hF
      have hF:=oc hF;obtain⟨c122,hF⟩:=hF
      have w123:IntKind.i64.wrap ((i100:Int)+1)=(i100:Int)+1:=wrap_in (by omega) (by omega)
      repeat(first|refine chk.ga ?_|simp -dsimp[h101,z103,↓e105,↓e107,h110,q111,h112,h114,q115,z116,w123])
      refine Again.go _ ?_ ((ih_f129 p deep v v108.2.2 (vars99++v108.1) (i100+1) o hF) _ rfl _ hq)
      exact(Gh.to3 (by simp) (by first|simp -dsimp[h101,z103,↓e105,↓e107,h110,q111,h112,h114,q115,z116,w123];done|simp_all))
    ·have q113:¬(p.op=5):=auq h112
     rw[if_neg q113]at hF
     have hF:=oc hF;obtain⟨c124,hF⟩:=hF
     have w125:IntKind.i64.wrap ((i100:Int)+1)=(i100:Int)+1:=wrap_in (by omega) (by omega)
     repeat(first|refine chk.ga ?_|simp -dsimp[h101,z103,↓e105,↓e107,h110,q111,h112,q113,w125])
     refine Again.go _ ?_ ((ih_f129 p deep v v108.2.2 (vars99++v108.1) (i100+1) o hF) _ rfl _ hq)
     exact(Gh.to3 (by simp) (by first|simp -dsimp[h101,z103,↓e105,↓e107,h110,q111,h112,q113,w125];done|simp_all))
  ·have q102:¬(i100<p.kids.length):=auq h101
   have z103:¬((i100:Int)<(p.kids.length:Int)):=auz
   rw[if_neg q102]at hF
   cases hF
   repeat(first|refine chk.ga ?_|simp -dsimp[h101,q102,z103])
   refine Leave.go ⟨[(14,.own 4 (List.length (α:=Vl.VarType) vars99))],[.cells [.lit (.int .i64 z98)],.dead,.dead,.dead,.elems 3 (List.map Vl.VarType.c vars99)]⟩ (Gh.to3 (by simp) (by first|simp -dsimp[h101,q102,z103];done|simp_all)) ?_
   exact hq
theorem C.f130 (w:List Vl.Data)(t:Vl.Ty)(p:Vl.Pattern)(r:(List Vl.VarType)×Bool)(hF:F.f130 w t p=some r):PureCall Tryz.prog B 119 [.arr (List.map Vl.Data.c w),.agg [.lit (.int .i64 t.data),.lit (.int .i64 t.index)],.agg [.lit (.int .i64 p.op),.lit (.int .i64 p.ctor),.lit (.int .i64 p.n),.lit (.int .i64 p.m),.lit (.int .i64 p.var),.arr (List.map Vl.Pattern.c p.kids)]] (.tup [.arr (List.map Vl.VarType.c r.1),.lit (.bool r.2)]):=by
 unfold F.f130 at hF
 refine PureCall.enterLe Tryz.func119 (by kernel_rfl) rfl Tryz.ntmps119 (by simp) (by simp) ?_
 repeat(first|refine chk.ga ?_|simp -dsimp)
 have hF:=ob hF;obtain⟨v,e1,hF⟩:=hF
 refine(((CC.f126 B hB1 hB2 w).1 t p (1:Int) (0:Int) v e1)).go 2 rfl (by simp) (by simp) (by simp) ?_
 cases hF
 repeat(first|refine chk.ga ?_|simp -dsimp)
 all_goals(try first|omega|rfl)
theorem C.f131 (g:Vl.Guard)(vars:List Vl.VarType)(r:Bool)(hF:F.f131 g vars=some r):PureCall Tryz.prog B 167 [.agg [.lit (.int .i64 g.op),.lit (.int .i64 g.var),.lit (.int .i64 g.n)],.arr (List.map Vl.VarType.c vars)] (.lit (.bool r)):=by
 unfold F.f131 at hF
 refine PureCall.enterLe Tryz.func167 (by kernel_rfl) rfl Tryz.ntmps167 (by simp) (by simp) ?_
 repeat(first|refine chk.ga ?_|simp -dsimp)
 refine abr.split (fun h1=> ?_) (fun h1=> ?_)
 ·have q2:(g.op=0):=auq h1
  rw[if_pos q2]at hF
  cases hF
  repeat(first|refine chk.ga ?_|simp -dsimp[h1])
  all_goals(try first|omega|rfl)
 ·have q2:¬(g.op=0):=auq h1
  rw[if_neg q2]at hF
  repeat(first|refine chk.ga ?_|simp -dsimp[h1,q2])
  have hF:=ob hF;obtain⟨v,e3,hF⟩:=hF
  refine((C.f90 B hB1 hB2 g.op (1:Int) (2:Int) v e3)).goW (by first|simp[h1,q2];done|simp_all) (by simp) ?_
  repeat(first|refine chk.ga ?_|simp -dsimp[h1,q2])
  refine abr.split (fun h4=> ?_) (fun h4=> ?_)
  ·have q5:(v=true):=auq h4
   rw[if_pos q5]at hF
   repeat(first|refine chk.ga ?_|simp -dsimp[h1,q2,h4])
   have hF:=ob hF;obtain⟨v6,e7,hF⟩:=hF
   refine((C.f90 B hB1 hB2 g.n (0:Int) (9:Int) v6 e7)).goW (by first|simp[h1,q2,h4];done|simp_all) (by simp) ?_
   repeat(first|refine chk.ga ?_|simp -dsimp[h1,q2,h4])
   refine abr.split (fun h8=> ?_) (fun h8=> ?_)
   ·have q9:(v6=true):=auq h8
    rw[if_pos q9]at hF
    repeat(first|refine chk.ga ?_|simp -dsimp[h1,q2,h4,h8])
    have hF:=ob hF;obtain⟨v10,e11,hF⟩:=hF
    refine((C.f117 B hB1 hB2 vars (⟨g.var,(⟨(-1:Int),(0:Int)⟩:Vl.Ty)⟩:Vl.VarType) v10 e11)).goW (by first|simp[h1,q2,h4,h8];done|simp_all) (by simp) ?_
    cases hF
    repeat(first|refine chk.ga ?_|simp -dsimp[h1,q2,h4,h8])
    all_goals(try first|omega|rfl)
   ·have q9:¬(v6=true):=auq h8
    rw[if_neg q9]at hF
    cases hF
    repeat(first|refine chk.ga ?_|simp -dsimp[h1,q2,h4,h8,q9])
    all_goals(try first|omega|rfl)
  ·have q5:¬(v=true):=auq h4
   rw[if_neg q5]at hF
   cases hF
   repeat(first|refine chk.ga ?_|simp -dsimp[h1,q2,h4,q5])
   all_goals(try first|omega|rfl)
theorem C.f132 (w:List Vl.Data)(t:Vl.Ty)(c':Vl.Clause)(r:Bool)(hF:F.f132 w t c'=some r):PureCall Tryz.prog B 117 [.arr (List.map Vl.Data.c w),.agg [.lit (.int .i64 t.data),.lit (.int .i64 t.index)],.agg [.lit (.int .i64 c'.pat.op),.lit (.int .i64 c'.pat.ctor),.lit (.int .i64 c'.pat.n),.lit (.int .i64 c'.pat.m),.lit (.int .i64 c'.pat.var),.arr (List.map Vl.Pattern.c c'.pat.kids),.lit (.int .i64 c'.guard.op),.lit (.int .i64 c'.guard.var),.lit (.int .i64 c'.guard.n)]] (.lit (.bool r)):=by
 unfold F.f132 at hF
 refine PureCall.enterLe Tryz.func117 (by kernel_rfl) rfl Tryz.ntmps117 (by simp) (by simp) ?_
 repeat(first|refine chk.ga ?_|simp -dsimp)
 have hF:=ob hF;obtain⟨v,e1,hF⟩:=hF
 refine((C.f130 B hB1 hB2 w t c'.pat v e1)).goW (by simp) (by simp) ?_
 repeat(first|refine chk.ga ?_|simp -dsimp)
 refine abr.split (fun h2=> ?_) (fun h2=> ?_)
 ·have q3:(v.2=true):=auq h2
  rw[if_pos q3]at hF
  repeat(first|refine chk.ga ?_|simp -dsimp[h2])
  have hF:=ob hF;obtain⟨v4,e5,hF⟩:=hF
  refine((C.f131 B hB1 hB2 c'.guard v.1 v4 e5)).goW (by first|simp[h2];done|simp_all) (by simp) ?_
  cases hF
  repeat(first|refine chk.ga ?_|simp -dsimp[h2])
  all_goals(try first|omega|rfl)
 ·have q3:¬(v.2=true):=auq h2
  rw[if_neg q3]at hF
  cases hF
  repeat(first|refine chk.ga ?_|simp -dsimp[h2,q3])
  all_goals(try first|omega|rfl)
theorem C.f133 (w:List Vl.Data)(t:Vl.Ty)(c':Vl.Clause)(r:Bool)(hF:F.f133 w t c'=some r):PureCall Tryz.prog B 61 [.arr (List.map Vl.Data.c w),.agg [.lit (.int .i64 t.data),.lit (.int .i64 t.index)],.agg [.lit (.int .i64 c'.pat.op),.lit (.int .i64 c'.pat.ctor),.lit (.int .i64 c'.pat.n),.lit (.int .i64 c'.pat.m),.lit (.int .i64 c'.pat.var),.arr (List.map Vl.Pattern.c c'.pat.kids),.lit (.int .i64 c'.guard.op),.lit (.int .i64 c'.guard.var),.lit (.int .i64 c'.guard.n)]] (.lit (.bool r)):=by
 unfold F.f133 at hF
 refine PureCall.enterLe Tryz.func61 (by kernel_rfl) rfl Tryz.ntmps61 (by simp) (by simp) ?_
 repeat(first|refine chk.ga ?_|simp -dsimp)
 have hF:=ob hF;obtain⟨v,e1,hF⟩:=hF
 refine((C.f103 B hB1 hB2 w t v e1)).goW (by simp) (by simp) ?_
 repeat(first|refine chk.ga ?_|simp -dsimp)
 refine abr.split (fun h2=> ?_) (fun h2=> ?_)
 ·have q3:(v=true):=auq h2
  rw[if_pos q3]at hF
  repeat(first|refine chk.ga ?_|simp -dsimp[h2])
  have hF:=ob hF;obtain⟨v4,e5,hF⟩:=hF
  refine((C.f132 B hB1 hB2 w t c' v4 e5)).goW (by first|simp[h2];done|simp_all) (by simp) ?_
  cases hF
  repeat(first|refine chk.ga ?_|simp -dsimp[h2])
  all_goals(try first|omega|rfl)
 ·have q3:¬(v=true):=auq h2
  rw[if_neg q3]at hF
  cases hF
  repeat(first|refine chk.ga ?_|simp -dsimp[h2,q3])
  all_goals(try first|omega|rfl)
theorem CC.impl_ownPattern__f  :(∀(p:Vl.Pattern) (r:Vl.Pattern),F.f134 p=some r→FCall Tryz.prog B 48 [.agg [.lit (.int .i64 p.op),.lit (.int .i64 p.ctor),.lit (.int .i64 p.n),.lit (.int .i64 p.m),.lit (.int .i64 p.var),.arr (List.map Vl.Pattern.c p.kids)]] (.agg [.lit (.int .i64 r.op),.lit (.int .i64 r.ctor),.lit (.int .i64 r.n),.lit (.int .i64 r.m),.lit (.int .i64 r.var),.arr (List.map Vl.Pattern.c r.kids)]))∧
  (∀(p:Vl.Pattern) (out:List Vl.Pattern) (i:Nat) (o:List Vl.Pattern),F.f135 p out i=some o→∀(R:List (List AV)),∀(U:List Value),RW 6 (List.length (α:=Vl.Pattern) out) R U→∀(c:Code),navO [1,1,1,0,1,0,0] (bodyOf Tryz.f48)=some c→∀(Q:Exit→ASt→Prop),(∀(Rq:List (List AV)) (Uq:List Value),RW 6 (List.length (α:=Vl.Pattern) o) Rq Uq→Q (.exit 0) ⟨[(1,.ptr 1 0),(2,.ptr 2 0)],[.pack [] [],.cells [.lit (.int .i64 p.op),.lit (.int .i64 p.ctor),.lit (.int .i64 p.n),.lit (.int .i64 p.m),.lit (.int .i64 p.var),.own 3 (List.length (α:=Vl.Pattern) o)],.cells [.lit (.int .i64 0),.lit (.int .i64 0),.lit (.int .i64 0),.lit (.int .i64 0),.lit (.int .i64 0),.lit (.slice none 0 0)],.elems 6 Rq,.pack (List.flatten (List.map Vl.Pattern.c o)) Uq]⟩)→ALoopU Tryz.prog B 0 24 (hold c .mk) ⟨[(1,.ptr 1 0),(2,.ptr 2 0),(9,.arr (List.map Vl.Pattern.c p.kids)),(10,.lit (.int .i64 (p.kids.length:Int))),(11,.lit (.int .i64 (i:Int)))],[.pack [] [],.cells [.lit (.int .i64 p.op),.lit (.int .i64 p.ctor),.lit (.int .i64 p.n),.lit (.int .i64 p.m),.lit (.int .i64 p.var),.own 3 (List.length (α:=Vl.Pattern) out)],.cells [.lit (.int .i64 0),.lit (.int .i64 0),.lit (.int .i64 0),.lit (.int .i64 0),.lit (.int .i64 0),.lit (.slice none 0 0)],.elems 6 R,.pack (List.flatten (List.map Vl.Pattern.c out)) U]⟩ (hold Q .mk)):=by
 refine F.f134.mutual_partial_correctness 
  _ _
  ?_ ?_
 ·intro _f_impl_ownPattern__f_l1 ih_impl_ownPattern__f_l1 p r hF
  refine FCall.enterG Tryz.func48 (by kernel_rfl) rfl Tryz.ntmps48 (by simp) (Gh.packZ .nil) ?_
  repeat(first|refine chk.ga ?_|simp -dsimp)
  have hF:=ob hF;obtain⟨o',ho10,hF⟩:=hF
  refine ALoop.goU ⟨[(1,.ptr 1 0),(2,.ptr 2 0),(9,.arr (List.map Vl.Pattern.c p.kids)),(10,.lit (.int .i64 (p.kids.length:Int))),(11,.lit (.int .i64 (0:Int)))],[.pack [] [],.cells [.lit (.int .i64 p.op),.lit (.int .i64 p.ctor),.lit (.int .i64 p.n),.lit (.int .i64 p.m),.lit (.int .i64 p.var),.own 3 (List.length (α:=Vl.Pattern) [])],.cells [.lit (.int .i64 0),.lit (.int .i64 0),.lit (.int .i64 0),.lit (.int .i64 0),.lit (.int .i64 0),.lit (.slice none 0 0)],.elems 6 [],.pack (List.flatten (List.map Vl.Pattern.c [])) []]⟩ (by refine Gh.trans (Gh.nilCell 1 5 6 (by simp -dsimp;rfl) (by simp -dsimp)) ?_;refine Gh.trans (Gh.packZ .nil) ?_;exact(Gh.to3 (by simp) (by simp -dsimp))) ?_
  refine(ih_impl_ownPattern__f_l1 p [] 0 o' ho10) [] [] RW.nil _ rfl _ ?_
  intro Rq Uq Hq2
  cases hF
  repeat(first|refine chk.ga ?_|simp -dsimp[RW.len Hq2,RW.closed Hq2])
  exact⟨_,by decide,(.agg (.lit _ (.lit _ (.lit _ (.lit _ (.lit _ (.ownP 3 _ 6 rfl (by simp) (.blk 4 rfl .nil) (by simp[Hq2.2.2]) (by simp[Hq2.1]) (by simp) (by simp) .nil)))))) .nil:CT _ _ _ _)⟩
 ·intro _f_impl_ownPattern__f _f_impl_ownPattern__f_l1 ih_impl_ownPattern__f ih_impl_ownPattern__f_l1 p out i o hF
  intro R U H1 c hc Q hq
  obtain rfl:c=_:=navEq hc rfl
  refine ALoopU.know fun hk hs=> ?_
  have b9:=hk 9
  simp -dsimp at b9
  have d3:=hs 3 _ rfl
  simp -dsimp[Blk.bnd]at d3
  clear hk hs
  refine ALoopU.enter ?_
  repeat(first|refine chk.ga ?_|simp -dsimp[RW.len H1,RW.closed H1])
  refine abr.split (fun h3=> ?_) (fun h3=> ?_)
  ·have q4:(i<p.kids.length):=auq h3
   have z5:((i:Int)<(p.kids.length:Int)):=auz
   rw[if_pos q4]at hF
   have hF:=ob hF;obtain⟨x,e6,hF⟩:=hF
   have le6:=lt_of_get e6
   repeat(first|refine chk.ga ?_|simp -dsimp[RW.len H1,RW.closed H1,h3,z5,↓e6])
   refine ADraw.effN2 [48] [(0,2),(0,2),(0,0),(0,4),(0,4),(0,4),(3,3),(0,4)] [0,2,1,1,1,1,1,1] 3 (by decide) follows (by kernel_rfl) (by kernel_rfl) (by kernel_rfl) (by kernel_rfl) (by kernel_rfl) rfl ?_
   repeat(first|refine chk.ga ?_|simp -dsimp[RW.len H1,RW.closed H1,h3,z5,↓e6])
   have hF:=ob hF;obtain⟨v,e7,hF⟩:=hF
   refine((ih_impl_ownPattern__f x v e7)).ngo1 (by first|simp -dsimp[RW.len H1,RW.closed H1,h3,z5,↓e6];done|simp_all) (by simp) (fun h o_h=> ?_)
   have hF:=oc hF;obtain⟨c8,hF⟩:=hF
   have w9:IntKind.i64.wrap ((i:Int)+1)=(i:Int)+1:=wrap_in (by omega) (by omega)
   repeat(first|refine chk.ga ?_|simp -dsimp[RW.len H1,RW.closed H1,h3,z5,↓e6,o_h,w9])
   refine Again.go ⟨[(1,.ptr 1 0),(2,.ptr 2 0),(9,.arr (List.map Vl.Pattern.c p.kids)),(10,.lit (.int .i64 (p.kids.length:Int))),(11,.lit (.int .i64 ((i+1):Int)))],[.pack [] [],.cells [.lit (.int .i64 p.op),.lit (.int .i64 p.ctor),.lit (.int .i64 p.n),.lit (.int .i64 p.m),.lit (.int .i64 p.var),.own 3 (List.length (α:=Vl.Pattern) (out++[v]))],.cells [.lit (.int .i64 0),.lit (.int .i64 0),.lit (.int .i64 0),.lit (.int .i64 0),.lit (.int .i64 0),.lit (.slice none 0 0)],.elems 6 (R++[[.lit (.int .i64 v.op),.lit (.int .i64 v.ctor),.lit (.int .i64 v.n),.lit (.int .i64 v.m),.lit (.int .i64 v.var),.lit h]]),.pack (List.flatten (List.map Vl.Pattern.c (out++[v]))) (U++[.int .i64 v.op,.int .i64 v.ctor,.int .i64 v.n,.int .i64 v.m,.int .i64 v.var,h])]⟩ (by refine Gh.trans (Gh.absorb 4 [6] (by exact rfl) (.lit (.int .i64 v.op) (.lit (.int .i64 v.ctor) (.lit (.int .i64 v.n) (.lit (.int .i64 v.m) (.lit (.int .i64 v.var) (.pk 6 (by exact rfl) .nil)))))) (by decide)) ?_;exact(Gh.to3 (by simp) (by first|simp -dsimp[RW.len H1,RW.closed H1,h3,z5,↓e6,o_h,w9];done|simp_all))) ?_
   exact(ih_impl_ownPattern__f_l1 p (out++[v]) (i+1) o hF) (R++[[.lit (.int .i64 v.op),.lit (.int .i64 v.ctor),.lit (.int .i64 v.n),.lit (.int .i64 v.m),.lit (.int .i64 v.var),.lit h]]) (U++[.int .i64 v.op,.int .i64 v.ctor,.int .i64 v.n,.int .i64 v.m,.int .i64 v.var,h]) ((RW.snoc H1 [.int .i64 v.op,.int .i64 v.ctor,.int .i64 v.n,.int .i64 v.m,.int .i64 v.var,h] rfl).cong (by simp) (by simp) rfl) _ rfl _ hq
  ·have q4:¬(i<p.kids.length):=auq h3
   have z5:¬((i:Int)<(p.kids.length:Int)):=auz
   rw[if_neg q4]at hF
   cases hF
   repeat(first|refine chk.ga ?_|simp -dsimp[RW.len H1,RW.closed H1,h3,q4,z5])
   refine Leave.go ⟨[(1,.ptr 1 0),(2,.ptr 2 0)],[.pack [] [],.cells [.lit (.int .i64 p.op),.lit (.int .i64 p.ctor),.lit (.int .i64 p.n),.lit (.int .i64 p.m),.lit (.int .i64 p.var),.own 3 (List.length (α:=Vl.Pattern) out)],.cells [.lit (.int .i64 0),.lit (.int .i64 0),.lit (.int .i64 0),.lit (.int .i64 0),.lit (.int .i64 0),.lit (.slice none 0 0)],.elems 6 R,.pack (List.flatten (List.map Vl.Pattern.c out)) U]⟩ (Gh.to3 (by simp) (by first|simp -dsimp[RW.len H1,RW.closed H1,h3,q4,z5];done|simp_all)) ?_
   exact hq R U H1
theorem CC.f136 (n:Int)(m:Int):(∀(p:Vl.Pattern) (r:Vl.Pattern×Bool),F.f136 p n m=some r→PureCall Tryz.prog B 168 [.agg [.lit (.int .i64 p.op),.lit (.int .i64 p.ctor),.lit (.int .i64 p.n),.lit (.int .i64 p.m),.lit (.int .i64 p.var),.arr (List.map Vl.Pattern.c p.kids)],.lit (.int .i64 n),.lit (.int .i64 m)] (.tup [.agg [.lit (.int .i64 r.1.op),.lit (.int .i64 r.1.ctor),.lit (.int .i64 r.1.n),.lit (.int .i64 r.1.m),.lit (.int .i64 r.1.var),.arr (List.map Vl.Pattern.c r.1.kids)],.lit (.bool r.2)])):=by
 refine F.f136.partial_correctness n m
  _
  ?_
 ·intro _f_f136 ih_f136 p r hF
  refine PureCall.enterLe Tryz.func168 (by kernel_rfl) rfl Tryz.ntmps168 (by simp) (by simp) ?_
  repeat(first|refine chk.ga ?_|simp -dsimp)
  refine abr.split (fun h1=> ?_) (fun h1=> ?_)
  ·have q2:(p.op=1):=auq h1
   rw[if_pos q2]at hF
   cases hF
   repeat(first|refine chk.ga ?_|simp -dsimp[h1])
   all_goals(try first|omega|rfl)
  ·have q2:¬(p.op=1):=auq h1
   rw[if_neg q2]at hF
   repeat(first|refine chk.ga ?_|simp -dsimp[h1,q2])
   refine abr.split (fun h3=> ?_) (fun h3=> ?_)
   ·have q4:(p.op=2):=auq h3
    rw[if_pos q4]at hF
    cases hF
    repeat(first|refine chk.ga ?_|simp -dsimp[h1,q2,h3])
    all_goals(try first|omega|rfl)
   ·have q4:¬(p.op=2):=auq h3
    rw[if_neg q4]at hF
    repeat(first|refine chk.ga ?_|simp -dsimp[h1,q2,h3,q4])
    refine abr.split (fun h5=> ?_) (fun h5=> ?_)
    ·have q6:(p.op=3):=auq h5
     rw[if_pos q6]at hF
     repeat(first|refine chk.ga ?_|simp -dsimp[h1,q2,h3,q4,h5])
     refine ADraw.eff [] [(0,0),(0,1),(0,1),(0,1),(0,1),(0,1),(0,1),(1,1)] [1,0,2,0,2,1,1,1] follows (by kernel_rfl) (by kernel_rfl) (by kernel_rfl) ?_
     cases hF
     repeat(first|refine chk.ga ?_|simp -dsimp[h1,q2,h3,q4,h5])
     all_goals(try first|omega|rfl)
    ·have q6:¬(p.op=3):=auq h5
     rw[if_neg q6]at hF
     repeat(first|refine chk.ga ?_|simp -dsimp[h1,q2,h3,q4,h5,q6])
     refine abr.split (fun h7=> ?_) (fun h7=> ?_)
     ·have q8:(p.op=6):=auq h7
      rw[if_pos q8]at hF
      have hF:=ob hF;obtain⟨x,e9,hF⟩:=hF
      have le9:=lt_of_get e9
      repeat(first|refine chk.ga ?_|simp -dsimp[h1,q2,h3,q4,h5,q6,h7,↓e9])
      have hF:=ob hF;obtain⟨v,e10,hF⟩:=hF
      refine((ih_f136 x v e10)).goW (by first|simp[h1,q2,h3,q4,h5,q6,h7,↓e9];done|simp_all) (by simp) ?_
      cases hF
      repeat(first|refine chk.ga ?_|simp -dsimp[h1,q2,h3,q4,h5,q6,h7,↓e9])
      all_goals(try first|omega|rfl)
     ·have q8:¬(p.op=6):=auq h7
      rw[if_neg q8]at hF
      have hF:=ob hF;obtain⟨x11,e12,hF⟩:=hF
      have le12:=lt_of_get e12
      repeat(first|refine chk.ga ?_|simp -dsimp[h1,q2,h3,q4,h5,q6,h7,q8,↓e12])
      have hF:=ob hF;obtain⟨v13,e14,hF⟩:=hF
      refine((ih_f136 x11 v13 e14)).goW (by first|simp[h1,q2,h3,q4,h5,q6,h7,q8,↓e12];done|simp_all) (by simp) ?_
      have hF:=ob hF;obtain⟨x15,e16,hF⟩:=hF
      have le16:=lt_of_get e16
      repeat(first|refine chk.ga ?_|simp -dsimp[h1,q2,h3,q4,h5,q6,h7,q8,↓e12,↓e16])
      have hF:=ob hF;obtain⟨v17,e18,hF⟩:=hF
      refine((ih_f136 x15 v17 e18)).goW (by first|simp[h1,q2,h3,q4,h5,q6,h7,q8,↓e12,↓e16];done|simp_all) (by simp) ?_
      repeat(first|refine chk.ga ?_|simp -dsimp[h1,q2,h3,q4,h5,q6,h7,q8,↓e12,↓e16])
      refine abr.split (fun h19=> ?_) (fun h19=> ?_)
      ·have q20:(v13.2=true):=auq h19
       rw[if_pos q20]at hF
       repeat(first|refine chk.ga ?_|simp -dsimp[h1,q2,h3,q4,h5,q6,h7,q8,↓e12,↓e16,h19])
       refine abr.split (fun h21=> ?_) (fun h21=> ?_)
       ·have q22:(v17.2=true):=auq h21
        rw[if_pos q22]at hF
        cases hF
        repeat(first|refine chk.ga ?_|simp -dsimp[h1,q2,h3,q4,h5,q6,h7,q8,↓e12,↓e16,h19,h21])
        all_goals(try first|omega|rfl)
       ·have q22:¬(v17.2=true):=auq h21
        rw[if_neg q22]at hF
        cases hF
        repeat(first|refine chk.ga ?_|simp -dsimp[h1,q2,h3,q4,h5,q6,h7,q8,↓e12,↓e16,h19,h21,q22])
        all_goals(try first|omega|rfl)
      ·have q20:¬(v13.2=true):=auq h19
       rw[if_neg q20]at hF
       cases hF
       repeat(first|refine chk.ga ?_|simp -dsimp[h1,q2,h3,q4,h5,q6,h7,q8,↓e12,↓e16,h19,q20])
       all_goals(try first|omega|rfl)
theorem C.f137 (s:List Vl.Pattern)(r:List Vl.Pattern)(hF:F.f137 s=some r):BCall Tryz.prog B 169 [] [.arr (List.map Vl.Pattern.c s)] (.own 0 (List.length (α:=Vl.Pattern) r)) [.elems 6 (List.map Vl.Pattern.c r)]:=by
 unfold F.f137 at hF
 have hF:=oc hF;obtain⟨c1,hF⟩:=hF
 cases hF
 cases s with
 |nil=>
  refine BCall.empty1 fun a c=> ?_
  cases a
  ·refine BCall.ofNil 6 (by simp) (by simp) ?_
   refine PureCall.enterLe Tryz.func169 (by kernel_rfl) rfl Tryz.ntmps169 (by simp) (by simp) ?_
   repeat(first|refine chk.ga ?_|simp -dsimp)
  ·refine BCall.enter Tryz.func169 (by kernel_rfl) rfl Tryz.ntmps169 (by simp) rfl (by simp) (by simp) (by simp) (by simp) (by simp) (Gh.refl _) ?_
   repeat(first|refine chk.ga ?_|simp -dsimp)
 |cons x xs=>
  have c1:xs.length+1≤67108864:=by simpa using c1
  refine BCall.enter Tryz.func169 (by kernel_rfl) rfl Tryz.ntmps169 (by simp) rfl (by simp) (by simp) (by simp) (by simp) (by simp) (Gh.refl _) ?_
  repeat(first|refine chk.ga ?_|simp -dsimp)
theorem CC.f138 (v:Int)(n:Int)(m:Int):(∀(p:Vl.Pattern) (r:Vl.Pattern×Bool×Bool),F.f138 p v n m=some r→PureCall Tryz.prog B 118 [.agg [.lit (.int .i64 p.op),.lit (.int .i64 p.ctor),.lit (.int .i64 p.n),.lit (.int .i64 p.m),.lit (.int .i64 p.var),.arr (List.map Vl.Pattern.c p.kids)],.lit (.int .i64 v),.lit (.int .i64 n),.lit (.int .i64 m)] (.tup [.agg [.lit (.int .i64 r.1.op),.lit (.int .i64 r.1.ctor),.lit (.int .i64 r.1.n),.lit (.int .i64 r.1.m),.lit (.int .i64 r.1.var),.arr (List.map Vl.Pattern.c r.1.kids)],.lit (.bool r.2.1),.lit (.bool r.2.2)]))∧
  (∀(p:Vl.Pattern) (i25:Nat) (o:Lo (Vl.Pattern×Bool×Bool) Unit),F.f140 p v n m i25=some o→∀(c:Code),navO [1,1,1,0,1,0,0] (bodyOf Tryz.f118)=some c→∀(Q:Exit→ASt→Prop),o.post (fun r=>∀st,Post Tryz.prog Tryz.f118 (fun r' _=>r'.le (.tup [.agg [.lit (.int .i64 r.1.op),.lit (.int .i64 r.1.ctor),.lit (.int .i64 r.1.n),.lit (.int .i64 r.1.m),.lit (.int .i64 r.1.var),.arr (List.map Vl.Pattern.c r.1.kids)],.lit (.bool r.2.1),.lit (.bool r.2.2)])) .ret st→Q .ret st) (fun s=>Q (.exit 0) ⟨[(4,.ptr 0 0),(8,.ptr 1 0)],[.cells [.lit (.int .i64 p.op),.lit (.int .i64 p.ctor),.lit (.int .i64 p.n),.lit (.int .i64 p.m),.lit (.int .i64 p.var),.arr (List.map Vl.Pattern.c p.kids)],.cells [.lit (.int .i64 0),.lit (.int .i64 0),.lit (.int .i64 0),.lit (.int .i64 0),.lit (.int .i64 0),.lit (.slice none 0 0)]]⟩)→ALoopU Tryz.prog B 0 75 (hold c .mk) ⟨[(1,.lit (.int .i64 v)),(2,.lit (.int .i64 n)),(3,.lit (.int .i64 m)),(4,.ptr 0 0),(8,.ptr 1 0),(44,.arr (List.map Vl.Pattern.c p.kids)),(45,.lit (.int .i64 (p.kids.length:Int))),(46,.lit (.int .i64 (i25:Int)))],[.cells [.lit (.int .i64 p.op),.lit (.int .i64 p.ctor),.lit (.int .i64 p.n),.lit (.int .i64 p.m),.lit (.int .i64 p.var),.arr (List.map Vl.Pattern.c p.kids)],.cells [.lit (.int .i64 0),.lit (.int .i64 0),.lit (.int .i64 0),.lit (.int .i64 0),.lit (.int .i64 0),.lit (.slice none 0 0)]]⟩ (hold Q .mk))∧
  (∀(p:Vl.Pattern) (i:Nat) (o:Lo (Vl.Pattern×Bool×Bool) Unit),F.f139 p v n m i=some o→∀(c:Code),navO [1,1,1,0,1,0,0] (bodyOf Tryz.f118)=some c→∀(Q:Exit→ASt→Prop),o.post (fun r=>∀st,Post Tryz.prog Tryz.f118 (fun r' _=>r'.le (.tup [.agg [.lit (.int .i64 r.1.op),.lit (.int .i64 r.1.ctor),.lit (.int .i64 r.1.n),.lit (.int .i64 r.1.m),.lit (.int .i64 r.1.var),.arr (List.map Vl.Pattern.c r.1.kids)],.lit (.bool r.2.1),.lit (.bool r.2.2)])) .ret st→Q .ret st) (fun s=>Q (.exit 0) ⟨[(4,.ptr 0 0),(8,.ptr 1 0)],[.cells [.lit (.int .i64 p.op),.lit (.int .i64 p.ctor),.lit (.int .i64 p.n),.lit (.int .i64 p.m),.lit (.int .i64 p.var),.arr (List.map Vl.Pattern.c p.kids)],.cells [.lit (.int .i64 0),.lit (.int .i64 0),.lit (.int .i64 0),.lit (.int .i64 0),.lit (.int .i64 0),.lit (.slice none 0 0)]]⟩)→ALoopU Tryz.prog B 0 75 (hold c .mk) ⟨[(1,.lit (.int .i64 v)),(2,.lit (.int .i64 n)),(3,.lit (.int .i64 m)),(4,.ptr 0 0),(8,.ptr 1 0),(44,.arr (List.map Vl.Pattern.c p.kids)),(45,.lit (.int .i64 (p.kids.length:Int))),(46,.lit (.int .i64 (i:Int)))],[.cells [.lit (.int .i64 p.op),.lit (.int .i64 p.ctor),.lit (.int .i64 p.n),.lit (.int .i64 p.m),.lit (.int .i64 p.var),.arr (List.map Vl.Pattern.c p.kids)],.cells [.lit (.int .i64 0),.lit (.int .i64 0),.lit (.int .i64 0),.lit (.int .i64 0),.lit (.int .i64 0),.lit (.slice none 0 0)]]⟩ (hold Q .mk))∧
  (∀(p:Vl.Pattern) (i48:Nat) (o:Lo (Vl.Pattern×Bool×Bool) Unit),F.f141 p v n m i48=some o→∀(c:Code),navO [1,1,1,0,1,0,0] (bodyOf Tryz.f118)=some c→∀(Q:Exit→ASt→Prop),o.post (fun r=>∀st,Post Tryz.prog Tryz.f118 (fun r' _=>r'.le (.tup [.agg [.lit (.int .i64 r.1.op),.lit (.int .i64 r.1.ctor),.lit (.int .i64 r.1.n),.lit (.int .i64 r.1.m),.lit (.int .i64 r.1.var),.arr (List.map Vl.Pattern.c r.1.kids)],.lit (.bool r.2.1),.lit (.bool r.2.2)])) .ret st→Q .ret st) (fun s=>Q (.exit 0) ⟨[(4,.ptr 0 0),(8,.ptr 1 0)],[.cells [.lit (.int .i64 p.op),.lit (.int .i64 p.ctor),.lit (.int .i64 p.n),.lit (.int .i64 p.m),.lit (.int .i64 p.var),.arr (List.map Vl.Pattern.c p.kids)],.cells [.lit (.int .i64 0),.lit (.int .i64 0),.lit (.int .i64 0),.lit (.int .i64 0),.lit (.int .i64 0),.lit (.slice none 0 0)]]⟩)→ALoopU Tryz.prog B 0 75 (hold c .mk) ⟨[(1,.lit (.int .i64 v)),(2,.lit (.int .i64 n)),(3,.lit (.int .i64 m)),(4,.ptr 0 0),(8,.ptr 1 0),(44,.arr (List.map Vl.Pattern.c p.kids)),(45,.lit (.int .i64 (p.kids.length:Int))),(46,.lit (.int .i64 (i48:Int)))],[.cells [.lit (.int .i64 p.op),.lit (.int .i64 p.ctor),.lit (.int .i64 p.n),.lit (.int .i64 p.m),.lit (.int .i64 p.var),.arr (List.map Vl.Pattern.c p.kids)],.cells [.lit (.int .i64 0),.lit (.int .i64 0),.lit (.int .i64 0),.lit (.int .i64 0),.lit (.int .i64 0),.lit (.slice none 0 0)]]⟩ (hold Q .mk)):=by
 refine F.f138.mutual_partial_correctness v n m
  _ _ _ _
  ?_ ?_ ?_ ?_
 ·intro _f_f140 _f_f139 _f_f141 ih_f140 ih_f139 ih_f141 p r hF
  refine PureCall.enterLe Tryz.func118 (by kernel_rfl) rfl Tryz.ntmps118 (by simp) (by simp) ?_
  repeat(first|refine chk.ga ?_|simp -dsimp)
  refine abr.split (fun h1=> ?_) (fun h1=> ?_)
  ·have q2:¬(p.op=2):=auq h1
   rw[if_neg q2]at hF
   repeat(first|refine chk.ga ?_|simp -dsimp[h1,q2])
   refine abr.split (fun h3=> ?_) (fun h3=> ?_)
   ·have q4:(p.op=6):=auq h3
    rw[if_pos q4]at hF
    repeat(first|refine chk.ga ?_|simp -dsimp[h1,q2,h3])
    refine abr.split (fun h5=> ?_) (fun h5=> ?_)
    ·have q6:(p.var=v):=auq h5
     rw[if_pos q6]at hF
     repeat(first|refine chk.ga ?_|simp -dsimp[h1,q2,h3,h5])
     have hF:=ob hF;obtain⟨v7,e8,hF⟩:=hF
     refine(((CC.f136 B hB1 hB2 n m) p v7 e8)).goW (by first|simp[h1,q2,h3,h5];done|simp_all) (by simp) ?_
     cases hF
     repeat(first|refine chk.ga ?_|simp -dsimp[h1,q2,h3,h5])
     all_goals(try first|omega|rfl)
    ·have q6:¬(p.var=v):=auq h5
     rw[if_neg q6]at hF
     repeat(first|refine chk.ga ?_|simp -dsimp[h1,q2,h3,h5,q6])
     have hF:=ob hF;obtain⟨o',ho22,hF⟩:=hF
     refine ALoop.goU _ ?_ ((ih_f139 p 0 o' ho22) _ rfl _ ?_)
     ·exact(Gh.to3 (by simp) (by first|simp -dsimp[h1,q2,h3,h5,q6];done|simp_all))
     rcases o' with r0|sx
     ·dsimp only at hF
      cases hF
      intro st h
      simpa using h
     ·dsimp only at hF
      cases hF
      repeat(first|refine chk.ga ?_|simp -dsimp)
      all_goals(try first|omega|rfl)
   ·have q4:¬(p.op=6):=auq h3
    rw[if_neg q4]at hF
    repeat(first|refine chk.ga ?_|simp -dsimp[h1,q2,h3,q4])
    refine abr.split (fun h23=> ?_) (fun h23=> ?_)
    ·have q24:(p.op=5):=auq h23
     rw[if_pos q24]at hF
     cases hF
     repeat(first|refine chk.ga ?_|simp -dsimp[h1,q2,h3,q4,h23])
     all_goals(try first|omega|rfl)
    ·have q24:¬(p.op=5):=auq h23
     rw[if_neg q24]at hF
     repeat(first|refine chk.ga ?_|simp -dsimp[h1,q2,h3,q4,h23,q24])
     have hF:=ob hF;obtain⟨o'41,ho40,hF⟩:=hF
     refine ALoop.goU _ ?_ ((ih_f140 p 0 o'41 ho40) _ rfl _ ?_)
     ·exact(Gh.to3 (by simp) (by first|simp -dsimp[h1,q2,h3,q4,h23,q24];done|simp_all))
     rcases o'41 with r043|sx42
     ·dsimp only at hF
      cases hF
      intro st h
      simpa using h
     ·dsimp only at hF
      cases hF
      repeat(first|refine chk.ga ?_|simp -dsimp)
      all_goals(try first|omega|rfl)
  ·have q2:(p.op=2):=auq h1
   rw[if_pos q2]at hF
   repeat(first|refine chk.ga ?_|simp -dsimp[h1,q2])
   refine abr.split (fun h44=> ?_) (fun h44=> ?_)
   ·have q45:(p.var=v):=auq h44
    rw[if_pos q45]at hF
    repeat(first|refine chk.ga ?_|simp -dsimp[h1,q2,h44])
    have hF:=ob hF;obtain⟨v46,e47,hF⟩:=hF
    refine(((CC.f136 B hB1 hB2 n m) p v46 e47)).goW (by first|simp[h1,q2,h44];done|simp_all) (by simp) ?_
    cases hF
    repeat(first|refine chk.ga ?_|simp -dsimp[h1,q2,h44])
    all_goals(try first|omega|rfl)
   ·have q45:¬(p.var=v):=auq h44
    rw[if_neg q45]at hF
    repeat(first|refine chk.ga ?_|simp -dsimp[h1,q2,h44,q45])
    have hF:=ob hF;obtain⟨o'64,ho63,hF⟩:=hF
    refine ALoop.goU _ ?_ ((ih_f141 p 0 o'64 ho63) _ rfl _ ?_)
    ·exact(Gh.to3 (by simp) (by first|simp -dsimp[h1,q2,h44,q45];done|simp_all))
    rcases o'64 with r066|sx65
    ·dsimp only at hF
     cases hF
     intro st h
     simpa using h
    ·dsimp only at hF
     cases hF
     repeat(first|refine chk.ga ?_|simp -dsimp)
     all_goals(try first|omega|rfl)
 ·intro _f_f138 _f_f140 ih_f138 ih_f140 p i25 o hF
  intro c hc Q hq
  obtain rfl:c=_:=navEq hc rfl
  refine ALoopU.know fun hk hs=> ?_
  have b44:=hk 44
  simp -dsimp at b44
  have d0:=hs 0 _ rfl
  simp -dsimp[Blk.bnd]at d0
  clear hk hs
  refine ALoopU.enter ?_
  repeat(first|refine chk.ga ?_|simp -dsimp)
  refine abr.split (fun h26=> ?_) (fun h26=> ?_)
  ·have q27:(i25<p.kids.length):=auq h26
   have z28:((i25:Int)<(p.kids.length:Int)):=auz
   rw[if_pos q27]at hF
   have hF:=ob hF;obtain⟨x29,e30,hF⟩:=hF
   have le30:=lt_of_get e30
   repeat(first|refine chk.ga ?_|simp -dsimp[h26,z28,↓e30])
   have hF:=ob hF;obtain⟨v31,e32,hF⟩:=hF
   refine((ih_f138 x29 v31 e32)).goW (by first|simp[h26,z28,↓e30];done|simp_all) (by simp) ?_
   repeat(first|refine chk.ga ?_|simp -dsimp[h26,z28,↓e30])
   refine abr.split (fun h33=> ?_) (fun h33=> ?_)
   ·have q34:(v31.2.1=true):=auq h33
    rw[if_pos q34]at hF
    repeat(first|refine chk.ga ?_|simp -dsimp[h26,z28,↓e30,h33])
    have hF:=ob hF;obtain⟨v35,e36,hF⟩:=hF
    refine((C.f137 B hB1 hB2 p.kids v35 e36)).go (pl [4]) (by simp) (by simp) (by intro i j hi;simp at hi) (by intro i hi hi';simp at hi hi';first|omega|(subst hi';simp[pl])) (by first|simp[h26,z28,↓e30,h33];done|simp_all) (by first|simp[h26,z28,↓e30,h33];done|simp_all) ?_
    have hF:=ob hF;obtain⟨x37,e38,hF⟩:=hF
    have le38:=lt_of_get e38
    cases hF
    repeat(first|refine chk.ga ?_|simp -dsimp[h26,z28,↓e30,h33,↓e38])
    refine Leave.go _ (Gh.refl _) (hq _ ?_)
    repeat(first|refine chk.ga ?_|simp -dsimp[h26,z28,↓e30,h33,↓e38])
   ·have q34:¬(v31.2.1=true):=auq h33
    rw[if_neg q34]at hF
    have w39:IntKind.i64.wrap ((i25:Int)+1)=(i25:Int)+1:=wrap_in (by omega) (by omega)
    repeat(first|refine chk.ga ?_|simp -dsimp[h26,z28,↓e30,h33,q34,w39])
    refine Again.go _ ?_ ((ih_f140 p (i25+1) o hF) _ rfl _ hq)
    exact(Gh.to3 (by simp) (by first|simp -dsimp[h26,z28,↓e30,h33,q34,w39];done|simp_all))
  ·have q27:¬(i25<p.kids.length):=auq h26
   have z28:¬((i25:Int)<(p.kids.length:Int)):=auz
   rw[if_neg q27]at hF
   cases hF
   repeat(first|refine chk.ga ?_|simp -dsimp[h26,q27,z28])
   refine Leave.go ⟨[(4,.ptr 0 0),(8,.ptr 1 0)],[.cells [.lit (.int .i64 p.op),.lit (.int .i64 p.ctor),.lit (.int .i64 p.n),.lit (.int .i64 p.m),.lit (.int .i64 p.var),.arr (List.map Vl.Pattern.c p.kids)],.cells [.lit (.int .i64 0),.lit (.int .i64 0),.lit (.int .i64 0),.lit (.int .i64 0),.lit (.int .i64 0),.lit (.slice none 0 0)]]⟩ (Gh.to3 (by simp) (by first|simp -dsimp[h26,q27,z28];done|simp_all)) ?_
   exact hq
 ·intro _f_f138 _f_f139 ih_f138 ih_f139 p i o hF
  intro c hc Q hq
  obtain rfl:c=_:=navEq hc rfl
  refine ALoopU.know fun hk hs=> ?_
  have b44:=hk 44
  simp -dsimp at b44
  have d0:=hs 0 _ rfl
  simp -dsimp[Blk.bnd]at d0
  clear hk hs
  refine ALoopU.enter ?_
  repeat(first|refine chk.ga ?_|simp -dsimp)
  refine abr.split (fun h9=> ?_) (fun h9=> ?_)
  ·have q10:(i<p.kids.length):=auq h9
   have z11:((i:Int)<(p.kids.length:Int)):=auz
   rw[if_pos q10]at hF
   have hF:=ob hF;obtain⟨x,e12,hF⟩:=hF
   have le12:=lt_of_get e12
   repeat(first|refine chk.ga ?_|simp -dsimp[h9,z11,↓e12])
   have hF:=ob hF;obtain⟨v13,e14,hF⟩:=hF
   refine((ih_f138 x v13 e14)).goW (by first|simp[h9,z11,↓e12];done|simp_all) (by simp) ?_
   repeat(first|refine chk.ga ?_|simp -dsimp[h9,z11,↓e12])
   refine abr.split (fun h15=> ?_) (fun h15=> ?_)
   ·have q16:(v13.2.1=true):=auq h15
    rw[if_pos q16]at hF
    repeat(first|refine chk.ga ?_|simp -dsimp[h9,z11,↓e12,h15])
    have hF:=ob hF;obtain⟨v17,e18,hF⟩:=hF
    refine((C.f137 B hB1 hB2 p.kids v17 e18)).go (pl [4]) (by simp) (by simp) (by intro i j hi;simp at hi) (by intro i hi hi';simp at hi hi';first|omega|(subst hi';simp[pl])) (by first|simp[h9,z11,↓e12,h15];done|simp_all) (by first|simp[h9,z11,↓e12,h15];done|simp_all) ?_
    have hF:=ob hF;obtain⟨x19,e20,hF⟩:=hF
    have le20:=lt_of_get e20
    cases hF
    repeat(first|refine chk.ga ?_|simp -dsimp[h9,z11,↓e12,h15,↓e20])
    refine Leave.go _ (Gh.refl _) (hq _ ?_)
    repeat(first|refine chk.ga ?_|simp -dsimp[h9,z11,↓e12,h15,↓e20])
   ·have q16:¬(v13.2.1=true):=auq h15
    rw[if_neg q16]at hF
    have w21:IntKind.i64.wrap ((i:Int)+1)=(i:Int)+1:=wrap_in (by omega) (by omega)
    repeat(first|refine chk.ga ?_|simp -dsimp[h9,z11,↓e12,h15,q16,w21])
    refine Again.go _ ?_ ((ih_f139 p (i+1) o hF) _ rfl _ hq)
    exact(Gh.to3 (by simp) (by first|simp -dsimp[h9,z11,↓e12,h15,q16,w21];done|simp_all))
  ·have q10:¬(i<p.kids.length):=auq h9
   have z11:¬((i:Int)<(p.kids.length:Int)):=auz
   rw[if_neg q10]at hF
   cases hF
   repeat(first|refine chk.ga ?_|simp -dsimp[h9,q10,z11])
   refine Leave.go ⟨[(4,.ptr 0 0),(8,.ptr 1 0)],[.cells [.lit (.int .i64 p.op),.lit (.int .i64 p.ctor),.lit (.int .i64 p.n),.lit (.int .i64 p.m),.lit (.int .i64 p.var),.arr (List.map Vl.Pattern.c p.kids)],.cells [.lit (.int .i64 0),.lit (.int .i64 0),.lit (.int .i64 0),.lit (.int .i64 0),.lit (.int .i64 0),.lit (.slice none 0 0)]]⟩ (Gh.to3 (by simp) (by first|simp -dsimp[h9,q10,z11];done|simp_all)) ?_
   exact hq
 ·intro _f_f138 _f_f141 ih_f138 ih_f141 p i48 o hF
  intro c hc Q hq
  obtain rfl:c=_:=navEq hc rfl
  refine ALoopU.know fun hk hs=> ?_
  have b44:=hk 44
  simp -dsimp at b44
  have d0:=hs 0 _ rfl
  simp -dsimp[Blk.bnd]at d0
  clear hk hs
  refine ALoopU.enter ?_
  repeat(first|refine chk.ga ?_|simp -dsimp)
  refine abr.split (fun h49=> ?_) (fun h49=> ?_)
  ·have q50:(i48<p.kids.length):=auq h49
   have z51:((i48:Int)<(p.kids.length:Int)):=auz
   rw[if_pos q50]at hF
   have hF:=ob hF;obtain⟨x52,e53,hF⟩:=hF
   have le53:=lt_of_get e53
   repeat(first|refine chk.ga ?_|simp -dsimp[h49,z51,↓e53])
   have hF:=ob hF;obtain⟨v54,e55,hF⟩:=hF
   refine((ih_f138 x52 v54 e55)).goW (by first|simp[h49,z51,↓e53];done|simp_all) (by simp) ?_
   repeat(first|refine chk.ga ?_|simp -dsimp[h49,z51,↓e53])
   refine abr.split (fun h56=> ?_) (fun h56=> ?_)
   ·have q57:(v54.2.1=true):=auq h56
    rw[if_pos q57]at hF
    repeat(first|refine chk.ga ?_|simp -dsimp[h49,z51,↓e53,h56])
    have hF:=ob hF;obtain⟨v58,e59,hF⟩:=hF
    refine((C.f137 B hB1 hB2 p.kids v58 e59)).go (pl [4]) (by simp) (by simp) (by intro i j hi;simp at hi) (by intro i hi hi';simp at hi hi';first|omega|(subst hi';simp[pl])) (by first|simp[h49,z51,↓e53,h56];done|simp_all) (by first|simp[h49,z51,↓e53,h56];done|simp_all) ?_
    have hF:=ob hF;obtain⟨x60,e61,hF⟩:=hF
    have le61:=lt_of_get e61
    cases hF
    repeat(first|refine chk.ga ?_|simp -dsimp[h49,z51,↓e53,h56,↓e61])
    refine Leave.go _ (Gh.refl _) (hq _ ?_)
    repeat(first|refine chk.ga ?_|simp -dsimp[h49,z51,↓e53,h56,↓e61])
   ·have q57:¬(v54.2.1=true):=auq h56
    rw[if_neg q57]at hF
    have w62:IntKind.i64.wrap ((i48:Int)+1)=(i48:Int)+1:=wrap_in (by omega) (by omega)
    repeat(first|refine chk.ga ?_|simp -dsimp[h49,z51,↓e53,h56,q57,w62])
    refine Again.go _ ?_ ((ih_f141 p (i48+1) o hF) _ rfl _ hq)
    exact(Gh.to3 (by simp) (by first|simp -dsimp[h49,z51,↓e53,h56,q57,w62];done|simp_all))
  ·have q50:¬(i48<p.kids.length):=auq h49
   have z51:¬((i48:Int)<(p.kids.length:Int)):=auz
   rw[if_neg q50]at hF
   cases hF
   repeat(first|refine chk.ga ?_|simp -dsimp[h49,q50,z51])
   refine Leave.go ⟨[(4,.ptr 0 0),(8,.ptr 1 0)],[.cells [.lit (.int .i64 p.op),.lit (.int .i64 p.ctor),.lit (.int .i64 p.n),.lit (.int .i64 p.m),.lit (.int .i64 p.var),.arr (List.map Vl.Pattern.c p.kids)],.cells [.lit (.int .i64 0),.lit (.int .i64 0),.lit (.int .i64 0),.lit (.int .i64 0),.lit (.int .i64 0),.lit (.slice none 0 0)]]⟩ (Gh.to3 (by simp) (by first|simp -dsimp[h49,q50,z51];done|simp_all)) ?_
   exact hq
theorem C.f142 (c':Vl.Clause)(r:Vl.Pattern×Bool×Bool)(hF:F.f142 c'=some r):PureCall Tryz.prog B 62 [.agg [.lit (.int .i64 c'.pat.op),.lit (.int .i64 c'.pat.ctor),.lit (.int .i64 c'.pat.n),.lit (.int .i64 c'.pat.m),.lit (.int .i64 c'.pat.var),.arr (List.map Vl.Pattern.c c'.pat.kids),.lit (.int .i64 c'.guard.op),.lit (.int .i64 c'.guard.var),.lit (.int .i64 c'.guard.n)]] (.tup [.agg [.lit (.int .i64 r.1.op),.lit (.int .i64 r.1.ctor),.lit (.int .i64 r.1.n),.lit (.int .i64 r.1.m),.lit (.int .i64 r.1.var),.arr (List.map Vl.Pattern.c r.1.kids)],.lit (.bool r.2.1),.lit (.bool r.2.2)]):=by
 unfold F.f142 at hF
 refine PureCall.enterLe Tryz.func62 (by kernel_rfl) rfl Tryz.ntmps62 (by simp) (by simp) ?_
 repeat(first|refine chk.ga ?_|simp -dsimp)
 refine ADraw.simple follows (by kernel_rfl) (by kernel_rfl) ?_
 repeat(first|refine chk.ga ?_|simp -dsimp)
 refine abr.split (fun h1=> ?_) (fun h1=> ?_)
 ·have q2:(c'.guard.op=2):=auq h1
  rw[if_pos q2]at hF
  repeat(first|refine chk.ga ?_|simp -dsimp[h1])
  refine ADraw.simple follows (by kernel_rfl) (by kernel_rfl) ?_
  repeat(first|refine chk.ga ?_|simp -dsimp[h1])
  have hF:=ob hF;obtain⟨v,e3,hF⟩:=hF
  refine(((CC.f138 B hB1 hB2 c'.guard.var c'.guard.n c'.guard.n).1 c'.pat v e3)).goW (by first|simp[h1];done|simp_all) (by simp) ?_
  repeat(first|refine chk.ga ?_|simp -dsimp[h1])
  refine abr.split (fun h4=> ?_) (fun h4=> ?_)
  ·have q5:(v.2.2=true):=auq h4
   rw[if_pos q5]at hF
   cases hF
   repeat(first|refine chk.ga ?_|simp -dsimp[h1,h4])
   all_goals(try first|omega|rfl)
  ·have q5:¬(v.2.2=true):=auq h4
   rw[if_neg q5]at hF
   cases hF
   repeat(first|refine chk.ga ?_|simp -dsimp[h1,h4,q5])
   all_goals(try first|omega|rfl)
 ·have q2:¬(c'.guard.op=2):=auq h1
  rw[if_neg q2]at hF
  repeat(first|refine chk.ga ?_|simp -dsimp[h1,q2])
  have hF:=ob hF;obtain⟨v6,e7,hF⟩:=hF
  refine(((CC.f138 B hB1 hB2 c'.guard.var (0:Int) (IntKind.i64.wrap (c'.guard.n-1))).1 c'.pat v6 e7)).goW (by first|simp[h1,q2];done|simp_all) (by simp) ?_
  repeat(first|refine chk.ga ?_|simp -dsimp[h1,q2])
  refine abr.split (fun h8=> ?_) (fun h8=> ?_)
  ·have q9:(v6.2.2=true):=auq h8
   rw[if_pos q9]at hF
   cases hF
   repeat(first|refine chk.ga ?_|simp -dsimp[h1,q2,h8])
   all_goals(try first|omega|rfl)
  ·have q9:¬(v6.2.2=true):=auq h8
   rw[if_neg q9]at hF
   cases hF
   repeat(first|refine chk.ga ?_|simp -dsimp[h1,q2,h8,q9])
   all_goals(try first|omega|rfl)
theorem C.f143 (w:List Vl.Data)(t:Vl.Ty)(p:Vl.Pattern)(r:Bool)(hF:F.f143 w t p=some r):PureCall Tryz.prog B 63 [.arr (List.map Vl.Data.c w),.agg [.lit (.int .i64 t.data),.lit (.int .i64 t.index)],.agg [.lit (.int .i64 p.op),.lit (.int .i64 p.ctor),.lit (.int .i64 p.n),.lit (.int .i64 p.m),.lit (.int .i64 p.var),.arr (List.map Vl.Pattern.c p.kids)]] (.lit (.bool r)):=by
 unfold F.f143 at hF
 refine PureCall.enterLe Tryz.func63 (by kernel_rfl) rfl Tryz.ntmps63 (by simp) (by simp) ?_
 repeat(first|refine chk.ga ?_|simp -dsimp)
 have hF:=ob hF;obtain⟨v,e1,hF⟩:=hF
 refine((C.f130 B hB1 hB2 w t p v e1)).goW (by simp) (by simp) ?_
 cases hF
 repeat(first|refine chk.ga ?_|simp -dsimp)
 all_goals(try first|omega|rfl)
theorem C.impl_GuardPattern__f (w:List Vl.Data)(t:Vl.Ty)(c':Vl.Clause)(r:Vl.Clause×Bool)(hF:F.f144 w t c'=some r):FCall Tryz.prog B 22 [.arr (List.map Vl.Data.c w),.agg [.lit (.int .i64 t.data),.lit (.int .i64 t.index)],.agg [.lit (.int .i64 c'.pat.op),.lit (.int .i64 c'.pat.ctor),.lit (.int .i64 c'.pat.n),.lit (.int .i64 c'.pat.m),.lit (.int .i64 c'.pat.var),.arr (List.map Vl.Pattern.c c'.pat.kids),.lit (.int .i64 c'.guard.op),.lit (.int .i64 c'.guard.var),.lit (.int .i64 c'.guard.n)]] (.tup [.agg [.lit (.int .i64 r.1.pat.op),.lit (.int .i64 r.1.pat.ctor),.lit (.int .i64 r.1.pat.n),.lit (.int .i64 r.1.pat.m),.lit (.int .i64 r.1.pat.var),.arr (List.map Vl.Pattern.c r.1.pat.kids),.lit (.int .i64 r.1.guard.op),.lit (.int .i64 r.1.guard.var),.lit (.int .i64 r.1.guard.n)],.lit (.bool r.2)]):=by
 unfold F.f144 at hF
 refine FCall.enterG Tryz.func22 (by kernel_rfl) rfl Tryz.ntmps22 (by simp) (Gh.packZ .nil) ?_
 repeat(first|refine chk.ga ?_|simp -dsimp)
 have hF:=ob hF;obtain⟨v,e1,hF⟩:=hF
 refine((C.f133 B hB1 hB2 w t c' v e1)).goW (by simp) (by simp) ?_
 repeat(first|refine chk.ga ?_|simp -dsimp)
 refine abr.split (fun h2=> ?_) (fun h2=> ?_)
 ·have q3:¬(v=true):=auq h2
  rw[if_neg q3]at hF
  cases hF
  repeat(first|refine chk.ga ?_|simp -dsimp[h2,q3])
  exact⟨_,by decide,(.agg (.lit _ (.lit _ (.lit _ (.lit _ (.lit _ (.nilS none 0 (.lit _ (.lit _ (.lit _ .nil))))))))) (.cell (.lit _ .nil) .nil):CT _ _ _ _)⟩
 ·have q3:(v=true):=auq h2
  rw[if_pos q3]at hF
  repeat(first|refine chk.ga ?_|simp -dsimp[h2,q3])
  refine abr.split (fun h4=> ?_) (fun h4=> ?_)
  ·have q5:(c'.guard.op=0):=auq h4
   rw[if_pos q5]at hF
   repeat(first|refine chk.ga ?_|simp -dsimp[h2,q3,h4])
   have hF:=ob hF;obtain⟨v6,e7,hF⟩:=hF
   refine(((CC.impl_ownPattern__f B hB1 hB2).1 c'.pat v6 e7)).go1 (by first|simp -dsimp[h2,q3,h4];done|simp_all) (by simp) (fun h o_h=> ?_)
   cases hF
   repeat(first|refine chk.ga ?_|simp -dsimp[h2,q3,h4,o_h])
   exact⟨_,by decide,(.agg (.lit _ (.lit _ (.lit _ (.lit _ (.lit _ (.pk 4 rfl (.lit _ (.lit _ (.lit _ .nil))))))))) (.cell (.lit _ .nil) .nil):CT _ _ _ _)⟩
  ·have q5:¬(c'.guard.op=0):=auq h4
   rw[if_neg q5]at hF
   repeat(first|refine chk.ga ?_|simp -dsimp[h2,q3,h4,q5])
   have hF:=ob hF;obtain⟨v8,e9,hF⟩:=hF
   refine((C.f142 B hB1 hB2 c' v8 e9)).goW (by first|simp[h2,q3,h4,q5];done|simp_all) (by simp) ?_
   repeat(first|refine chk.ga ?_|simp -dsimp[h2,q3,h4,q5])
   refine abr.split (fun h10=> ?_) (fun h10=> ?_)
   ·have q11:(v8.2.1=true):=auq h10
    rw[if_pos q11]at hF
    repeat(first|refine chk.ga ?_|simp -dsimp[h2,q3,h4,q5,h10])
    refine abr.split (fun h12=> ?_) (fun h12=> ?_)
    ·have q13:(v8.2.2=true):=auq h12
     rw[if_pos q13]at hF
     repeat(first|refine chk.ga ?_|simp -dsimp[h2,q3,h4,q5,h10,h12])
     have hF:=ob hF;obtain⟨v14,e15,hF⟩:=hF
     refine((C.f143 B hB1 hB2 w t v8.1 v14 e15)).goW (by first|simp[h2,q3,h4,q5,h10,h12];done|simp_all) (by simp) ?_
     repeat(first|refine chk.ga ?_|simp -dsimp[h2,q3,h4,q5,h10,h12])
     refine abr.split (fun h16=> ?_) (fun h16=> ?_)
     ·have q17:¬(v14=true):=auq h16
      rw[if_neg q17]at hF
      cases hF
      repeat(first|refine chk.ga ?_|simp -dsimp[h2,q3,h4,q5,h10,h12,h16,q17])
      exact⟨_,by decide,(.agg (.lit _ (.lit _ (.lit _ (.lit _ (.lit _ (.nilS none 0 (.lit _ (.lit _ (.lit _ .nil))))))))) (.cell (.lit _ .nil) .nil):CT _ _ _ _)⟩
     ·have q17:(v14=true):=auq h16
      rw[if_pos q17]at hF
      repeat(first|refine chk.ga ?_|simp -dsimp[h2,q3,h4,q5,h10,h12,h16,q17])
      have hF:=ob hF;obtain⟨v18,e19,hF⟩:=hF
      refine(((CC.impl_ownPattern__f B hB1 hB2).1 v8.1 v18 e19)).go1 (by first|simp -dsimp[h2,q3,h4,q5,h10,h12,h16,q17];done|simp_all) (by simp) (fun h20 o_h20=> ?_)
      cases hF
      repeat(first|refine chk.ga ?_|simp -dsimp[h2,q3,h4,q5,h10,h12,h16,q17,o_h20])
      exact⟨_,by decide,(.agg (.lit _ (.lit _ (.lit _ (.lit _ (.lit _ (.pk 5 rfl (.lit _ (.lit _ (.lit _ .nil))))))))) (.cell (.lit _ .nil) .nil):CT _ _ _ _)⟩
    ·have q13:¬(v8.2.2=true):=auq h12
     rw[if_neg q13]at hF
     cases hF
     repeat(first|refine chk.ga ?_|simp -dsimp[h2,q3,h4,q5,h10,h12,q13])
     exact⟨_,by decide,(.agg (.lit _ (.lit _ (.lit _ (.lit _ (.lit _ (.nilS none 0 (.lit _ (.lit _ (.lit _ .nil))))))))) (.cell (.lit _ .nil) .nil):CT _ _ _ _)⟩
   ·have q11:¬(v8.2.1=true):=auq h10
    rw[if_neg q11]at hF
    cases hF
    repeat(first|refine chk.ga ?_|simp -dsimp[h2,q3,h4,q5,h10,q11])
    exact⟨_,by decide,(.agg (.lit _ (.lit _ (.lit _ (.lit _ (.lit _ (.nilS none 0 (.lit _ (.lit _ (.lit _ .nil))))))))) (.cell (.lit _ .nil) .nil):CT _ _ _ _)⟩
theorem CC.f145  :(∀(a:Vl.Pattern) (b:Vl.Pattern) (r:Bool),F.f145 a b=some r→PureCall Tryz.prog B 14 [.agg [.lit (.int .i64 a.op),.lit (.int .i64 a.ctor),.lit (.int .i64 a.n),.lit (.int .i64 a.m),.lit (.int .i64 a.var),.arr (List.map Vl.Pattern.c a.kids)],.agg [.lit (.int .i64 b.op),.lit (.int .i64 b.ctor),.lit (.int .i64 b.n),.lit (.int .i64 b.m),.lit (.int .i64 b.var),.arr (List.map Vl.Pattern.c b.kids)]] (.lit (.bool r)))∧
  (∀(a:List Vl.Pattern) (b:List Vl.Pattern) (r:Bool),F.f146 a b=some r→PureCall Tryz.prog B 50 [.arr (List.map Vl.Pattern.c a),.arr (List.map Vl.Pattern.c b)] (.lit (.bool r)))∧
  (∀(a:List Vl.Pattern) (b:List Vl.Pattern) (i:Nat) (o:Lo Bool Unit),F.f147 a b i=some o→∀(c:Code),navO [1,1,0,1,0,0] (bodyOf Tryz.f50)=some c→∀(Q:Exit→ASt→Prop),o.post (fun r=>∀st,Post Tryz.prog Tryz.f50 (fun r' _=>r'.le (.lit (.bool r))) .ret st→Q .ret st) (fun s=>Q (.exit 0) ⟨[],[]⟩)→ALoopU Tryz.prog B 0 27 (hold c .mk) ⟨[(0,.arr (List.map Vl.Pattern.c a)),(1,.arr (List.map Vl.Pattern.c b)),(5,.lit (.int .i64 (i:Int)))],[]⟩ (hold Q .mk)):=by
 refine F.f145.mutual_partial_correctness 
  _ _ _
  ?_ ?_ ?_
 ·intro _f_f146 ih_f146 a b r hF
  refine PureCall.enterLe Tryz.func14 (by kernel_rfl) rfl Tryz.ntmps14 (by simp) (by simp) ?_
  repeat(first|refine chk.ga ?_|simp -dsimp)
  refine abr.split (fun h1=> ?_) (fun h1=> ?_)
  ·have q2:¬(a.op=b.op):=auq h1
   rw[if_neg q2]at hF
   cases hF
   repeat(first|refine chk.ga ?_|simp -dsimp[h1,q2])
   all_goals(try first|omega|rfl)
  ·have q2:(a.op=b.op):=auq h1
   rw[if_pos q2]at hF
   repeat(first|refine chk.ga ?_|simp -dsimp[h1,q2])
   refine abr.split (fun h3=> ?_) (fun h3=> ?_)
   ·have q4:¬(a.ctor=b.ctor):=auq h3
    rw[if_neg q4]at hF
    cases hF
    repeat(first|refine chk.ga ?_|simp -dsimp[h1,q2,h3,q4])
    all_goals(try first|omega|rfl)
   ·have q4:(a.ctor=b.ctor):=auq h3
    rw[if_pos q4]at hF
    repeat(first|refine chk.ga ?_|simp -dsimp[h1,q2,h3,q4])
    refine abr.split (fun h5=> ?_) (fun h5=> ?_)
    ·have q6:¬(a.n=b.n):=auq h5
     rw[if_neg q6]at hF
     cases hF
     repeat(first|refine chk.ga ?_|simp -dsimp[h1,q2,h3,q4,h5,q6])
     all_goals(try first|omega|rfl)
    ·have q6:(a.n=b.n):=auq h5
     rw[if_pos q6]at hF
     repeat(first|refine chk.ga ?_|simp -dsimp[h1,q2,h3,q4,h5,q6])
     refine abr.split (fun h7=> ?_) (fun h7=> ?_)
     ·have q8:¬(a.m=b.m):=auq h7
      rw[if_neg q8]at hF
      cases hF
      repeat(first|refine chk.ga ?_|simp -dsimp[h1,q2,h3,q4,h5,q6,h7,q8])
      all_goals(try first|omega|rfl)
     ·have q8:(a.m=b.m):=auq h7
      rw[if_pos q8]at hF
      repeat(first|refine chk.ga ?_|simp -dsimp[h1,q2,h3,q4,h5,q6,h7,q8])
      refine abr.split (fun h9=> ?_) (fun h9=> ?_)
      ·have q10:¬(a.var=b.var):=auq h9
       rw[if_neg q10]at hF
       cases hF
       repeat(first|refine chk.ga ?_|simp -dsimp[h1,q2,h3,q4,h5,q6,h7,q8,h9,q10])
       all_goals(try first|omega|rfl)
      ·have q10:(a.var=b.var):=auq h9
       rw[if_pos q10]at hF
       repeat(first|refine chk.ga ?_|simp -dsimp[h1,q2,h3,q4,h5,q6,h7,q8,h9,q10])
       have hF:=ob hF;obtain⟨v,e11,hF⟩:=hF
       refine((ih_f146 a.kids b.kids v e11)).goW (by first|simp[h1,q2,h3,q4,h5,q6,h7,q8,h9,q10];done|simp_all) (by simp) ?_
       repeat(first|refine chk.ga ?_|simp -dsimp[h1,q2,h3,q4,h5,q6,h7,q8,h9,q10])
       refine abr.split (fun h12=> ?_) (fun h12=> ?_)
       ·have q13:¬(v=true):=auq h12
        rw[if_neg q13]at hF
        cases hF
        repeat(first|refine chk.ga ?_|simp -dsimp[h1,q2,h3,q4,h5,q6,h7,q8,h9,q10,h12,q13])
        all_goals(try first|omega|rfl)
       ·have q13:(v=true):=auq h12
        rw[if_pos q13]at hF
        cases hF
        repeat(first|refine chk.ga ?_|simp -dsimp[h1,q2,h3,q4,h5,q6,h7,q8,h9,q10,h12,q13])
        all_goals(try first|omega|rfl)
 ·intro _f_f147 ih_f147 a b r hF
  refine PureCall.enterLe Tryz.func50 (by kernel_rfl) rfl Tryz.ntmps50 (by simp) (by simp) ?_
  repeat(first|refine chk.ga ?_|simp -dsimp)
  refine abr.split (fun h1=> ?_) (fun h1=> ?_)
  ·have q2:¬(a.length=b.length):=auq h1
   have z3:¬((a.length:Int)=(b.length:Int)):=auz
   rw[if_neg q2]at hF
   cases hF
   repeat(first|refine chk.ga ?_|simp -dsimp[h1,q2,z3])
   all_goals(try first|omega|rfl)
  ·have q2:(a.length=b.length):=auq h1
   have z3:((a.length:Int)=(b.length:Int)):=auz
   rw[if_pos q2]at hF
   repeat(first|refine chk.ga ?_|simp -dsimp[h1,q2,z3])
   have hF:=ob hF;obtain⟨o',ho14,hF⟩:=hF
   refine ALoop.goU _ ?_ ((ih_f147 a b 0 o' ho14) _ rfl _ ?_)
   ·exact(Gh.to3 (by simp) (by first|simp -dsimp[h1,q2,z3];done|simp_all))
   rcases o' with r0|sx
   ·dsimp only at hF
    cases hF
    intro st h
    simpa using h
   ·dsimp only at hF
    cases hF
    repeat(first|refine chk.ga ?_|simp -dsimp)
    all_goals(try first|omega|rfl)
 ·intro _f_f145 _f_f147 ih_f145 ih_f147 a b i o hF
  intro c hc Q hq
  obtain rfl:c=_:=navEq hc rfl
  refine ALoopU.know fun hk hs=> ?_
  have b0:=hk 0
  simp -dsimp at b0
  have b1:=hk 1
  simp -dsimp at b1
  clear hk hs
  refine ALoopU.enter ?_
  repeat(first|refine chk.ga ?_|simp -dsimp)
  refine abr.split (fun h4=> ?_) (fun h4=> ?_)
  ·have q5:(i<a.length):=auq h4
   have z6:((i:Int)<(a.length:Int)):=auz
   rw[if_pos q5]at hF
   repeat(first|refine chk.ga ?_|simp -dsimp[h4,z6])
   refine ADraw.simple follows (by kernel_rfl) (by kernel_rfl) ?_
   have hF:=ob hF;obtain⟨x,e7,hF⟩:=hF
   have le7:=lt_of_get e7
   have hF:=ob hF;obtain⟨x8,e9,hF⟩:=hF
   have le9:=lt_of_get e9
   repeat(first|refine chk.ga ?_|simp -dsimp[h4,z6,↓e7,↓e9])
   have hF:=ob hF;obtain⟨v,e10,hF⟩:=hF
   refine((ih_f145 x x8 v e10)).pgoW (by first|simp[h4,z6,↓e7,↓e9];done|simp_all) (by simp) ?_
   repeat(first|refine chk.ga ?_|simp -dsimp[h4,z6,↓e7,↓e9])
   refine abr.split (fun h11=> ?_) (fun h11=> ?_)
   ·have q12:¬(v=true):=auq h11
    rw[if_neg q12]at hF
    cases hF
    repeat(first|refine chk.ga ?_|simp -dsimp[h4,z6,↓e7,↓e9,h11,q12])
    refine Leave.go _ (Gh.refl _) (hq _ ?_)
    repeat(first|refine chk.ga ?_|simp -dsimp[h4,z6,↓e7,↓e9,h11,q12])
   ·have q12:(v=true):=auq h11
    rw[if_pos q12]at hF
    have w13:IntKind.i64.wrap ((i:Int)+1)=(i:Int)+1:=wrap_in (by omega) (by omega)
    repeat(first|refine chk.ga ?_|simp -dsimp[h4,z6,↓e7,↓e9,h11,q12,w13])
    refine Again.go _ ?_ ((ih_f147 a b (i+1) o hF) _ rfl _ hq)
    exact(Gh.to3 (by simp) (by first|simp -dsimp[h4,z6,↓e7,↓e9,h11,q12,w13];done|simp_all))
  ·have q5:¬(i<a.length):=auq h4
   have z6:¬((i:Int)<(a.length:Int)):=auz
   rw[if_neg q5]at hF
   cases hF
   repeat(first|refine chk.ga ?_|simp -dsimp[h4,q5,z6])
   refine Leave.go ⟨[],[]⟩ (Gh.to3 (by simp) (by first|simp -dsimp[h4,q5,z6];done|simp_all)) ?_
   exact hq
theorem C.f148 (a:Vl.Guard)(b:Vl.Guard)(r:Bool)(hF:F.f148 a b=some r):PureCall Tryz.prog B 64 [.agg [.lit (.int .i64 a.op),.lit (.int .i64 a.var),.lit (.int .i64 a.n)],.agg [.lit (.int .i64 b.op),.lit (.int .i64 b.var),.lit (.int .i64 b.n)]] (.lit (.bool r)):=by
 unfold F.f148 at hF
 refine PureCall.enterLe Tryz.func64 (by kernel_rfl) rfl Tryz.ntmps64 (by simp) (by simp) ?_
 repeat(first|refine chk.ga ?_|simp -dsimp)
 refine abr.split (fun h1=> ?_) (fun h1=> ?_)
 ·have q2:¬(a.op=b.op):=auq h1
  rw[if_neg q2]at hF
  cases hF
  repeat(first|refine chk.ga ?_|simp -dsimp[h1,q2])
  all_goals(try first|omega|rfl)
 ·have q2:(a.op=b.op):=auq h1
  rw[if_pos q2]at hF
  repeat(first|refine chk.ga ?_|simp -dsimp[h1,q2])
  refine abr.split (fun h3=> ?_) (fun h3=> ?_)
  ·have q4:¬(a.var=b.var):=auq h3
   rw[if_neg q4]at hF
   cases hF
   repeat(first|refine chk.ga ?_|simp -dsimp[h1,q2,h3,q4])
   all_goals(try first|omega|rfl)
  ·have q4:(a.var=b.var):=auq h3
   rw[if_pos q4]at hF
   repeat(first|refine chk.ga ?_|simp -dsimp[h1,q2,h3,q4])
   refine abr.split (fun h5=> ?_) (fun h5=> ?_)
   ·have q6:¬(a.n=b.n):=auq h5
    rw[if_neg q6]at hF
    cases hF
    repeat(first|refine chk.ga ?_|simp -dsimp[h1,q2,h3,q4,h5,q6])
    all_goals(try first|omega|rfl)
   ·have q6:(a.n=b.n):=auq h5
    rw[if_pos q6]at hF
    cases hF
    repeat(first|refine chk.ga ?_|simp -dsimp[h1,q2,h3,q4,h5,q6])
    all_goals(try first|omega|rfl)
theorem C.f149 (a:Vl.Clause)(b:Vl.Clause)(r:Bool)(hF:F.f149 a b=some r):PureCall Tryz.prog B 23 [.agg [.lit (.int .i64 a.pat.op),.lit (.int .i64 a.pat.ctor),.lit (.int .i64 a.pat.n),.lit (.int .i64 a.pat.m),.lit (.int .i64 a.pat.var),.arr (List.map Vl.Pattern.c a.pat.kids),.lit (.int .i64 a.guard.op),.lit (.int .i64 a.guard.var),.lit (.int .i64 a.guard.n)],.agg [.lit (.int .i64 b.pat.op),.lit (.int .i64 b.pat.ctor),.lit (.int .i64 b.pat.n),.lit (.int .i64 b.pat.m),.lit (.int .i64 b.pat.var),.arr (List.map Vl.Pattern.c b.pat.kids),.lit (.int .i64 b.guard.op),.lit (.int .i64 b.guard.var),.lit (.int .i64 b.guard.n)]] (.lit (.bool r)):=by
 unfold F.f149 at hF
 refine PureCall.enterLe Tryz.func23 (by kernel_rfl) rfl Tryz.ntmps23 (by simp) (by simp) ?_
 repeat(first|refine chk.ga ?_|simp -dsimp)
 have hF:=ob hF;obtain⟨v,e1,hF⟩:=hF
 refine(((CC.f145 B hB1 hB2).1 a.pat b.pat v e1)).goW (by simp) (by simp) ?_
 repeat(first|refine chk.ga ?_|simp -dsimp)
 refine abr.split (fun h2=> ?_) (fun h2=> ?_)
 ·have q3:¬(v=true):=auq h2
  rw[if_neg q3]at hF
  cases hF
  repeat(first|refine chk.ga ?_|simp -dsimp[h2,q3])
  all_goals(try first|omega|rfl)
 ·have q3:(v=true):=auq h2
  rw[if_pos q3]at hF
  repeat(first|refine chk.ga ?_|simp -dsimp[h2,q3])
  have hF:=ob hF;obtain⟨v4,e5,hF⟩:=hF
  refine((C.f148 B hB1 hB2 a.guard b.guard v4 e5)).goW (by first|simp[h2,q3];done|simp_all) (by simp) ?_
  repeat(first|refine chk.ga ?_|simp -dsimp[h2,q3])
  refine abr.split (fun h6=> ?_) (fun h6=> ?_)
  ·have q7:¬(v4=true):=auq h6
   rw[if_neg q7]at hF
   cases hF
   repeat(first|refine chk.ga ?_|simp -dsimp[h2,q3,h6,q7])
   all_goals(try first|omega|rfl)
  ·have q7:(v4=true):=auq h6
   rw[if_pos q7]at hF
   cases hF
   repeat(first|refine chk.ga ?_|simp -dsimp[h2,q3,h6,q7])
   all_goals(try first|omega|rfl)
theorem C.f150 (a:Vl.Ty)(b:Vl.Ty)(r:Bool)(hF:F.f150 a b=some r):PureCall Tryz.prog B 219 [.agg [.lit (.int .i64 a.data),.lit (.int .i64 a.index)],.agg [.lit (.int .i64 b.data),.lit (.int .i64 b.index)]] (.lit (.bool r)):=by
 unfold F.f150 at hF
 refine PureCall.enterLe Tryz.func219 (by kernel_rfl) rfl Tryz.ntmps219 (by simp) (by simp) ?_
 repeat(first|refine chk.ga ?_|simp -dsimp)
 refine abr.split (fun h1=> ?_) (fun h1=> ?_)
 ·have q2:¬(a.data=b.data):=auq h1
  rw[if_neg q2]at hF
  cases hF
  repeat(first|refine chk.ga ?_|simp -dsimp[h1,q2])
  all_goals(try first|omega|rfl)
 ·have q2:(a.data=b.data):=auq h1
  rw[if_pos q2]at hF
  repeat(first|refine chk.ga ?_|simp -dsimp[h1,q2])
  refine abr.split (fun h3=> ?_) (fun h3=> ?_)
  ·have q4:¬(a.index=b.index):=auq h3
   rw[if_neg q4]at hF
   cases hF
   repeat(first|refine chk.ga ?_|simp -dsimp[h1,q2,h3,q4])
   all_goals(try first|omega|rfl)
  ·have q4:(a.index=b.index):=auq h3
   rw[if_pos q4]at hF
   cases hF
   repeat(first|refine chk.ga ?_|simp -dsimp[h1,q2,h3,q4])
   all_goals(try first|omega|rfl)
theorem CC.f151 (a:List Vl.Ty)(b:List Vl.Ty):(∀(i:Nat) (o:Lo Bool Unit),F.f151 a b i=some o→∀(c:Code),navO [1,1,0,1,0,0] (bodyOf Tryz.f203)=some c→∀(Q:Exit→ASt→Prop),o.post (fun r=>∀st,Post Tryz.prog Tryz.f203 (fun r' _=>r'.le (.lit (.bool r))) .ret st→Q .ret st) (fun s=>Q (.exit 0) ⟨[],[]⟩)→ALoopU Tryz.prog B 0 27 (hold c .mk) ⟨[(0,.arr (List.map Vl.Ty.c a)),(1,.arr (List.map Vl.Ty.c b)),(5,.lit (.int .i64 (i:Int)))],[]⟩ (hold Q .mk)):=by
 refine F.f151.partial_correctness a b
  _
  ?_
 ·intro _f_f151 ih_f151 i o hF
  intro c hc Q hq
  obtain rfl:c=_:=navEq hc rfl
  refine ALoopU.know fun hk hs=> ?_
  have b0:=hk 0
  simp -dsimp at b0
  have b1:=hk 1
  simp -dsimp at b1
  clear hk hs
  refine ALoopU.enter ?_
  repeat(first|refine chk.ga ?_|simp -dsimp)
  refine abr.split (fun h4=> ?_) (fun h4=> ?_)
  ·have q5:(i<a.length):=auq h4
   have z6:((i:Int)<(a.length:Int)):=auz
   rw[if_pos q5]at hF
   repeat(first|refine chk.ga ?_|simp -dsimp[h4,z6])
   refine ADraw.simple follows (by kernel_rfl) (by kernel_rfl) ?_
   have hF:=ob hF;obtain⟨x,e7,hF⟩:=hF
   have le7:=lt_of_get e7
   have hF:=ob hF;obtain⟨x8,e9,hF⟩:=hF
   have le9:=lt_of_get e9
   repeat(first|refine chk.ga ?_|simp -dsimp[h4,z6,↓e7,↓e9])
   have hF:=ob hF;obtain⟨v,e10,hF⟩:=hF
   refine((C.f150 B hB1 hB2 x x8 v e10)).pgoW (by first|simp[h4,z6,↓e7,↓e9];done|simp_all) (by simp) ?_
   repeat(first|refine chk.ga ?_|simp -dsimp[h4,z6,↓e7,↓e9])
   refine abr.split (fun h11=> ?_) (fun h11=> ?_)
   ·have q12:¬(v=true):=auq h11
    rw[if_neg q12]at hF
    cases hF
    repeat(first|refine chk.ga ?_|simp -dsimp[h4,z6,↓e7,↓e9,h11,q12])
    refine Leave.go _ (Gh.refl _) (hq _ ?_)
    repeat(first|refine chk.ga ?_|simp -dsimp[h4,z6,↓e7,↓e9,h11,q12])
   ·have q12:(v=true):=auq h11
    rw[if_pos q12]at hF
    have w13:IntKind.i64.wrap ((i:Int)+1)=(i:Int)+1:=wrap_in (by omega) (by omega)
    repeat(first|refine chk.ga ?_|simp -dsimp[h4,z6,↓e7,↓e9,h11,q12,w13])
    refine Again.go _ ?_ ((ih_f151 (i+1) o hF) _ rfl _ hq)
    exact(Gh.to3 (by simp) (by first|simp -dsimp[h4,z6,↓e7,↓e9,h11,q12,w13];done|simp_all))
  ·have q5:¬(i<a.length):=auq h4
   have z6:¬((i:Int)<(a.length:Int)):=auz
   rw[if_neg q5]at hF
   cases hF
   repeat(first|refine chk.ga ?_|simp -dsimp[h4,q5,z6])
   refine Leave.go ⟨[],[]⟩ (Gh.to3 (by simp) (by first|simp -dsimp[h4,q5,z6];done|simp_all)) ?_
   exact hq
theorem C.f152 (a:List Vl.Ty)(b:List Vl.Ty)(r:Bool)(hF:F.f152 a b=some r):PureCall Tryz.prog B 203 [.arr (List.map Vl.Ty.c a),.arr (List.map Vl.Ty.c b)] (.lit (.bool r)):=by
 unfold F.f152 at hF
 refine PureCall.enterLe Tryz.func203 (by kernel_rfl) rfl Tryz.ntmps203 (by simp) (by simp) ?_
 repeat(first|refine chk.ga ?_|simp -dsimp)
 refine abr.split (fun h1=> ?_) (fun h1=> ?_)
 ·have q2:¬(a.length=b.length):=auq h1
  have z3:¬((a.length:Int)=(b.length:Int)):=auz
  rw[if_neg q2]at hF
  cases hF
  repeat(first|refine chk.ga ?_|simp -dsimp[h1,q2,z3])
  all_goals(try first|omega|rfl)
 ·have q2:(a.length=b.length):=auq h1
  have z3:((a.length:Int)=(b.length:Int)):=auz
  rw[if_pos q2]at hF
  repeat(first|refine chk.ga ?_|simp -dsimp[h1,q2,z3])
  have hF:=ob hF;obtain⟨o',ho14,hF⟩:=hF
  refine ALoop.goU _ ?_ (((CC.f151 B hB1 hB2 a b) 0 o' ho14) _ rfl _ ?_)
  ·exact(Gh.to3 (by simp) (by first|simp -dsimp[h1,q2,z3];done|simp_all))
  rcases o' with r0|sx
  ·dsimp only at hF
   cases hF
   intro st h
   simpa using h
  ·dsimp only at hF
   cases hF
   repeat(first|refine chk.ga ?_|simp -dsimp)
   all_goals(try first|omega|rfl)
end Go.Proofs.YtfiegdkhobmbaaaGreat
