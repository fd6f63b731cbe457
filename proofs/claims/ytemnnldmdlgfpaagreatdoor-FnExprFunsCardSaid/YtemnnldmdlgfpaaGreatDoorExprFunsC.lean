/- The contracts: the code computes the functions (printed by gen.py). -/
import Derived.Test.YtemnnldmdlgfpaaGreatDoorProg
import Derived.Test.YtemnnldmdlgfpaaGreatDoorExprFunsF
import Derived.Test.YtemnnldmdlgfpaaGreatDoorExprFunsC1
import Derived.Test.YtemnnldmdlgfpaaGreatDoorVlShelf
import Derived.Test.YtemnnldmdlgfpaaGreatDoorShelf
namespace Go.Proofs.YtemnnldmdlgfpaaGreatDoor
open Go Go.Proofs Go.Vl
set_option linter.unusedSimpArgs false
set_option linter.unusedVariables false
set_option linter.unusedSectionVars false
set_option maxRecDepth 100000
set_option maxHeartbeats 4000000
set_option synthInstance.maxSize 100000
attribute [local irreducible] ECallA NCallA aL aLg AMake MLoop AgainM LeaveM awpM aopsM MutCall BCall chk abr ACall ALoop ALoopU ADraw Again Leave PCallA PCall Post awp aops PureCall hold
variable (B : Nat) (hB1 : 67108864 ≤ B) (hB2 : B ≤ 9223372036854775807)
include hB1 hB2
theorem CC.spec_l12Draw__ob23 (w:List Vl.Data)(funs:List Vl.FunType)(vars:List Vl.VarType):(∀(r':Vl.T_spec_l17Rd) (t:Vl.Ty) (depth:Int) (r:Vl.Expr×Vl.T_spec_l17Rd),F.f64 r' w funs vars t depth=some r→BCall Tryz.prog B 18 [.cells [.arr (List.map cU r'.f0),.lit (.int .i64 r'.f1)],.elems 4 (List.map Vl.FunType.c funs),.elems 3 (List.map Vl.VarType.c vars)] [.ptr 0 0,.arr (List.map Vl.Data.c w),.own 1 (List.length (α:=Vl.FunType) funs),.own 2 (List.length (α:=Vl.VarType) vars),.agg [.lit (.int .i64 t.data),.lit (.int .i64 t.index)],.lit (.int .i64 depth)] (.agg [.lit (.int .i64 r.1.op),.lit (.int .i64 r.1.n),.lit (.int .i64 r.1.ctor),.arr (List.map Vl.Expr.c r.1.kids)]) [.cells [.arr (List.map cU r.2.f0),.lit (.int .i64 r.2.f1)],.elems 4 (List.map Vl.FunType.c funs),.elems 3 (List.map Vl.VarType.c vars)])∧
  (∀(depth:Int) (v77:Vl.Value×Vl.T_spec_l17Rd) (v79:List Vl.Ty) (z81:List Int) (z82:Int) (out:List Vl.Expr) (i83:Nat) (o:(List Int)×Int×(List Vl.Expr)),F.f66 w funs vars depth v77 v79 z81 z82 out i83=some o→∀(c:Code),navO [1,1,1,1,1,1,1,1,1,0,1,0,0] (bodyOf Tryz.f18)=some c→∀(Q:Exit→ASt→Prop),(Q (.exit 4) ⟨[(12,.ptr 4 0),(18,.ptr 6 0)],[.cells [.arr (List.map cU o.1),.lit (.int .i64 o.2.1)],.elems 4 (List.map Vl.FunType.c funs),.elems 3 (List.map Vl.VarType.c vars),.dead,.cells [.lit (.int .i64 0),.lit (.int .i64 0),.lit (.int .i64 0),.lit (.slice none 0 0)],.dead,.cells [.lit (.int .i64 3),.lit (.int .i64 0),.lit (.int .i64 v77.1.ctor),.own 7 (List.length (α:=Vl.Expr) o.2.2)],.elems 4 (List.map Vl.Expr.c o.2.2)]⟩)→ALoopU Tryz.prog B 3 178 (hold c .mk) ⟨[(0,.ptr 0 0),(1,.arr (List.map Vl.Data.c w)),(2,.own 1 (List.length (α:=Vl.FunType) funs)),(3,.own 2 (List.length (α:=Vl.VarType) vars)),(5,.lit (.int .i64 depth)),(12,.ptr 4 0),(18,.ptr 6 0),(19,.arr (List.map Vl.Ty.c v79)),(20,.lit (.int .i64 (i83:Int)))],[.cells [.arr (List.map cU z81),.lit (.int .i64 z82)],.elems 4 (List.map Vl.FunType.c funs),.elems 3 (List.map Vl.VarType.c vars),.dead,.cells [.lit (.int .i64 0),.lit (.int .i64 0),.lit (.int .i64 0),.lit (.slice none 0 0)],.dead,.cells [.lit (.int .i64 3),.lit (.int .i64 0),.lit (.int .i64 v77.1.ctor),.own 7 (List.length (α:=Vl.Expr) out)],.elems 4 (List.map Vl.Expr.c out)]⟩ (hold Q .mk))∧
  (∀(t:Vl.Ty) (depth:Int) (v:List Int) (z19:List Int) (z20:Int) (i21:Nat) (o:Lo (Vl.Expr×Vl.T_spec_l17Rd) ((List Int)×Int)),F.f65 w funs vars t depth v z19 z20 i21=some o→∀(c:Code),navO [1,1,1,0,1,0,0] (bodyOf Tryz.f18)=some c→∀(Q:Exit→ASt→Prop),o.post (fun r=>∀st,PostI Tryz.prog Tryz.f18 (hold (fun r' σ'=>frzY σ' [.agg [.lit (.int .i64 r.1.op),.lit (.int .i64 r.1.n),.lit (.int .i64 r.1.ctor),.arr (List.map Vl.Expr.c r.1.kids)]] (unp [.agg [.lit (.int .i64 r.1.op),.lit (.int .i64 r.1.n),.lit (.int .i64 r.1.ctor),.arr (List.map Vl.Expr.c r.1.kids)]] r') (hold (fun xs' σ'=>stTo σ' [.cells [.arr (List.map cU r.2.f0),.lit (.int .i64 r.2.f1)],.elems 4 (List.map Vl.FunType.c funs),.elems 3 (List.map Vl.VarType.c vars)]∧ownP σ' 3 [] xs' [.agg [.lit (.int .i64 r.1.op),.lit (.int .i64 r.1.n),.lit (.int .i64 r.1.ctor),.arr (List.map Vl.Expr.c r.1.kids)]]∧lnd 3 (locsP xs' [.agg [.lit (.int .i64 r.1.op),.lit (.int .i64 r.1.n),.lit (.int .i64 r.1.ctor),.arr (List.map Vl.Expr.c r.1.kids)]])) .mk)) .mk) .ret st→Q .ret st) (fun s=>Q (.exit 2) ⟨[(0,.ptr 0 0),(1,.arr (List.map Vl.Data.c w)),(2,.own 1 (List.length (α:=Vl.FunType) funs)),(3,.own 2 (List.length (α:=Vl.VarType) vars)),(5,.lit (.int .i64 depth)),(10,.ptr 3 0),(12,.ptr 4 0),(13,.arr (List.map cI v))],[.cells [.arr (List.map cU s.1),.lit (.int .i64 s.2)],.elems 4 (List.map Vl.FunType.c funs),.elems 3 (List.map Vl.VarType.c vars),.cells [.lit (.int .i64 t.data),.lit (.int .i64 t.index)],.cells [.lit (.int .i64 0),.lit (.int .i64 0),.lit (.int .i64 0),.lit (.slice none 0 0)]]⟩)→ALoopU Tryz.prog B 3 178 (hold c .mk) ⟨[(0,.ptr 0 0),(1,.arr (List.map Vl.Data.c w)),(2,.own 1 (List.length (α:=Vl.FunType) funs)),(3,.own 2 (List.length (α:=Vl.VarType) vars)),(5,.lit (.int .i64 depth)),(10,.ptr 3 0),(12,.ptr 4 0),(13,.arr (List.map cI v)),(16,.lit (.int .i64 (i21:Int)))],[.cells [.arr (List.map cU z19),.lit (.int .i64 z20)],.elems 4 (List.map Vl.FunType.c funs),.elems 3 (List.map Vl.VarType.c vars),.cells [.lit (.int .i64 t.data),.lit (.int .i64 t.index)],.cells [.lit (.int .i64 0),.lit (.int .i64 0),.lit (.int .i64 0),.lit (.slice none 0 0)]]⟩ (hold Q .mk)):=by
 refine F.f64.mutual_partial_correctness w funs vars
  _ _ _
  ?_ ?_ ?_
 ·intro _f_spec_l12Draw__ob23 _f_spec_l12Draw__ob23_l3 _f_spec_l12Draw__ob23_l2 ih_spec_l12Draw__ob23 ih_spec_l12Draw__ob23_l3 ih_spec_l12Draw__ob23_l2 r' t depth r hF
  refine BCall.enterS (τ1:=[.cells [.arr (List.map cU r.2.f0),.lit (.int .i64 r.2.f1)],.elems 4 (List.map Vl.FunType.c funs),.elems 3 (List.map Vl.VarType.c vars)]) (ys:=[.agg [.lit (.int .i64 r.1.op),.lit (.int .i64 r.1.n),.lit (.int .i64 r.1.ctor),.arr (List.map Vl.Expr.c r.1.kids)]]) (news:=[]) Tryz.func18 (by kernel_rfl) rfl Tryz.ntmps18 (by simp) rfl rfl (by simp) (by simp) (by simp) (by simp) (by simp) (by simp) (Gh.refl _) ?_
  repeat(first|refine chk.ga ?_|simp -dsimp)
  have hF:=ob hF;obtain⟨v,e1,hF⟩:=hF
  refine((C.f53 B hB1 hB2 w v e1)).goW (by simp) (by simp) ?_
  repeat(first|refine chk.ga ?_|simp -dsimp)
  have hF:=ob hF;obtain⟨o',ho18,hF⟩:=hF
  refine ALoop.goU _ ?_ (((CC.spec_l12Draw__ob23_l1 B hB1 hB2 w funs vars t depth v) r'.f0 r'.f1 0 o' ho18) _ rfl _ ?_)
  ·exact(Gh.to3 (by simp) (by simp -dsimp))
  rcases o' with r099|sx
  ·dsimp only at hF
   cases hF
   intro st h
   simpa using h
  ·dsimp only at hF
   repeat(first|refine chk.ga ?_|simp -dsimp)
   have hF:=ob hF;obtain⟨o'41,ho40,hF⟩:=hF
   refine ALoop.goU _ ?_ ((ih_spec_l12Draw__ob23_l2 t depth v sx.1 sx.2 0 o'41 ho40) _ rfl _ ?_)
   ·exact(Gh.to3 (by simp) (by simp -dsimp))
   rcases o'41 with r0|sx42
   ·dsimp only at hF
    cases hF
    intro st h
    simpa using h
   ·dsimp only at hF
    repeat(first|refine chk.ga ?_|simp -dsimp)
    refine abr.split (fun h43=> ?_) (fun h43=> ?_)
    ·have q44:(t.data=(-1)):=auq h43
     rw[if_pos q44]at hF
     repeat(first|refine chk.ga ?_|simp -dsimp[h43])
     refine abr.split (fun h45=> ?_) (fun h45=> ?_)
     ·have q46:(1<depth):=auq h45
      rw[if_pos q46]at hF
      repeat(first|refine chk.ga ?_|simp -dsimp[h43,h45])
      have hF:=ob hF;obtain⟨v47,e48,hF⟩:=hF
      refine((C.f1 B hB1 hB2 (⟨sx42.1,sx42.2⟩:Vl.T_spec_l17Rd) (3:Int) v47 e48)).go 0 rfl (by first|simp[h43,h45];done|simp_all) (by simp) (by first|simp[h43,h45];done|simp_all) ?_
      repeat(first|refine chk.ga ?_|simp -dsimp[h43,h45])
      refine abr.split (fun h49=> ?_) (fun h49=> ?_)
      ·have q50:(v47.1=0):=auq h49
       rw[if_pos q50]at hF
       repeat(first|refine chk.ga ?_|simp -dsimp[h43,h45,h49])
       refine ADraw.eff [18,1000030] [(0,0),(0,0),(0,0),(0,0),(0,0),(0,0),(0,0),(0,5),(0,1),(0,1),(0,1),(0,1),(0,1),(0,1),(0,1),(0,5),(0,5),(0,5),(0,5)] [1,1,1,1,1,1,1,1,1,1,1,1,2,1,1,1,1,1,1] follows (by kernel_rfl) (by kernel_rfl) (by kernel_rfl) ?_
       repeat(first|refine chk.ga ?_|simp -dsimp[h43,h45,h49])
       have hF:=ob hF;obtain⟨v51,e52,hF⟩:=hF
       refine((ih_spec_l12Draw__ob23 v47.2 t (IntKind.i64.wrap (depth-1)) v51 e52)).ego (pl [0,1,2]) (by simp) (by simp) (plInjL _ (by simp) (by decide)) (by intro i hi hi';simp at hi hi';omega) (by first|simp[h43,h45,h49];done|simp_all) (by first|simp[h43,h45,h49];done|simp_all) ?_
       repeat(first|refine chk.ga ?_|simp -dsimp[h43,h45,h49])
       have hF:=ob hF;obtain⟨v53,e54,hF⟩:=hF
       refine((ih_spec_l12Draw__ob23 v51.2 t (IntKind.i64.wrap (depth-1)) v53 e54)).ego (pl [0,1,2]) (by simp) (by simp) (plInjL _ (by simp) (by decide)) (by intro i hi hi';simp at hi hi';omega) (by first|simp[h43,h45,h49];done|simp_all) (by first|simp[h43,h45,h49];done|simp_all) ?_
       cases hF
       repeat(first|refine chk.ga ?_|simp -dsimp[h43,h45,h49])
       all_goals(try first|omega|rfl|(simp;done)|(simp only[List.length_cons,List.length_nil]at*;omega)|simp)
      ·have q50:¬(v47.1=0):=auq h49
       rw[if_neg q50]at hF
       repeat(first|refine chk.ga ?_|simp -dsimp[h43,h45,h49,q50])
       refine abr.split (fun h55=> ?_) (fun h55=> ?_)
       ·have q56:¬(depth<2):=auq h55
        rw[if_neg q56]at hF
        repeat(first|refine chk.ga ?_|simp -dsimp[h43,h45,h49,q50,h55,q56])
        have hF:=ob hF;obtain⟨v57,e58,hF⟩:=hF
        refine(((CC.f56 B hB1 hB2 w v).1 v47.2 t (1:Int) v57 e58)).go 0 rfl (by first|simp[h43,h45,h49,q50,h55,q56];done|simp_all) (by simp) (by first|simp[h43,h45,h49,q50,h55,q56];done|simp_all) ?_
        repeat(first|refine chk.ga ?_|simp -dsimp[h43,h45,h49,q50,h55,q56])
        have hF:=ob hF;obtain⟨v59,e60,hF⟩:=hF
        refine(((CC.f61 B hB1 hB2).1 v57.1 v59 e60)).goW (by first|simp[h43,h45,h49,q50,h55,q56];done|simp_all) (by simp) ?_
        cases hF
        repeat(first|refine chk.ga ?_|simp -dsimp[h43,h45,h49,q50,h55,q56])
        all_goals(try first|omega|rfl|(simp;done)|(simp only[List.length_cons,List.length_nil]at*;omega)|simp)
       ·have q56:(depth<2):=auq h55
        rw[if_pos q56]at hF
        repeat(first|refine chk.ga ?_|simp -dsimp[h43,h45,h49,q50,h55,q56])
        have hF:=ob hF;obtain⟨v61,e62,hF⟩:=hF
        refine(((CC.f56 B hB1 hB2 w v).1 v47.2 t (1:Int) v61 e62)).go 0 rfl (by first|simp[h43,h45,h49,q50,h55,q56];done|simp_all) (by simp) (by first|simp[h43,h45,h49,q50,h55,q56];done|simp_all) ?_
        repeat(first|refine chk.ga ?_|simp -dsimp[h43,h45,h49,q50,h55,q56])
        have hF:=ob hF;obtain⟨v63,e64,hF⟩:=hF
        refine(((CC.f61 B hB1 hB2).1 v61.1 v63 e64)).goW (by first|simp[h43,h45,h49,q50,h55,q56];done|simp_all) (by simp) ?_
        cases hF
        repeat(first|refine chk.ga ?_|simp -dsimp[h43,h45,h49,q50,h55,q56])
        all_goals(try first|omega|rfl|(simp;done)|(simp only[List.length_cons,List.length_nil]at*;omega)|simp)
     ·have q46:¬(1<depth):=auq h45
      rw[if_neg q46]at hF
      repeat(first|refine chk.ga ?_|simp -dsimp[h43,h45,q46])
      refine abr.split (fun h65=> ?_) (fun h65=> ?_)
      ·have q66:¬(depth<2):=auq h65
       rw[if_neg q66]at hF
       repeat(first|refine chk.ga ?_|simp -dsimp[h43,h45,q46,h65,q66])
       have hF:=ob hF;obtain⟨v67,e68,hF⟩:=hF
       refine(((CC.f56 B hB1 hB2 w v).1 (⟨sx42.1,sx42.2⟩:Vl.T_spec_l17Rd) t (1:Int) v67 e68)).go 0 rfl (by first|simp[h43,h45,q46,h65,q66];done|simp_all) (by simp) (by first|simp[h43,h45,q46,h65,q66];done|simp_all) ?_
       repeat(first|refine chk.ga ?_|simp -dsimp[h43,h45,q46,h65,q66])
       have hF:=ob hF;obtain⟨v69,e70,hF⟩:=hF
       refine(((CC.f61 B hB1 hB2).1 v67.1 v69 e70)).goW (by first|simp[h43,h45,q46,h65,q66];done|simp_all) (by simp) ?_
       cases hF
       repeat(first|refine chk.ga ?_|simp -dsimp[h43,h45,q46,h65,q66])
       all_goals(try first|omega|rfl|(simp;done)|(simp only[List.length_cons,List.length_nil]at*;omega)|simp)
      ·have q66:(depth<2):=auq h65
       rw[if_pos q66]at hF
       repeat(first|refine chk.ga ?_|simp -dsimp[h43,h45,q46,h65,q66])
       have hF:=ob hF;obtain⟨v71,e72,hF⟩:=hF
       refine(((CC.f56 B hB1 hB2 w v).1 (⟨sx42.1,sx42.2⟩:Vl.T_spec_l17Rd) t (1:Int) v71 e72)).go 0 rfl (by first|simp[h43,h45,q46,h65,q66];done|simp_all) (by simp) (by first|simp[h43,h45,q46,h65,q66];done|simp_all) ?_
       repeat(first|refine chk.ga ?_|simp -dsimp[h43,h45,q46,h65,q66])
       have hF:=ob hF;obtain⟨v73,e74,hF⟩:=hF
       refine(((CC.f61 B hB1 hB2).1 v71.1 v73 e74)).goW (by first|simp[h43,h45,q46,h65,q66];done|simp_all) (by simp) ?_
       cases hF
       repeat(first|refine chk.ga ?_|simp -dsimp[h43,h45,q46,h65,q66])
       all_goals(try first|omega|rfl|(simp;done)|(simp only[List.length_cons,List.length_nil]at*;omega)|simp)
    ·have q44:¬(t.data=(-1)):=auq h43
     rw[if_neg q44]at hF
     repeat(first|refine chk.ga ?_|simp -dsimp[h43,q44])
     refine abr.split (fun h75=> ?_) (fun h75=> ?_)
     ·have q76:¬(depth<2):=auq h75
      rw[if_neg q76]at hF
      repeat(first|refine chk.ga ?_|simp -dsimp[h43,q44,h75,q76])
      have hF:=ob hF;obtain⟨v77,e78,hF⟩:=hF
      refine(((CC.f56 B hB1 hB2 w v).1 (⟨sx42.1,sx42.2⟩:Vl.T_spec_l17Rd) t depth v77 e78)).go 0 rfl (by first|simp[h43,q44,h75,q76];done|simp_all) (by simp) (by first|simp[h43,q44,h75,q76];done|simp_all) ?_
      repeat(first|refine chk.ga ?_|simp -dsimp[h43,q44,h75,q76])
      have hF:=ob hF;obtain⟨v79,e80,hF⟩:=hF
      refine((C.f45 B hB1 hB2 w t v77.1.ctor v79 e80)).goW (by first|simp[h43,q44,h75,q76];done|simp_all) (by simp) ?_
      repeat(first|refine chk.ga ?_|simp -dsimp[h43,q44,h75,q76])
      have hF:=ob hF;obtain⟨o'94,ho93,hF⟩:=hF
      refine ALoop.goU ⟨[(0,.ptr 0 0),(1,.arr (List.map Vl.Data.c w)),(2,.own 1 (List.length (α:=Vl.FunType) funs)),(3,.own 2 (List.length (α:=Vl.VarType) vars)),(5,.lit (.int .i64 depth)),(12,.ptr 4 0),(18,.ptr 6 0),(19,.arr (List.map Vl.Ty.c v79)),(20,.lit (.int .i64 (0:Int)))],[.cells [.arr (List.map cU v77.2.f0),.lit (.int .i64 v77.2.f1)],.elems 4 (List.map Vl.FunType.c funs),.elems 3 (List.map Vl.VarType.c vars),.dead,.cells [.lit (.int .i64 0),.lit (.int .i64 0),.lit (.int .i64 0),.lit (.slice none 0 0)],.dead,.cells [.lit (.int .i64 3),.lit (.int .i64 0),.lit (.int .i64 v77.1.ctor),.own 7 (List.length (α:=Vl.Expr) [])],.elems 4 (List.map Vl.Expr.c [])]⟩ (by refine Gh.trans (Gh.nilCell 6 3 4 (by simp -dsimp;rfl) (by simp -dsimp)) ?_;exact(Gh.to3 (by simp) (by first|simp -dsimp[h43,q44,h75,q76];done|simp_all))) ?_
      refine(ih_spec_l12Draw__ob23_l3 depth v77 v79 v77.2.f0 v77.2.f1 [] 0 o'94 ho93) _ rfl _ ?_
      cases hF
      repeat(first|refine chk.ga ?_|simp -dsimp)
      all_goals(try first|omega|rfl|(simp;done)|(simp only[List.length_cons,List.length_nil]at*;omega)|simp)
     ·have q76:(depth<2):=auq h75
      rw[if_pos q76]at hF
      repeat(first|refine chk.ga ?_|simp -dsimp[h43,q44,h75,q76])
      have hF:=ob hF;obtain⟨v95,e96,hF⟩:=hF
      refine(((CC.f56 B hB1 hB2 w v).1 (⟨sx42.1,sx42.2⟩:Vl.T_spec_l17Rd) t (1:Int) v95 e96)).go 0 rfl (by first|simp[h43,q44,h75,q76];done|simp_all) (by simp) (by first|simp[h43,q44,h75,q76];done|simp_all) ?_
      repeat(first|refine chk.ga ?_|simp -dsimp[h43,q44,h75,q76])
      have hF:=ob hF;obtain⟨v97,e98,hF⟩:=hF
      refine(((CC.f61 B hB1 hB2).1 v95.1 v97 e98)).goW (by first|simp[h43,q44,h75,q76];done|simp_all) (by simp) ?_
      cases hF
      repeat(first|refine chk.ga ?_|simp -dsimp[h43,q44,h75,q76])
      all_goals(try first|omega|rfl|(simp;done)|(simp only[List.length_cons,List.length_nil]at*;omega)|simp)
 ·intro _f_spec_l12Draw__ob23 _f_spec_l12Draw__ob23_l3 ih_spec_l12Draw__ob23 ih_spec_l12Draw__ob23_l3 depth v77 v79 z81 z82 out i83 o hF
  intro c hc Q hq
  obtain rfl:c=_:=navEq hc rfl
  refine ALoopU.know fun hk hs=> ?_
  have b1:=hk 1
  simp -dsimp at b1
  have b19:=hk 19
  simp -dsimp at b19
  have d0:=hs 0 _ rfl
  simp -dsimp[Blk.bnd]at d0
  have d1:=hs 1 _ rfl
  simp -dsimp[Blk.bnd]at d1
  have d2:=hs 2 _ rfl
  simp -dsimp[Blk.bnd]at d2
  have d7:=hs 7 _ rfl
  simp -dsimp[Blk.bnd]at d7
  clear hk hs
  refine ALoopU.enter ?_
  repeat(first|refine chk.ga ?_|simp -dsimp)
  refine abr.split (fun h84=> ?_) (fun h84=> ?_)
  ·have q85:(i83<v79.length):=auq h84
   have z86:((i83:Int)<(v79.length:Int)):=auz
   rw[if_pos q85]at hF
   repeat(first|refine chk.ga ?_|simp -dsimp[h84,z86])
   refine ADraw.eff [18] [(0,2),(0,2),(0,0),(0,0),(0,0),(0,0),(0,0),(0,0),(0,0),(0,0),(0,0),(0,0),(0,4),(0,4),(0,4),(3,3),(0,4)] [0,2,1,1,1,1,1,1,1,1,1,1,1,1,1,1,1] follows (by kernel_rfl) (by kernel_rfl) (by kernel_rfl) ?_
   have hF:=ob hF;obtain⟨x87,e88,hF⟩:=hF
   have le88:=lt_of_get e88
   repeat(first|refine chk.ga ?_|simp -dsimp[h84,z86,↓e88])
   have hF:=ob hF;obtain⟨v89,e90,hF⟩:=hF
   refine((ih_spec_l12Draw__ob23 (⟨z81,z82⟩:Vl.T_spec_l17Rd) x87 (IntKind.i64.wrap (depth-1)) v89 e90)).ego (pl [0,1,2]) (by simp) (by simp) (plInjL _ (by simp) (by decide)) (by intro i hi hi';simp at hi hi';omega) (by first|simp[h84,z86,↓e88];done|simp_all) (by first|simp[h84,z86,↓e88];done|simp_all) ?_
   have hF:=oc hF;obtain⟨c91,hF⟩:=hF
   have w92:IntKind.i64.wrap ((i83:Int)+1)=(i83:Int)+1:=wrap_in (by omega) (by omega)
   repeat(first|refine chk.ga ?_|simp -dsimp[h84,z86,↓e88,w92])
   refine Again.go _ ?_ ((ih_spec_l12Draw__ob23_l3 depth v77 v79 v89.2.f0 v89.2.f1 (out++[v89.1]) (i83+1) o hF) _ rfl _ hq)
   exact(Gh.to3 (by simp) (by first|simp -dsimp[h84,z86,↓e88,w92];done|simp_all))
  ·have q85:¬(i83<v79.length):=auq h84
   have z86:¬((i83:Int)<(v79.length:Int)):=auz
   rw[if_neg q85]at hF
   cases hF
   repeat(first|refine chk.ga ?_|simp -dsimp[h84,q85,z86])
   refine Leave.go ⟨[(12,.ptr 4 0),(18,.ptr 6 0)],[.cells [.arr (List.map cU z81),.lit (.int .i64 z82)],.elems 4 (List.map Vl.FunType.c funs),.elems 3 (List.map Vl.VarType.c vars),.dead,.cells [.lit (.int .i64 0),.lit (.int .i64 0),.lit (.int .i64 0),.lit (.slice none 0 0)],.dead,.cells [.lit (.int .i64 3),.lit (.int .i64 0),.lit (.int .i64 v77.1.ctor),.own 7 (List.length (α:=Vl.Expr) out)],.elems 4 (List.map Vl.Expr.c out)]⟩ (Gh.to3 (by simp) (by first|simp -dsimp[h84,q85,z86];done|simp_all)) ?_
   exact hq
 ·intro _f_spec_l12Draw__ob23 _f_spec_l12Draw__ob23_l2 ih_spec_l12Draw__ob23 ih_spec_l12Draw__ob23_l2 t depth v z19 z20 i21 o hF
  intro c hc Q hq
  obtain rfl:c=_:=navEq hc rfl
  refine ALoopU.know fun hk hs=> ?_
  have b1:=hk 1
  simp -dsimp at b1
  have b13:=hk 13
  simp -dsimp at b13
  have d0:=hs 0 _ rfl
  simp -dsimp[Blk.bnd]at d0
  have d1:=hs 1 _ rfl
  simp -dsimp[Blk.bnd]at d1
  have d2:=hs 2 _ rfl
  simp -dsimp[Blk.bnd]at d2
  clear hk hs
  refine ALoopU.enter ?_
  repeat(first|refine chk.ga ?_|simp -dsimp)
  refine abr.split (fun h22=> ?_) (fun h22=> ?_)
  ·have q23:(i21<funs.length):=auq h22
   have z24:((i21:Int)<(funs.length:Int)):=auz
   rw[if_pos q23]at hF
   repeat(first|refine chk.ga ?_|simp -dsimp[h22,z24])
   refine abr.split (fun h25=> ?_) (fun h25=> ?_)
   ·have q26:(1<depth):=auq h25
    rw[if_pos q26]at hF
    repeat(first|refine chk.ga ?_|simp -dsimp[h22,z24,h25])
    refine ADraw.eff [20] [(0,0),(0,0),(0,0),(0,0),(0,0),(0,0),(0,1),(0,0),(0,0),(0,0),(0,0),(0,0),(0,0),(0,0),(0,1),(0,0),(0,0),(0,0),(0,0),(0,1),(1,1),(1,1)] [1,1,1,1,1,1,1,1,1,1,1,1,1,1,1,1,1,1,1,1,1,1] follows (by kernel_rfl) (by kernel_rfl) (by kernel_rfl) ?_
    have hF:=ob hF;obtain⟨x27,e28,hF⟩:=hF
    have le28:=lt_of_get e28
    repeat(first|refine chk.ga ?_|simp -dsimp[h22,z24,h25,↓e28])
    have hF:=ob hF;obtain⟨v29,e30,hF⟩:=hF
    refine((C.f60 B hB1 hB2 x27.res t v29 e30)).pgoW (by first|simp[h22,z24,h25,↓e28];done|simp_all) (by simp) ?_
    repeat(first|refine chk.ga ?_|simp -dsimp[h22,z24,h25,↓e28])
    refine abr.split (fun h31=> ?_) (fun h31=> ?_)
    ·have q32:(v29=true):=auq h31
     rw[if_pos q32]at hF
     repeat(first|refine chk.ga ?_|simp -dsimp[h22,z24,h25,↓e28,h31])
     have hF:=ob hF;obtain⟨v33,e34,hF⟩:=hF
     refine((C.f47 B hB1 hB2 v x27.arg v33 e34)).pgoW (by first|simp[h22,z24,h25,↓e28,h31];done|simp_all) (by simp) ?_
     repeat(first|refine chk.ga ?_|simp -dsimp[h22,z24,h25,↓e28,h31])
     refine abr.split (fun h35=> ?_) (fun h35=> ?_)
     ·have q36:(0<v33):=auq h35
      rw[if_pos q36]at hF
      repeat(first|refine chk.ga ?_|simp -dsimp[h22,z24,h25,↓e28,h31,h35])
      have hF:=ob hF;obtain⟨v37,e38,hF⟩:=hF
      refine((C.f1 B hB1 hB2 (⟨z19,z20⟩:Vl.T_spec_l17Rd) (3:Int) v37 e38)).ego 0 rfl (by first|simp[h22,z24,h25,↓e28,h31,h35];done|simp_all) (by simp) (by first|simp[h22,z24,h25,↓e28,h31,h35];done|simp_all) ?_
      repeat(first|refine chk.ga ?_|simp -dsimp[h22,z24,h25,↓e28,h31,h35])
      refine abr.split (fun h39=> ?_) (fun h39=> ?_)
      ·have q40:(v37.1=0):=auq h39
       rw[if_pos q40]at hF
       repeat(first|refine chk.ga ?_|simp -dsimp[h22,z24,h25,↓e28,h31,h35,h39])
       have hF:=ob hF;obtain⟨v41,e42,hF⟩:=hF
       refine((ih_spec_l12Draw__ob23 v37.2 x27.arg (IntKind.i64.wrap (depth-1)) v41 e42)).go (pl [0,1,2]) (by simp) (by simp) (plInjL _ (by simp) (by decide)) (by intro i hi hi';simp at hi hi';omega) (by first|simp[h22,z24,h25,↓e28,h31,h35,h39];done|simp_all) (by first|simp[h22,z24,h25,↓e28,h31,h35,h39];done|simp_all) ?_
       cases hF
       repeat(first|refine chk.ga ?_|simp -dsimp[h22,z24,h25,↓e28,h31,h35,h39])
       refine Leave.go _ (Gh.refl _) (hq _ ?_)
       repeat(first|refine chk.ga ?_|simp -dsimp[h22,z24,h25,↓e28,h31,h35,h39])
      ·have q40:¬(v37.1=0):=auq h39
       rw[if_neg q40]at hF
       have w43:IntKind.i64.wrap ((i21:Int)+1)=(i21:Int)+1:=wrap_in (by omega) (by omega)
       repeat(first|refine chk.ga ?_|simp -dsimp[h22,z24,h25,↓e28,h31,h35,h39,q40,w43])
       refine Again.go _ ?_ ((ih_spec_l12Draw__ob23_l2 t depth v v37.2.f0 v37.2.f1 (i21+1) o hF) _ rfl _ hq)
       exact(Gh.to3 (by simp) (by first|simp -dsimp[h22,z24,h25,↓e28,h31,h35,h39,q40,w43];done|simp_all))
     ·have q36:¬(0<v33):=auq h35
      rw[if_neg q36]at hF
      have w39:IntKind.i64.wrap ((i21:Int)+1)=(i21:Int)+1:=wrap_in (by omega) (by omega)
      repeat(first|refine chk.ga ?_|simp -dsimp[h22,z24,h25,↓e28,h31,h35,q36,w39])
      refine Again.go _ ?_ ((ih_spec_l12Draw__ob23_l2 t depth v z19 z20 (i21+1) o hF) _ rfl _ hq)
      exact(Gh.to3 (by simp) (by first|simp -dsimp[h22,z24,h25,↓e28,h31,h35,q36,w39];done|simp_all))
    ·have q32:¬(v29=true):=auq h31
     rw[if_neg q32]at hF
     have w39:IntKind.i64.wrap ((i21:Int)+1)=(i21:Int)+1:=wrap_in (by omega) (by omega)
     repeat(first|refine chk.ga ?_|simp -dsimp[h22,z24,h25,↓e28,h31,q32,w39])
     refine Again.go _ ?_ ((ih_spec_l12Draw__ob23_l2 t depth v z19 z20 (i21+1) o hF) _ rfl _ hq)
     exact(Gh.to3 (by simp) (by first|simp -dsimp[h22,z24,h25,↓e28,h31,q32,w39];done|simp_all))
   ·have q26:¬(1<depth):=auq h25
    rw[if_neg q26]at hF
    cases hF
    repeat(first|refine chk.ga ?_|simp -dsimp[h22,z24,h25,q26])
    refine Leave.go ⟨[(0,.ptr 0 0),(1,.arr (List.map Vl.Data.c w)),(2,.own 1 (List.length (α:=Vl.FunType) funs)),(3,.own 2 (List.length (α:=Vl.VarType) vars)),(5,.lit (.int .i64 depth)),(10,.ptr 3 0),(12,.ptr 4 0),(13,.arr (List.map cI v))],[.cells [.arr (List.map cU z19),.lit (.int .i64 z20)],.elems 4 (List.map Vl.FunType.c funs),.elems 3 (List.map Vl.VarType.c vars),.cells [.lit (.int .i64 t.data),.lit (.int .i64 t.index)],.cells [.lit (.int .i64 0),.lit (.int .i64 0),.lit (.int .i64 0),.lit (.slice none 0 0)]]⟩ (Gh.to3 (by simp) (by first|simp -dsimp[h22,z24,h25,q26];done|simp_all)) ?_
    exact hq
  ·have q23:¬(i21<funs.length):=auq h22
   have z24:¬((i21:Int)<(funs.length:Int)):=auz
   rw[if_neg q23]at hF
   cases hF
   repeat(first|refine chk.ga ?_|simp -dsimp[h22,q23,z24])
   refine Leave.go ⟨[(0,.ptr 0 0),(1,.arr (List.map Vl.Data.c w)),(2,.own 1 (List.length (α:=Vl.FunType) funs)),(3,.own 2 (List.length (α:=Vl.VarType) vars)),(5,.lit (.int .i64 depth)),(10,.ptr 3 0),(12,.ptr 4 0),(13,.arr (List.map cI v))],[.cells [.arr (List.map cU z19),.lit (.int .i64 z20)],.elems 4 (List.map Vl.FunType.c funs),.elems 3 (List.map Vl.VarType.c vars),.cells [.lit (.int .i64 t.data),.lit (.int .i64 t.index)],.cells [.lit (.int .i64 0),.lit (.int .i64 0),.lit (.int .i64 0),.lit (.slice none 0 0)]]⟩ (Gh.to3 (by simp) (by first|simp -dsimp[h22,q23,z24];done|simp_all)) ?_
   exact hq
theorem C.f68 (code:List Int)(r:(List Vl.Data)×(List Vl.FunType)×(List Vl.VarType)×Vl.Ty×Vl.Expr)(hF:F.f68 code=some r):PureCall Tryz.prog B 5 [.arr (List.map cU code)] (.tup [.arr (List.map Vl.Data.c r.1),.arr (List.map Vl.FunType.c r.2.1),.arr (List.map Vl.VarType.c r.2.2.1),.agg [.lit (.int .i64 r.2.2.2.1.data),.lit (.int .i64 r.2.2.2.1.index)],.agg [.lit (.int .i64 r.2.2.2.2.op),.lit (.int .i64 r.2.2.2.2.n),.lit (.int .i64 r.2.2.2.2.ctor),.arr (List.map Vl.Expr.c r.2.2.2.2.kids)]]):=by
 unfold F.f68 at hF
 refine PureCall.enterLe Tryz.func5 (by kernel_rfl) rfl Tryz.ntmps5 (by simp) (by simp) ?_
 repeat(first|refine chk.ga ?_|simp -dsimp)
 refine ACall.inl Tryz.func15 (by kernel_rfl) rfl Tryz.ntmps15 (by simp) ?_
 repeat(first|refine chk.ga ?_|simp -dsimp)
 refine abr.split (fun h1=> ?_) (fun h1=> ?_)
 ·have q2:(2000<code.length):=auq h1
  have z3:((2000:Int)<(code.length:Int)):=auz
  rw[if_pos q2]at hF
  have hF:=oc hF;obtain⟨c4,hF⟩:=hF
  repeat(first|refine chk.ga ?_|simp -dsimp[h1,z3])
  have hF:=ob hF;obtain⟨v,e5,hF⟩:=hF
  refine((C.spec_l12Scene__o12 B hB1 hB2 (⟨(code.drop 0).take (2000-0),(0:Int)⟩:Vl.T_spec_l17Rd) v e5)).go (pl [2,3,4]) (by simp) (by simp) (plInjL _ (by simp) (by decide)) (by intro i hi hi';simp at hi hi';have hi:i=1∨i=2:=(by omega);rcases hi with rfl|rfl<;>simp[pl]) (by first|simp[h1,z3];done|simp_all) (by first|simp[h1,z3];done|simp_all) ?_
  repeat(first|refine chk.ga ?_|simp -dsimp[h1,z3])
  refine ADraw.effL [(7,11),(8,11),(9,11),(10,11)] 11 [17,18,19] [(0,3),(0,2),(0,2),(0,2),(0,2),(0,2),(0,1),(0,6),(0,6),(0,6),(0,6),(0,6),(0,6)] [1,1,1,1,1,2,1,1,1,1,1,1,1] follows (by kernel_rfl) (by kernel_rfl) (by kernel_rfl) (by kernel_rfl) (by intro d hd;cases hd;rfl) ?_
  repeat(first|refine chk.ga ?_|simp -dsimp[h1,z3])
  have hF:=ob hF;obtain⟨v6,e7,hF⟩:=hF
  refine ECallA.frz ?_ ((C.f54 B hB1 hB2 v.2.2.2.2 [(3:Int),(2:Int),(4:Int),(1:Int)] v6 e7)).ent
  repeat(first|refine chk.ga ?_|simp -dsimp[h1,z3])
  refine((C.f54 B hB1 hB2 v.2.2.2.2 [(3:Int),(2:Int),(4:Int),(1:Int)] v6 e7)).ego 2 rfl (by first|simp[h1,z3];done|simp_all) (by simp) (by first|simp[h1,z3];done|simp_all) ?_
  repeat(first|refine chk.ga ?_|simp -dsimp[h1,z3])
  have hF:=ob hF;obtain⟨v8,e9,hF⟩:=hF
  refine(((CC.spec_l12Draw__ob23 B hB1 hB2 v.1 v.2.1 v.2.2.1).1 v6.2 v.2.2.2.1 v6.1 v8 e9)).ego (pl [2,3,4]) (by simp) (by simp) (plInjL _ (by simp) (by decide)) (by intro i hi hi';simp at hi hi';omega) (by first|simp[h1,z3];done|simp_all) (by first|simp[h1,z3];done|simp_all) ?_
  repeat(first|refine chk.ga ?_|simp -dsimp[h1,z3])
  have hF:=ob hF;obtain⟨v10,e11,hF⟩:=hF
  refine(((CC.f67 B hB1 hB2) v8.2 v8.1 v10 e11)).ego 2 rfl (by first|simp[h1,z3];done|simp_all) (by simp) (by first|simp[h1,z3];done|simp_all) ?_
  repeat(first|refine chk.ga ?_|simp -dsimp[h1,z3])
  have hF:=ob hF;obtain⟨v12,e13,hF⟩:=hF
  refine((C.f1 B hB1 hB2 v10.2 (24:Int) v12 e13)).go 2 rfl (by first|simp[h1,z3];done|simp_all) (by simp) (by first|simp[h1,z3];done|simp_all) ?_
  repeat(first|refine chk.ga ?_|simp -dsimp[h1,z3])
  refine abr.split (fun h14=> ?_) (fun h14=> ?_)
  ·have q15:(v12.1=0):=auq h14
   rw[if_pos q15]at hF
   have hF:=oc hF;obtain⟨c16,hF⟩:=hF
   repeat(first|refine chk.ga ?_|simp -dsimp[h1,z3,h14])
   refine ADraw.eff [] [(0,0),(0,0),(0,0),(0,0),(0,1),(0,0),(0,0),(0,0),(0,2),(0,2)] [1,1,1,1,2,1,1,1,1,1] follows (by kernel_rfl) (by kernel_rfl) (by kernel_rfl) ?_
   cases hF
   repeat(first|refine chk.ga ?_|simp -dsimp[h1,z3,h14])
   all_goals(try first|omega|rfl)
  ·have q15:¬(v12.1=0):=auq h14
   rw[if_neg q15]at hF
   repeat(first|refine chk.ga ?_|simp -dsimp[h1,z3,h14,q15])
   refine abr.split (fun h17=> ?_) (fun h17=> ?_)
   ·have q18:(v12.1=1):=auq h17
    rw[if_pos q18]at hF
    repeat(first|refine chk.ga ?_|simp -dsimp[h1,z3,h14,q15,h17])
    refine ADraw.eff [19] [(0,3),(0,1),(0,4),(0,4),(0,2),(2,2),(0,4),(0,4),(4,4)] [1,1,1,1,2,1,1,1,1] follows (by kernel_rfl) (by kernel_rfl) (by kernel_rfl) ?_
    repeat(first|refine chk.ga ?_|simp -dsimp[h1,z3,h14,q15,h17])
    have hF:=ob hF;obtain⟨v19,e20,hF⟩:=hF
    refine ECallA.frz ?_ ((C.f54 B hB1 hB2 v12.2 [(0:Int),(9:Int),(-1:Int)] v19 e20)).ent
    repeat(first|refine chk.ga ?_|simp -dsimp[h1,z3,h14,q15,h17])
    refine((C.f54 B hB1 hB2 v12.2 [(0:Int),(9:Int),(-1:Int)] v19 e20)).ego 2 rfl (by first|simp[h1,z3,h14,q15,h17];done|simp_all) (by simp) (by first|simp[h1,z3,h14,q15,h17];done|simp_all) ?_
    have hF:=oc hF;obtain⟨c21,hF⟩:=hF
    repeat(first|refine chk.ga ?_|simp -dsimp[h1,z3,h14,q15,h17])
    refine ADraw.eff [] [(0,0),(0,0),(0,0),(0,0),(0,1),(0,0),(0,0),(0,0),(0,2),(0,2)] [1,1,1,1,2,1,1,1,1,1] follows (by kernel_rfl) (by kernel_rfl) (by kernel_rfl) ?_
    cases hF
    repeat(first|refine chk.ga ?_|simp -dsimp[h1,z3,h14,q15,h17])
    all_goals(try first|omega|rfl)
   ·have q18:¬(v12.1=1):=auq h17
    rw[if_neg q18]at hF
    repeat(first|refine chk.ga ?_|simp -dsimp[h1,z3,h14,q15,h17,q18])
    refine ADraw.eff [] [(0,0),(0,0),(0,0),(0,0),(0,1),(0,0),(0,0),(0,0),(0,2),(0,2)] [1,1,1,1,2,1,1,1,1,1] follows (by kernel_rfl) (by kernel_rfl) (by kernel_rfl) ?_
    cases hF
    repeat(first|refine chk.ga ?_|simp -dsimp[h1,z3,h14,q15,h17,q18])
    all_goals(try first|omega|rfl)
 ·have q2:¬(2000<code.length):=auq h1
  have z3:¬((2000:Int)<(code.length:Int)):=auz
  rw[if_neg q2]at hF
  repeat(first|refine chk.ga ?_|simp -dsimp[h1,q2,z3])
  have hF:=ob hF;obtain⟨v22,e23,hF⟩:=hF
  refine((C.spec_l12Scene__o12 B hB1 hB2 (⟨code,(0:Int)⟩:Vl.T_spec_l17Rd) v22 e23)).go (pl [2,3,4]) (by simp) (by simp) (plInjL _ (by simp) (by decide)) (by intro i hi hi';simp at hi hi';have hi:i=1∨i=2:=(by omega);rcases hi with rfl|rfl<;>simp[pl]) (by first|simp[h1,q2,z3];done|simp_all) (by first|simp[h1,q2,z3];done|simp_all) ?_
  repeat(first|refine chk.ga ?_|simp -dsimp[h1,q2,z3])
  refine ADraw.effL [(7,11),(8,11),(9,11),(10,11)] 11 [17,18,19] [(0,3),(0,2),(0,2),(0,2),(0,2),(0,2),(0,1),(0,6),(0,6),(0,6),(0,6),(0,6),(0,6)] [1,1,1,1,1,2,1,1,1,1,1,1,1] follows (by kernel_rfl) (by kernel_rfl) (by kernel_rfl) (by kernel_rfl) (by intro d hd;cases hd;rfl) ?_
  repeat(first|refine chk.ga ?_|simp -dsimp[h1,q2,z3])
  have hF:=ob hF;obtain⟨v24,e25,hF⟩:=hF
  refine ECallA.frz ?_ ((C.f54 B hB1 hB2 v22.2.2.2.2 [(3:Int),(2:Int),(4:Int),(1:Int)] v24 e25)).ent
  repeat(first|refine chk.ga ?_|simp -dsimp[h1,q2,z3])
  refine((C.f54 B hB1 hB2 v22.2.2.2.2 [(3:Int),(2:Int),(4:Int),(1:Int)] v24 e25)).ego 2 rfl (by first|simp[h1,q2,z3];done|simp_all) (by simp) (by first|simp[h1,q2,z3];done|simp_all) ?_
  repeat(first|refine chk.ga ?_|simp -dsimp[h1,q2,z3])
  have hF:=ob hF;obtain⟨v26,e27,hF⟩:=hF
  refine(((CC.spec_l12Draw__ob23 B hB1 hB2 v22.1 v22.2.1 v22.2.2.1).1 v24.2 v22.2.2.2.1 v24.1 v26 e27)).ego (pl [2,3,4]) (by simp) (by simp) (plInjL _ (by simp) (by decide)) (by intro i hi hi';simp at hi hi';omega) (by first|simp[h1,q2,z3];done|simp_all) (by first|simp[h1,q2,z3];done|simp_all) ?_
  repeat(first|refine chk.ga ?_|simp -dsimp[h1,q2,z3])
  have hF:=ob hF;obtain⟨v28,e29,hF⟩:=hF
  refine(((CC.f67 B hB1 hB2) v26.2 v26.1 v28 e29)).ego 2 rfl (by first|simp[h1,q2,z3];done|simp_all) (by simp) (by first|simp[h1,q2,z3];done|simp_all) ?_
  repeat(first|refine chk.ga ?_|simp -dsimp[h1,q2,z3])
  have hF:=ob hF;obtain⟨v30,e31,hF⟩:=hF
  refine((C.f1 B hB1 hB2 v28.2 (24:Int) v30 e31)).go 2 rfl (by first|simp[h1,q2,z3];done|simp_all) (by simp) (by first|simp[h1,q2,z3];done|simp_all) ?_
  repeat(first|refine chk.ga ?_|simp -dsimp[h1,q2,z3])
  refine abr.split (fun h32=> ?_) (fun h32=> ?_)
  ·have q33:(v30.1=0):=auq h32
   rw[if_pos q33]at hF
   have hF:=oc hF;obtain⟨c34,hF⟩:=hF
   repeat(first|refine chk.ga ?_|simp -dsimp[h1,q2,z3,h32])
   refine ADraw.eff [] [(0,0),(0,0),(0,0),(0,0),(0,1),(0,0),(0,0),(0,0),(0,2),(0,2)] [1,1,1,1,2,1,1,1,1,1] follows (by kernel_rfl) (by kernel_rfl) (by kernel_rfl) ?_
   cases hF
   repeat(first|refine chk.ga ?_|simp -dsimp[h1,q2,z3,h32])
   all_goals(try first|omega|rfl)
  ·have q33:¬(v30.1=0):=auq h32
   rw[if_neg q33]at hF
   repeat(first|refine chk.ga ?_|simp -dsimp[h1,q2,z3,h32,q33])
   refine abr.split (fun h35=> ?_) (fun h35=> ?_)
   ·have q36:(v30.1=1):=auq h35
    rw[if_pos q36]at hF
    repeat(first|refine chk.ga ?_|simp -dsimp[h1,q2,z3,h32,q33,h35])
    refine ADraw.eff [19] [(0,3),(0,1),(0,4),(0,4),(0,2),(2,2),(0,4),(0,4),(4,4)] [1,1,1,1,2,1,1,1,1] follows (by kernel_rfl) (by kernel_rfl) (by kernel_rfl) ?_
    repeat(first|refine chk.ga ?_|simp -dsimp[h1,q2,z3,h32,q33,h35])
    have hF:=ob hF;obtain⟨v37,e38,hF⟩:=hF
    refine ECallA.frz ?_ ((C.f54 B hB1 hB2 v30.2 [(0:Int),(9:Int),(-1:Int)] v37 e38)).ent
    repeat(first|refine chk.ga ?_|simp -dsimp[h1,q2,z3,h32,q33,h35])
    refine((C.f54 B hB1 hB2 v30.2 [(0:Int),(9:Int),(-1:Int)] v37 e38)).ego 2 rfl (by first|simp[h1,q2,z3,h32,q33,h35];done|simp_all) (by simp) (by first|simp[h1,q2,z3,h32,q33,h35];done|simp_all) ?_
    have hF:=oc hF;obtain⟨c39,hF⟩:=hF
    repeat(first|refine chk.ga ?_|simp -dsimp[h1,q2,z3,h32,q33,h35])
    refine ADraw.eff [] [(0,0),(0,0),(0,0),(0,0),(0,1),(0,0),(0,0),(0,0),(0,2),(0,2)] [1,1,1,1,2,1,1,1,1,1] follows (by kernel_rfl) (by kernel_rfl) (by kernel_rfl) ?_
    cases hF
    repeat(first|refine chk.ga ?_|simp -dsimp[h1,q2,z3,h32,q33,h35])
    all_goals(try first|omega|rfl)
   ·have q36:¬(v30.1=1):=auq h35
    rw[if_neg q36]at hF
    repeat(first|refine chk.ga ?_|simp -dsimp[h1,q2,z3,h32,q33,h35,q36])
    refine ADraw.eff [] [(0,0),(0,0),(0,0),(0,0),(0,1),(0,0),(0,0),(0,0),(0,2),(0,2)] [1,1,1,1,2,1,1,1,1,1] follows (by kernel_rfl) (by kernel_rfl) (by kernel_rfl) ?_
    cases hF
    repeat(first|refine chk.ga ?_|simp -dsimp[h1,q2,z3,h32,q33,h35,q36])
    all_goals(try first|omega|rfl)
theorem C.f69 (n:Int)(low:Int)(high:Int)(r:Bool)(hF:F.f69 n low high=some r):PureCall Tryz.prog B 61 [.lit (.int .i64 n),.lit (.int .i64 low),.lit (.int .i64 high)] (.lit (.bool r)):=by
 unfold F.f69 at hF
 refine PureCall.enterLe Tryz.func61 (by kernel_rfl) rfl Tryz.ntmps61 (by simp) (by simp) ?_
 repeat(first|refine chk.ga ?_|simp -dsimp)
 refine abr.split (fun h1=> ?_) (fun h1=> ?_)
 ·have q2:(low≤n):=auq h1
  rw[if_pos q2]at hF
  cases hF
  repeat(first|refine chk.ga ?_|simp -dsimp[h1])
  all_goals(try first|omega|rfl)
 ·have q2:¬(low≤n):=auq h1
  rw[if_neg q2]at hF
  cases hF
  repeat(first|refine chk.ga ?_|simp -dsimp[h1,q2])
  all_goals(try first|omega|rfl)
theorem CC.f70 (s:ByteArray):(∀(i:Nat) (o:Lo Bool Unit),F.f70 s i=some o→∀(c:Code),navO [1,1,0,1,0,0] (bodyOf Tryz.f88)=some c→∀(Q:Exit→ASt→Prop),o.post (fun r=>∀st,Post Tryz.prog Tryz.f88 (fun r' _=>r'.le (.lit (.bool r))) .ret st→Q .ret st) (fun s=>Q (.exit 0) ⟨[],[]⟩)→ALoopU Tryz.prog B 0 34 (hold c .mk) ⟨[(0,.lit (.string s)),(3,.lit (.int .i64 (i:Int)))],[]⟩ (hold Q .mk)):=by
 refine F.f70.partial_correctness s
  _
  ?_
 ·intro _f_f70 ih_f70 i o hF
  intro c hc Q hq
  obtain rfl:c=_:=navEq hc rfl
  refine ALoopU.know fun hk hs=> ?_
  clear hk hs
  refine ALoopU.enter ?_
  repeat(first|refine chk.ga ?_|simp -dsimp)
  refine abr.split (fun h11=> ?_) (fun h11=> ?_)
  ·have q12:(i<s.size):=auq h11
   have z13:((i:Int)<(s.size:Int)):=auz
   rw[if_pos q12]at hF
   repeat(first|refine chk.ga ?_|simp -dsimp[h11,z13])
   refine abr.split (fun h14=> ?_) (fun h14=> ?_)
   ·have q15:¬(byteAt s i<97):=auq h14
    have z16:¬(((byteAt s i:Nat):Int)<(97:Int)):=auz
    rw[if_neg q15]at hF
    repeat(first|refine chk.ga ?_|simp -dsimp[h11,z13,h14,q15,z16])
    refine abr.split (fun h17=> ?_) (fun h17=> ?_)
    ·have q18:(122<byteAt s i):=auq h17
     have z19:((122:Int)<((byteAt s i:Nat):Int)):=auz
     rw[if_pos q18]at hF
     cases hF
     repeat(first|refine chk.ga ?_|simp -dsimp[h11,z13,h14,q15,z16,h17,z19])
     refine Leave.go _ (Gh.refl _) (hq _ ?_)
     repeat(first|refine chk.ga ?_|simp -dsimp[h11,z13,h14,q15,z16,h17,z19])
    ·have q18:¬(122<byteAt s i):=auq h17
     have z19:¬((122:Int)<((byteAt s i:Nat):Int)):=auz
     rw[if_neg q18]at hF
     have hF:=oc hF;obtain⟨c20,hF⟩:=hF
     have w21:IntKind.i64.wrap ((i:Int)+1)=(i:Int)+1:=wrap_in (by omega) (by omega)
     repeat(first|refine chk.ga ?_|simp -dsimp[h11,z13,h14,q15,z16,h17,q18,z19,w21])
     refine Again.go _ ?_ ((ih_f70 (i+1) o hF) _ rfl _ hq)
     exact(Gh.to3 (by simp) (by first|simp -dsimp[h11,z13,h14,q15,z16,h17,q18,z19,w21];done|simp_all))
   ·have q15:(byteAt s i<97):=auq h14
    have z16:(((byteAt s i:Nat):Int)<(97:Int)):=auz
    rw[if_pos q15]at hF
    cases hF
    repeat(first|refine chk.ga ?_|simp -dsimp[h11,z13,h14,q15,z16])
    refine Leave.go _ (Gh.refl _) (hq _ ?_)
    repeat(first|refine chk.ga ?_|simp -dsimp[h11,z13,h14,q15,z16])
  ·have q12:¬(i<s.size):=auq h11
   have z13:¬((i:Int)<(s.size:Int)):=auz
   rw[if_neg q12]at hF
   cases hF
   repeat(first|refine chk.ga ?_|simp -dsimp[h11,q12,z13])
   refine Leave.go ⟨[],[]⟩ (Gh.to3 (by simp) (by first|simp -dsimp[h11,q12,z13];done|simp_all)) ?_
   exact hq
theorem C.f71 (s:ByteArray)(r:Bool)(hF:F.f71 s=some r):PureCall Tryz.prog B 88 [.lit (.string s)] (.lit (.bool r)):=by
 unfold F.f71 at hF
 refine PureCall.enterLe Tryz.func88 (by kernel_rfl) rfl Tryz.ntmps88 (by simp) (by simp) ?_
 repeat(first|refine chk.ga ?_|simp -dsimp)
 have hF:=ob hF;obtain⟨v,e1,hF⟩:=hF
 refine((C.f69 B hB1 hB2 (s.size:Int) (1:Int) (5:Int) v e1)).goW (by simp) (by simp) ?_
 repeat(first|refine chk.ga ?_|simp -dsimp)
 refine abr.split (fun h2=> ?_) (fun h2=> ?_)
 ·have q3:(v=true):=auq h2
  rw[if_pos q3]at hF
  have hF:=oc hF;obtain⟨c4,hF⟩:=hF
  repeat(first|refine chk.ga ?_|simp -dsimp[h2])
  refine abr.split (fun h5=> ?_) (fun h5=> ?_)
  ·have q6:¬(byteAt s 0<65):=auq h5
   have z7:¬(((byteAt s 0:Nat):Int)<(65:Int)):=auz
   rw[if_neg q6]at hF
   repeat(first|refine chk.ga ?_|simp -dsimp[h2,h5,q6,z7])
   refine abr.split (fun h8=> ?_) (fun h8=> ?_)
   ·have q9:(90<byteAt s 0):=auq h8
    have z10:((90:Int)<((byteAt s 0:Nat):Int)):=auz
    rw[if_pos q9]at hF
    cases hF
    repeat(first|refine chk.ga ?_|simp -dsimp[h2,h5,q6,z7,h8,z10])
    all_goals(try first|omega|rfl)
   ·have q9:¬(90<byteAt s 0):=auq h8
    have z10:¬((90:Int)<((byteAt s 0:Nat):Int)):=auz
    rw[if_neg q9]at hF
    repeat(first|refine chk.ga ?_|simp -dsimp[h2,h5,q6,z7,h8,q9,z10])
    have hF:=ob hF;obtain⟨o',ho22,hF⟩:=hF
    refine ALoop.goU _ ?_ (((CC.f70 B hB1 hB2 s) 1 o' ho22) _ rfl _ ?_)
    ·exact(Gh.to3 (by simp) (by first|simp -dsimp[h2,h5,q6,z7,h8,q9,z10];done|simp_all))
    rcases o' with r0|sx
    ·dsimp only at hF
     cases hF
     intro st h
     simpa using h
    ·dsimp only at hF
     cases hF
     repeat(first|refine chk.ga ?_|simp -dsimp)
     all_goals(try first|omega|rfl)
  ·have q6:(byteAt s 0<65):=auq h5
   have z7:(((byteAt s 0:Nat):Int)<(65:Int)):=auz
   rw[if_pos q6]at hF
   cases hF
   repeat(first|refine chk.ga ?_|simp -dsimp[h2,h5,q6,z7])
   all_goals(try first|omega|rfl)
 ·have q3:¬(v=true):=auq h2
  rw[if_neg q3]at hF
  cases hF
  repeat(first|refine chk.ga ?_|simp -dsimp[h2,q3])
  all_goals(try first|omega|rfl)
theorem C.f72 (w:List Vl.Data)(t:Vl.Ty)(r:Bool)(hF:F.f72 w t=some r):PureCall Tryz.prog B 91 [.arr (List.map Vl.Data.c w),.agg [.lit (.int .i64 t.data),.lit (.int .i64 t.index)]] (.lit (.bool r)):=by
 unfold F.f72 at hF
 refine PureCall.enterLe Tryz.func91 (by kernel_rfl) rfl Tryz.ntmps91 (by simp) (by simp) ?_
 repeat(first|refine chk.ga ?_|simp -dsimp)
 refine abr.split (fun h1=> ?_) (fun h1=> ?_)
 ·have q2:¬(dec (eq2 (t.data,t.index) ((-1),0))=true):=auq h1
  rw[if_neg q2]at hF
  repeat(first|refine chk.ga ?_|simp -dsimp[h1,q2])
  have hF:=ob hF;obtain⟨v,e3,hF⟩:=hF
  refine((C.f69 B hB1 hB2 t.data (0:Int) (IntKind.i64.wrap ((w.length:Int) -1)) v e3)).goW (by first|simp[h1,q2];done|simp_all) (by simp) ?_
  repeat(first|refine chk.ga ?_|simp -dsimp[h1,q2])
  refine abr.split (fun h4=> ?_) (fun h4=> ?_)
  ·have q5:(v=true):=auq h4
   rw[if_pos q5]at hF
   repeat(first|refine chk.ga ?_|simp -dsimp[h1,q2,h4])
   have hF:=ob hF;obtain⟨v6,e7,hF⟩:=hF
   refine((C.f69 B hB1 hB2 t.index (-1:Int) (3:Int) v6 e7)).goW (by first|simp[h1,q2,h4];done|simp_all) (by simp) ?_
   cases hF
   repeat(first|refine chk.ga ?_|simp -dsimp[h1,q2,h4])
   all_goals(try first|omega|rfl)
  ·have q5:¬(v=true):=auq h4
   rw[if_neg q5]at hF
   cases hF
   repeat(first|refine chk.ga ?_|simp -dsimp[h1,q2,h4,q5])
   all_goals(try first|omega|rfl)
 ·have q2:(dec (eq2 (t.data,t.index) ((-1),0))=true):=auq h1
  rw[if_pos q2]at hF
  cases hF
  repeat(first|refine chk.ga ?_|simp -dsimp[h1,q2])
  all_goals(try first|omega|rfl)
theorem C.f73 (t:Vl.Ty)(a1:List Vl.Data)(r:Bool)(hF:F.f73 t a1=some r):PureCall Tryz.prog B 90 [.agg [.lit (.int .i64 t.data),.lit (.int .i64 t.index)],.rptr [.arr (List.map Vl.Data.c a1)] 0] (.lit (.bool r)):=by
 unfold F.f73 at hF
 refine PureCall.enterLe Tryz.func90 (by kernel_rfl) rfl Tryz.ntmps90 (by simp) (by simp) ?_
 repeat(first|refine chk.ga ?_|simp -dsimp)
 have hF:=ob hF;obtain⟨v,e1,hF⟩:=hF
 refine((C.f72 B hB1 hB2 a1 t v e1)).goW (by simp) (by simp) ?_
 cases hF
 repeat(first|refine chk.ga ?_|simp -dsimp)
 all_goals(try first|omega|rfl)
theorem CC.f74 (s:List Vl.Ty)(k0:List Vl.Data):(∀(i:Nat) (o:Lo Int Unit),F.f74 s k0 i=some o→∀(c:Code),navO [1,0,1,0,0] (bodyOf Tryz.f107)=some c→∀(Q:Exit→ASt→Prop),o.post (fun r=>∀st,Post Tryz.prog Tryz.f107 (fun r' _=>r'.le (.lit (.int .i64 r))) .ret st→Q .ret st) (fun s=>Q (.exit 0) ⟨[],[]⟩)→ALoopU Tryz.prog B 0 19 (hold c .mk) ⟨[(0,.arr (List.map Vl.Ty.c s)),(1,.fn (.func 90) [] [.rptr [.arr (List.map Vl.Data.c k0)] 0]),(7,.lit (.int .i64 (s.length:Int))),(8,.lit (.int .i64 (i:Int)))],[]⟩ (hold Q .mk)):=by
 refine F.f74.partial_correctness s k0
  _
  ?_
 ·intro _f_f74 ih_f74 i o hF
  intro c hc Q hq
  obtain rfl:c=_:=navEq hc rfl
  refine ALoopU.know fun hk hs=> ?_
  have b0:=hk 0
  simp -dsimp at b0
  clear hk hs
  refine ALoopU.enter ?_
  repeat(first|refine chk.ga ?_|simp -dsimp)
  refine abr.split (fun h1=> ?_) (fun h1=> ?_)
  ·have q2:(i<s.length):=auq h1
   have z3:((i:Int)<(s.length:Int)):=auz
   rw[if_pos q2]at hF
   have hF:=ob hF;obtain⟨x,e4,hF⟩:=hF
   have le4:=lt_of_get e4
   repeat(first|refine chk.ga ?_|simp -dsimp[h1,z3,↓e4])
   have hF:=ob hF;obtain⟨v,e5,hF⟩:=hF
   refine((C.f73 B hB1 hB2 x k0 v e5)).goW (by first|simp[h1,z3,↓e4];done|simp_all) (by simp) ?_
   repeat(first|refine chk.ga ?_|simp -dsimp[h1,z3,↓e4])
   refine abr.split (fun h6=> ?_) (fun h6=> ?_)
   ·have q7:(v=true):=auq h6
    rw[if_pos q7]at hF
    cases hF
    repeat(first|refine chk.ga ?_|simp -dsimp[h1,z3,↓e4,h6])
    refine Leave.go _ (Gh.refl _) (hq _ ?_)
    repeat(first|refine chk.ga ?_|simp -dsimp[h1,z3,↓e4,h6])
   ·have q7:¬(v=true):=auq h6
    rw[if_neg q7]at hF
    have w8:IntKind.i64.wrap ((i:Int)+1)=(i:Int)+1:=wrap_in (by omega) (by omega)
    repeat(first|refine chk.ga ?_|simp -dsimp[h1,z3,↓e4,h6,q7,w8])
    refine Again.go _ ?_ ((ih_f74 (i+1) o hF) _ rfl _ hq)
    exact(Gh.to3 (by simp) (by first|simp -dsimp[h1,z3,↓e4,h6,q7,w8];done|simp_all))
  ·have q2:¬(i<s.length):=auq h1
   have z3:¬((i:Int)<(s.length:Int)):=auz
   rw[if_neg q2]at hF
   cases hF
   repeat(first|refine chk.ga ?_|simp -dsimp[h1,q2,z3])
   refine Leave.go ⟨[],[]⟩ (Gh.to3 (by simp) (by first|simp -dsimp[h1,q2,z3];done|simp_all)) ?_
   exact hq
theorem C.f75 (s:List Vl.Ty)(k0:List Vl.Data)(r:Int)(hF:F.f75 s k0=some r):PureCall Tryz.prog B 107 [.arr (List.map Vl.Ty.c s),.fn (.func 90) [] [.rptr [.arr (List.map Vl.Data.c k0)] 0]] (.lit (.int .i64 r)):=by
 unfold F.f75 at hF
 refine PureCall.enterLe Tryz.func107 (by kernel_rfl) rfl Tryz.ntmps107 (by simp) (by simp) ?_
 repeat(first|refine chk.ga ?_|simp -dsimp)
 have hF:=ob hF;obtain⟨o',ho9,hF⟩:=hF
 refine ALoop.goU _ ?_ (((CC.f74 B hB1 hB2 s k0) 0 o' ho9) _ rfl _ ?_)
 ·exact(Gh.to3 (by simp) (by simp -dsimp))
 rcases o' with r0|sx
 ·dsimp only at hF
  cases hF
  intro st h
  simpa using h
 ·dsimp only at hF
  cases hF
  repeat(first|refine chk.ga ?_|simp -dsimp)
  all_goals(try first|omega|rfl)
theorem C.f76 (s:List Vl.Ty)(k0:List Vl.Data)(r:Bool)(hF:F.f76 s k0=some r):PureCall Tryz.prog B 89 [.arr (List.map Vl.Ty.c s),.fn (.func 90) [] [.rptr [.arr (List.map Vl.Data.c k0)] 0]] (.lit (.bool r)):=by
 unfold F.f76 at hF
 refine PureCall.enterLe Tryz.func89 (by kernel_rfl) rfl Tryz.ntmps89 (by simp) (by simp) ?_
 repeat(first|refine chk.ga ?_|simp -dsimp)
 have hF:=ob hF;obtain⟨v,e1,hF⟩:=hF
 refine((C.f75 B hB1 hB2 s k0 v e1)).goW (by simp) (by simp) ?_
 cases hF
 repeat(first|refine chk.ga ?_|simp -dsimp)
 all_goals(try first|omega|rfl)
theorem C.f77 (w:List Vl.Data)(c':Vl.Ctor)(r:Bool)(hF:F.f77 w c'=some r):PureCall Tryz.prog B 68 [.arr (List.map Vl.Data.c w),.agg [.lit (.string c'.name),.arr (List.map Vl.Ty.c c'.args),.lit (.int .i64 c'.index)]] (.lit (.bool r)):=by
 unfold F.f77 at hF
 refine PureCall.enterLe Tryz.func68 (by kernel_rfl) rfl Tryz.ntmps68 (by simp) (by simp) ?_
 repeat(first|refine chk.ga ?_|simp -dsimp)
 have hF:=ob hF;obtain⟨v,e1,hF⟩:=hF
 refine((C.f71 B hB1 hB2 c'.name v e1)).goW (by simp) (by simp) ?_
 repeat(first|refine chk.ga ?_|simp -dsimp)
 refine abr.split (fun h2=> ?_) (fun h2=> ?_)
 ·have q3:(v=true):=auq h2
  rw[if_pos q3]at hF
  repeat(first|refine chk.ga ?_|simp -dsimp[h2])
  refine abr.split (fun h4=> ?_) (fun h4=> ?_)
  ·have q5:(c'.args.length≤3):=auq h4
   have z6:((c'.args.length:Int)≤(3:Int)):=auz
   rw[if_pos q5]at hF
   repeat(first|refine chk.ga ?_|simp -dsimp[h2,h4,z6])
   have hF:=ob hF;obtain⟨v7,e8,hF⟩:=hF
   refine((C.f69 B hB1 hB2 c'.index (0:Int) (3:Int) v7 e8)).goW (by first|simp[h2,h4,z6];done|simp_all) (by simp) ?_
   repeat(first|refine chk.ga ?_|simp -dsimp[h2,h4,z6])
   refine abr.split (fun h9=> ?_) (fun h9=> ?_)
   ·have q10:(v7=true):=auq h9
    rw[if_pos q10]at hF
    repeat(first|refine chk.ga ?_|simp -dsimp[h2,h4,z6,h9])
    have hF:=ob hF;obtain⟨v11,e12,hF⟩:=hF
    refine((C.f76 B hB1 hB2 c'.args w v11 e12)).lend (by first|simp -dsimp[h2,h4,z6,h9];done|simp_all) (by simp -dsimp) ?_
    cases hF
    repeat(first|refine chk.ga ?_|simp -dsimp[h2,h4,z6,h9])
    all_goals(try first|omega|rfl)
   ·have q10:¬(v7=true):=auq h9
    rw[if_neg q10]at hF
    cases hF
    repeat(first|refine chk.ga ?_|simp -dsimp[h2,h4,z6,h9,q10])
    all_goals(try first|omega|rfl)
  ·have q5:¬(c'.args.length≤3):=auq h4
   have z6:¬((c'.args.length:Int)≤(3:Int)):=auz
   rw[if_neg q5]at hF
   cases hF
   repeat(first|refine chk.ga ?_|simp -dsimp[h2,h4,q5,z6])
   all_goals(try first|omega|rfl)
 ·have q3:¬(v=true):=auq h2
  rw[if_neg q3]at hF
  cases hF
  repeat(first|refine chk.ga ?_|simp -dsimp[h2,q3])
  all_goals(try first|omega|rfl)
theorem CC.f78 (w:List Vl.Data)(met4:List ByteArray)(i:Nat)(x:Vl.Data):(∀(met26:List ByteArray) (i27:Nat) (o:Lo Bool (List ByteArray)),F.f78 w met4 i x met26 i27=some o→∀(b1 b2:Nat),¬b1=b2→∀(c:Code),navO [1,1,1,1,0,1,0,0,1,1,0,0,1,1,1,1,0,0] (bodyOf Tryz.f41)=some c→∀(Q:Exit→ASt→Ms→Prop),o.post (fun r=>∀st,Post Tryz.prog Tryz.f41 (fun r' _=>r'=(.lit (.bool r))) .ret st→∀ms,Q .ret st ms) (fun s=>Q (.exit 2) ⟨[(0,.arr (List.map Vl.Data.c w)),(3,.lit (.map (some b1))),(4,.lit (.map (some b2))),(14,.arr (List.map Vl.Data.c w)),(15,.lit (.int .i64 (w.length:Int))),(16,.lit (.int .i64 (i:Int)))],[]⟩ [(b1,s),(b2,msIns met4 x.name)])→MLoop Tryz.prog B 79 (hold c .mk) ⟨[(0,.arr (List.map Vl.Data.c w)),(3,.lit (.map (some b1))),(4,.lit (.map (some b2))),(14,.arr (List.map Vl.Data.c w)),(15,.lit (.int .i64 (w.length:Int))),(16,.lit (.int .i64 (i:Int))),(58,.arr (List.map Vl.Ctor.c x.ctors)),(59,.lit (.int .i64 (x.ctors.length:Int))),(60,.lit (.int .i64 (i27:Int)))],[]⟩ [(b1,met26),(b2,msIns met4 x.name)] (hold Q .mk)):=by
 refine F.f78.partial_correctness w met4 i x
  _
  ?_
 ·intro _f_f78 ih_f78 met26 i27 o hF
  intro b1 b2 hb2 c hc Q hq
  obtain rfl:c=_:=navEq hc rfl
  refine MLoop.know fun hk hs=> ?_
  have b0:=hk 0
  simp -dsimp at b0
  have b14:=hk 14
  simp -dsimp at b14
  have b58:=hk 58
  simp -dsimp at b58
  clear hk hs
  refine MLoop.enter ?_
  repeat(first|refine chk.ga ?_|simp -dsimp[hb2])
  refine abr.split (fun h28=> ?_) (fun h28=> ?_)
  ·have q29:(i27<x.ctors.length):=auq h28
   have z30:((i27:Int)<(x.ctors.length:Int)):=auz
   rw[if_pos q29]at hF
   have hF:=ob hF;obtain⟨x31,e32,hF⟩:=hF
   have le32:=lt_of_get e32
   repeat(first|refine chk.ga ?_|simp -dsimp[hb2,h28,z30,↓e32])
   have hF:=ob hF;obtain⟨v33,e34,hF⟩:=hF
   refine((C.f77 B hB1 hB2 w x31 v33 e34)).goW (by first|simp[hb2,h28,z30,↓e32];done|simp_all) (by simp) ?_
   repeat(first|refine chk.ga ?_|simp -dsimp[hb2,h28,z30,↓e32])
   refine abr.split (fun h35=> ?_) (fun h35=> ?_)
   ·have q36:(v33=true):=auq h35
    rw[if_pos q36]at hF
    repeat(first|refine chk.ga ?_|simp -dsimp[hb2,h28,z30,↓e32,h35])
    refine abr.split (fun h37=> ?_) (fun h37=> ?_)
    ·have q38:(dec (x31.name∈met26)=true):=auq h37
     rw[if_pos q38]at hF
     cases hF
     repeat(first|refine chk.ga ?_|simp -dsimp[hb2,h28,z30,↓e32,h35,h37])
     refine LeaveM.go _ (Gh.refl _) (hq _ ?_ _)
     repeat(first|refine chk.ga ?_|simp -dsimp[hb2,h28,z30,↓e32,h35,h37])
    ·have q38:¬(dec (x31.name∈met26)=true):=auq h37
     rw[if_neg q38]at hF
     have w39:IntKind.i64.wrap ((i27:Int)+1)=(i27:Int)+1:=wrap_in (by omega) (by omega)
     repeat(first|refine chk.ga ?_|simp -dsimp[hb2,h28,z30,↓e32,h35,h37,q38,w39])
     refine AgainM.go ⟨[(0,.arr (List.map Vl.Data.c w)),(3,.lit (.map (some b1))),(4,.lit (.map (some b2))),(14,.arr (List.map Vl.Data.c w)),(15,.lit (.int .i64 (w.length:Int))),(16,.lit (.int .i64 (i:Int))),(58,.arr (List.map Vl.Ctor.c x.ctors)),(59,.lit (.int .i64 (x.ctors.length:Int))),(60,.lit (.int .i64 ((i27+1):Int)))],[]⟩ (Gh.to3 (by simp) (by first|simp -dsimp[hb2,h28,z30,↓e32,h35,h37,q38,w39];done|simp_all)) ?_
     exact(ih_f78 (msIns met26 x31.name) (i27+1) o hF) b1 b2 hb2 _ rfl _ hq
   ·have q36:¬(v33=true):=auq h35
    rw[if_neg q36]at hF
    cases hF
    repeat(first|refine chk.ga ?_|simp -dsimp[hb2,h28,z30,↓e32,h35,q36])
    refine LeaveM.go _ (Gh.refl _) (hq _ ?_ _)
    repeat(first|refine chk.ga ?_|simp -dsimp[hb2,h28,z30,↓e32,h35,q36])
  ·have q29:¬(i27<x.ctors.length):=auq h28
   have z30:¬((i27:Int)<(x.ctors.length:Int)):=auz
   rw[if_neg q29]at hF
   cases hF
   repeat(first|refine chk.ga ?_|simp -dsimp[hb2,h28,q29,z30])
   refine LeaveM.go ⟨[(0,.arr (List.map Vl.Data.c w)),(3,.lit (.map (some b1))),(4,.lit (.map (some b2))),(14,.arr (List.map Vl.Data.c w)),(15,.lit (.int .i64 (w.length:Int))),(16,.lit (.int .i64 (i:Int)))],[]⟩ (Gh.to3 (by simp) (by first|simp -dsimp[hb2,h28,q29,z30];done|simp_all)) ?_
   exact hq
theorem CC.f79 (w:List Vl.Data):(∀(met:List ByteArray) (met4:List ByteArray) (i:Nat) (o:Lo Bool ((List ByteArray)×(List ByteArray))),F.f79 w met met4 i=some o→∀(b1 b2:Nat),¬b1=b2→∀(c:Code),navO [1,1,1,1,0,1,0,0] (bodyOf Tryz.f41)=some c→∀(Q:Exit→ASt→Ms→Prop),o.post (fun r=>∀st,Post Tryz.prog Tryz.f41 (fun r' _=>r'=(.lit (.bool r))) .ret st→∀ms,Q .ret st ms) (fun s=>Q (.exit 0) ⟨[],[]⟩ [(b1,s.1),(b2,s.2)])→MLoop Tryz.prog B 79 (hold c .mk) ⟨[(0,.arr (List.map Vl.Data.c w)),(3,.lit (.map (some b1))),(4,.lit (.map (some b2))),(14,.arr (List.map Vl.Data.c w)),(15,.lit (.int .i64 (w.length:Int))),(16,.lit (.int .i64 (i:Int)))],[]⟩ [(b1,met),(b2,met4)] (hold Q .mk)):=by
 refine F.f79.partial_correctness w
  _
  ?_
 ·intro _f_f79 ih_f79 met met4 i o hF
  intro b1 b2 hb2 c hc Q hq
  obtain rfl:c=_:=navEq hc rfl
  refine MLoop.know fun hk hs=> ?_
  have b0:=hk 0
  simp -dsimp at b0
  have b14:=hk 14
  simp -dsimp at b14
  clear hk hs
  refine MLoop.enter ?_
  repeat(first|refine chk.ga ?_|simp -dsimp[hb2])
  refine abr.split (fun h5=> ?_) (fun h5=> ?_)
  ·have q6:(i<w.length):=auq h5
   have z7:((i:Int)<(w.length:Int)):=auz
   rw[if_pos q6]at hF
   have hF:=ob hF;obtain⟨x,e8,hF⟩:=hF
   have le8:=lt_of_get e8
   repeat(first|refine chk.ga ?_|simp -dsimp[hb2,h5,z7,↓e8])
   refine abr.split (fun h9=> ?_) (fun h9=> ?_)
   ·have q10:(x.name.size=1):=auq h9
    have z11:((x.name.size:Int)=(1:Int)):=auz
    rw[if_pos q10]at hF
    have hF:=oc hF;obtain⟨c12,hF⟩:=hF
    repeat(first|refine chk.ga ?_|simp -dsimp[hb2,h5,z7,↓e8,h9,z11])
    refine abr.split (fun h13=> ?_) (fun h13=> ?_)
    ·have q14:¬(byteAt x.name 0<65):=auq h13
     have z15:¬(((byteAt x.name 0:Nat):Int)<(65:Int)):=auz
     rw[if_neg q14]at hF
     repeat(first|refine chk.ga ?_|simp -dsimp[hb2,h5,z7,↓e8,h9,z11,h13,q14,z15])
     refine abr.split (fun h16=> ?_) (fun h16=> ?_)
     ·have q17:¬(90<byteAt x.name 0):=auq h16
      have z18:¬((90:Int)<((byteAt x.name 0:Nat):Int)):=auz
      rw[if_neg q17]at hF
      repeat(first|refine chk.ga ?_|simp -dsimp[hb2,h5,z7,↓e8,h9,z11,h13,q14,z15,h16,q17,z18])
      refine abr.split (fun h19=> ?_) (fun h19=> ?_)
      ·have q20:¬(x.name.toList=(⟨#[73]⟩:ByteArray).toList):=auq h19
       rw[if_neg q20]at hF
       repeat(first|refine chk.ga ?_|simp -dsimp[hb2,h5,z7,↓e8,h9,z11,h13,q14,z15,h16,q17,z18,h19,q20])
       refine abr.split (fun h21=> ?_) (fun h21=> ?_)
       ·have q22:¬(dec (x.name∈met4)=true):=auq h21
        rw[if_neg q22]at hF
        repeat(first|refine chk.ga ?_|simp -dsimp[hb2,h5,z7,↓e8,h9,z11,h13,q14,z15,h16,q17,z18,h19,q20,h21,q22])
        have hF:=ob hF;obtain⟨v,e23,hF⟩:=hF
        refine((C.f69 B hB1 hB2 (x.ctors.length:Int) (1:Int) (4:Int) v e23)).goW (by first|simp[hb2,h5,z7,↓e8,h9,z11,h13,q14,z15,h16,q17,z18,h19,q20,h21,q22];done|simp_all) (by simp) ?_
        repeat(first|refine chk.ga ?_|simp -dsimp[hb2,h5,z7,↓e8,h9,z11,h13,q14,z15,h16,q17,z18,h19,q20,h21,q22])
        refine abr.split (fun h24=> ?_) (fun h24=> ?_)
        ·have q25:¬(v=true):=auq h24
         rw[if_neg q25]at hF
         cases hF
         repeat(first|refine chk.ga ?_|simp -dsimp[hb2,h5,z7,↓e8,h9,z11,h13,q14,z15,h16,q17,z18,h19,q20,h21,q22,h24,q25])
         refine LeaveM.go _ (Gh.refl _) (hq _ ?_ _)
         repeat(first|refine chk.ga ?_|simp -dsimp[hb2,h5,z7,↓e8,h9,z11,h13,q14,z15,h16,q17,z18,h19,q20,h21,q22,h24,q25])
        ·have q25:(v=true):=auq h24
         rw[if_pos q25]at hF
         repeat(first|refine chk.ga ?_|simp -dsimp[hb2,h5,z7,↓e8,h9,z11,h13,q14,z15,h16,q17,z18,h19,q20,h21,q22,h24,q25])
         have hF:=ob hF;obtain⟨o',ho40,hF⟩:=hF
         refine MLoop.goU ⟨[(0,.arr (List.map Vl.Data.c w)),(3,.lit (.map (some b1))),(4,.lit (.map (some b2))),(14,.arr (List.map Vl.Data.c w)),(15,.lit (.int .i64 (w.length:Int))),(16,.lit (.int .i64 (i:Int))),(58,.arr (List.map Vl.Ctor.c x.ctors)),(59,.lit (.int .i64 (x.ctors.length:Int))),(60,.lit (.int .i64 (0:Int)))],[]⟩ (Gh.to3 (by simp) (by first|simp -dsimp[hb2,h5,z7,↓e8,h9,z11,h13,q14,z15,h16,q17,z18,h19,q20,h21,q22,h24,q25];done|simp_all)) ?_
         refine((CC.f78 B hB1 hB2 w met4 i x) met 0 o' ho40) b1 b2 hb2 _ rfl _ ?_
         rcases o' with r0|sx
         ·dsimp only at hF
          cases hF
          intro st h ms
          simp -dsimp
          refine LeaveM.go st (Gh.refl _) (hq st h ms)
         ·dsimp only at hF
          have hF:=oc hF;obtain⟨c41,hF⟩:=hF
          have w42:IntKind.i64.wrap ((i:Int)+1)=(i:Int)+1:=wrap_in (by omega) (by omega)
          repeat(first|refine chk.ga ?_|simp -dsimp[w42])
          refine AgainM.go ⟨[(0,.arr (List.map Vl.Data.c w)),(3,.lit (.map (some b1))),(4,.lit (.map (some b2))),(14,.arr (List.map Vl.Data.c w)),(15,.lit (.int .i64 (w.length:Int))),(16,.lit (.int .i64 ((i+1):Int)))],[]⟩ (Gh.to3 (by simp) (by first|simp -dsimp[w42];done|simp_all)) ?_
          exact(ih_f79 sx (msIns met4 x.name) (i+1) o hF) b1 b2 hb2 _ rfl _ hq
       ·have q22:(dec (x.name∈met4)=true):=auq h21
        rw[if_pos q22]at hF
        cases hF
        repeat(first|refine chk.ga ?_|simp -dsimp[hb2,h5,z7,↓e8,h9,z11,h13,q14,z15,h16,q17,z18,h19,q20,h21,q22])
        refine LeaveM.go _ (Gh.refl _) (hq _ ?_ _)
        repeat(first|refine chk.ga ?_|simp -dsimp[hb2,h5,z7,↓e8,h9,z11,h13,q14,z15,h16,q17,z18,h19,q20,h21,q22])
      ·have q20:(x.name.toList=(⟨#[73]⟩:ByteArray).toList):=auq h19
       rw[if_pos q20]at hF
       cases hF
       repeat(first|refine chk.ga ?_|simp -dsimp[hb2,h5,z7,↓e8,h9,z11,h13,q14,z15,h16,q17,z18,h19,q20])
       refine LeaveM.go _ (Gh.refl _) (hq _ ?_ _)
       repeat(first|refine chk.ga ?_|simp -dsimp[hb2,h5,z7,↓e8,h9,z11,h13,q14,z15,h16,q17,z18,h19,q20])
     ·have q17:(90<byteAt x.name 0):=auq h16
      have z18:((90:Int)<((byteAt x.name 0:Nat):Int)):=auz
      rw[if_pos q17]at hF
      cases hF
      repeat(first|refine chk.ga ?_|simp -dsimp[hb2,h5,z7,↓e8,h9,z11,h13,q14,z15,h16,q17,z18])
      refine LeaveM.go _ (Gh.refl _) (hq _ ?_ _)
      repeat(first|refine chk.ga ?_|simp -dsimp[hb2,h5,z7,↓e8,h9,z11,h13,q14,z15,h16,q17,z18])
    ·have q14:(byteAt x.name 0<65):=auq h13
     have z15:(((byteAt x.name 0:Nat):Int)<(65:Int)):=auz
     rw[if_pos q14]at hF
     cases hF
     repeat(first|refine chk.ga ?_|simp -dsimp[hb2,h5,z7,↓e8,h9,z11,h13,q14,z15])
     refine LeaveM.go _ (Gh.refl _) (hq _ ?_ _)
     repeat(first|refine chk.ga ?_|simp -dsimp[hb2,h5,z7,↓e8,h9,z11,h13,q14,z15])
   ·have q10:¬(x.name.size=1):=auq h9
    have z11:¬((x.name.size:Int)=(1:Int)):=auz
    rw[if_neg q10]at hF
    cases hF
    repeat(first|refine chk.ga ?_|simp -dsimp[hb2,h5,z7,↓e8,h9,q10,z11])
    refine LeaveM.go _ (Gh.refl _) (hq _ ?_ _)
    repeat(first|refine chk.ga ?_|simp -dsimp[hb2,h5,z7,↓e8,h9,q10,z11])
  ·have q6:¬(i<w.length):=auq h5
   have z7:¬((i:Int)<(w.length:Int)):=auz
   rw[if_neg q6]at hF
   cases hF
   repeat(first|refine chk.ga ?_|simp -dsimp[hb2,h5,q6,z7])
   refine LeaveM.go ⟨[],[]⟩ (Gh.to3 (by simp) (by first|simp -dsimp[hb2,h5,q6,z7];done|simp_all)) ?_
   exact hq
theorem C.f80 (w:List Vl.Data)(r:Bool)(hF:F.f80 w=some r):PureCall Tryz.prog B 41 [.arr (List.map Vl.Data.c w)] (.lit (.bool r)):=by
 unfold F.f80 at hF
 refine PureCall.enterM Tryz.func41 (by kernel_rfl) rfl Tryz.ntmps41 (by simp) ?_
 repeat(first|refine chk.ga ?_|simp -dsimp)
 refine abr.split (fun h1=> ?_) (fun h1=> ?_)
 ·have q2:(4<w.length):=auq h1
  have z3:((4:Int)<(w.length:Int)):=auz
  rw[if_pos q2]at hF
  cases hF
  repeat(first|refine chk.ga ?_|simp -dsimp[h1,z3])
  all_goals(try first|omega|rfl)
 ·have q2:¬(4<w.length):=auq h1
  have z3:¬((4:Int)<(w.length:Int)):=auz
  rw[if_neg q2]at hF
  repeat(first|refine chk.ga ?_|simp -dsimp[h1,q2,z3])
  refine AMake.go fun b1 hb1=> ?_
  repeat(first|refine chk.ga ?_|simp -dsimp[h1,q2,z3])
  refine AMake.go fun b2 hb2=> ?_
  simp at hb2
  repeat(first|refine chk.ga ?_|simp -dsimp[h1,q2,z3,hb2])
  have hF:=ob hF;obtain⟨o'44,ho43,hF⟩:=hF
  refine MLoop.goU ⟨[(0,.arr (List.map Vl.Data.c w)),(3,.lit (.map (some b1))),(4,.lit (.map (some b2))),(14,.arr (List.map Vl.Data.c w)),(15,.lit (.int .i64 (w.length:Int))),(16,.lit (.int .i64 (0:Int)))],[]⟩ (Gh.to3 (by simp) (by first|simp -dsimp[h1,q2,z3,hb2];done|simp_all)) ?_
  refine((CC.f79 B hB1 hB2 w) [] [] 0 o'44 ho43) b1 b2 hb2 _ rfl _ ?_
  rcases o'44 with r046|sx45
  ·dsimp only at hF
   cases hF
   intro st h ms
   simpa using h
  ·dsimp only at hF
   cases hF
   repeat(first|refine chk.ga ?_|simp -dsimp)
   all_goals(try first|omega|rfl)
theorem C.f81 (w:List Vl.Data)(t:Vl.Ty)(r:Bool)(hF:F.f81 w t=some r):PureCall Tryz.prog B 42 [.arr (List.map Vl.Data.c w),.agg [.lit (.int .i64 t.data),.lit (.int .i64 t.index)]] (.lit (.bool r)):=by
 unfold F.f81 at hF
 refine PureCall.enterLe Tryz.func42 (by kernel_rfl) rfl Tryz.ntmps42 (by simp) (by simp) ?_
 repeat(first|refine chk.ga ?_|simp -dsimp)
 refine abr.split (fun h1=> ?_) (fun h1=> ?_)
 ·have q2:¬(dec (eq2 (t.data,t.index) ((-1),0))=true):=auq h1
  rw[if_neg q2]at hF
  repeat(first|refine chk.ga ?_|simp -dsimp[h1,q2])
  have hF:=ob hF;obtain⟨v,e3,hF⟩:=hF
  refine((C.f69 B hB1 hB2 t.data (0:Int) (IntKind.i64.wrap ((w.length:Int) -1)) v e3)).goW (by first|simp[h1,q2];done|simp_all) (by simp) ?_
  repeat(first|refine chk.ga ?_|simp -dsimp[h1,q2])
  refine abr.split (fun h4=> ?_) (fun h4=> ?_)
  ·have q5:(v=true):=auq h4
   rw[if_pos q5]at hF
   repeat(first|refine chk.ga ?_|simp -dsimp[h1,q2,h4])
   have hF:=ob hF;obtain⟨v6,e7,hF⟩:=hF
   refine((C.f69 B hB1 hB2 t.index (0:Int) (3:Int) v6 e7)).goW (by first|simp[h1,q2,h4];done|simp_all) (by simp) ?_
   cases hF
   repeat(first|refine chk.ga ?_|simp -dsimp[h1,q2,h4])
   all_goals(try first|omega|rfl)
  ·have q5:¬(v=true):=auq h4
   rw[if_neg q5]at hF
   cases hF
   repeat(first|refine chk.ga ?_|simp -dsimp[h1,q2,h4,q5])
   all_goals(try first|omega|rfl)
 ·have q2:(dec (eq2 (t.data,t.index) ((-1),0))=true):=auq h1
  rw[if_pos q2]at hF
  cases hF
  repeat(first|refine chk.ga ?_|simp -dsimp[h1,q2])
  all_goals(try first|omega|rfl)
theorem C.f82 (w:List Vl.Data)(t:Vl.Ty)(r:Bool)(hF:F.f82 w t=some r):PureCall Tryz.prog B 21 [.arr (List.map Vl.Data.c w),.agg [.lit (.int .i64 t.data),.lit (.int .i64 t.index)]] (.lit (.bool r)):=by
 unfold F.f82 at hF
 refine PureCall.enterLe Tryz.func21 (by kernel_rfl) rfl Tryz.ntmps21 (by simp) (by simp) ?_
 repeat(first|refine chk.ga ?_|simp -dsimp)
 have hF:=ob hF;obtain⟨v,e1,hF⟩:=hF
 refine((C.f80 B hB1 hB2 w v e1)).goW (by simp) (by simp) ?_
 repeat(first|refine chk.ga ?_|simp -dsimp)
 refine abr.split (fun h2=> ?_) (fun h2=> ?_)
 ·have q3:(v=true):=auq h2
  rw[if_pos q3]at hF
  repeat(first|refine chk.ga ?_|simp -dsimp[h2])
  have hF:=ob hF;obtain⟨v4,e5,hF⟩:=hF
  refine((C.f81 B hB1 hB2 w t v4 e5)).goW (by first|simp[h2];done|simp_all) (by simp) ?_
  cases hF
  repeat(first|refine chk.ga ?_|simp -dsimp[h2])
  all_goals(try first|omega|rfl)
 ·have q3:¬(v=true):=auq h2
  rw[if_neg q3]at hF
  cases hF
  repeat(first|refine chk.ga ?_|simp -dsimp[h2,q3])
  all_goals(try first|omega|rfl)
theorem C.f83 (f:Vl.FunType)(a1:Vl.T_impl_scope)(r:Bool)(hF:F.f83 f a1=some r):PureCall Tryz.prog B 44 [.agg [.lit (.int .i64 f.arg.data),.lit (.int .i64 f.arg.index),.lit (.int .i64 f.res.data),.lit (.int .i64 f.res.index)],.rptr [.arr (List.map Vl.Data.c a1.f0),.arr (List.map Vl.FunType.c a1.f1),.arr (List.map Vl.VarType.c a1.f2)] 0] (.lit (.bool r)):=by
 unfold F.f83 at hF
 refine PureCall.enterLe Tryz.func44 (by kernel_rfl) rfl Tryz.ntmps44 (by simp) (by simp) ?_
 repeat(first|refine chk.ga ?_|simp -dsimp)
 have hF:=ob hF;obtain⟨v,e1,hF⟩:=hF
 refine((C.f81 B hB1 hB2 a1.f0 f.arg v e1)).goW (by simp) (by simp) ?_
 repeat(first|refine chk.ga ?_|simp -dsimp)
 refine abr.split (fun h2=> ?_) (fun h2=> ?_)
 ·have q3:(v=true):=auq h2
  rw[if_pos q3]at hF
  repeat(first|refine chk.ga ?_|simp -dsimp[h2])
  have hF:=ob hF;obtain⟨v4,e5,hF⟩:=hF
  refine((C.f81 B hB1 hB2 a1.f0 f.res v4 e5)).goW (by first|simp[h2];done|simp_all) (by simp) ?_
  cases hF
  repeat(first|refine chk.ga ?_|simp -dsimp[h2])
  all_goals(try first|omega|rfl)
 ·have q3:¬(v=true):=auq h2
  rw[if_neg q3]at hF
  cases hF
  repeat(first|refine chk.ga ?_|simp -dsimp[h2,q3])
  all_goals(try first|omega|rfl)
theorem CC.f84 (s:List Vl.FunType)(k0:Vl.T_impl_scope):(∀(i:Nat) (o:Lo Int Unit),F.f84 s k0 i=some o→∀(c:Code),navO [1,0,1,0,0] (bodyOf Tryz.f69)=some c→∀(Q:Exit→ASt→Prop),o.post (fun r=>∀st,Post Tryz.prog Tryz.f69 (fun r' _=>r'.le (.lit (.int .i64 r))) .ret st→Q .ret st) (fun s=>Q (.exit 0) ⟨[],[]⟩)→ALoopU Tryz.prog B 0 19 (hold c .mk) ⟨[(0,.arr (List.map Vl.FunType.c s)),(1,.fn (.func 44) [] [.rptr [.arr (List.map Vl.Data.c k0.f0),.arr (List.map Vl.FunType.c k0.f1),.arr (List.map Vl.VarType.c k0.f2)] 0]),(7,.lit (.int .i64 (s.length:Int))),(8,.lit (.int .i64 (i:Int)))],[]⟩ (hold Q .mk)):=by
 refine F.f84.partial_correctness s k0
  _
  ?_
 ·intro _f_f84 ih_f84 i o hF
  intro c hc Q hq
  obtain rfl:c=_:=navEq hc rfl
  refine ALoopU.know fun hk hs=> ?_
  have b0:=hk 0
  simp -dsimp at b0
  clear hk hs
  refine ALoopU.enter ?_
  repeat(first|refine chk.ga ?_|simp -dsimp)
  refine abr.split (fun h1=> ?_) (fun h1=> ?_)
  ·have q2:(i<s.length):=auq h1
   have z3:((i:Int)<(s.length:Int)):=auz
   rw[if_pos q2]at hF
   have hF:=ob hF;obtain⟨x,e4,hF⟩:=hF
   have le4:=lt_of_get e4
   repeat(first|refine chk.ga ?_|simp -dsimp[h1,z3,↓e4])
   have hF:=ob hF;obtain⟨v,e5,hF⟩:=hF
   refine((C.f83 B hB1 hB2 x k0 v e5)).goW (by first|simp[h1,z3,↓e4];done|simp_all) (by simp) ?_
   repeat(first|refine chk.ga ?_|simp -dsimp[h1,z3,↓e4])
   refine abr.split (fun h6=> ?_) (fun h6=> ?_)
   ·have q7:(v=true):=auq h6
    rw[if_pos q7]at hF
    cases hF
    repeat(first|refine chk.ga ?_|simp -dsimp[h1,z3,↓e4,h6])
    refine Leave.go _ (Gh.refl _) (hq _ ?_)
    repeat(first|refine chk.ga ?_|simp -dsimp[h1,z3,↓e4,h6])
   ·have q7:¬(v=true):=auq h6
    rw[if_neg q7]at hF
    have w8:IntKind.i64.wrap ((i:Int)+1)=(i:Int)+1:=wrap_in (by omega) (by omega)
    repeat(first|refine chk.ga ?_|simp -dsimp[h1,z3,↓e4,h6,q7,w8])
    refine Again.go _ ?_ ((ih_f84 (i+1) o hF) _ rfl _ hq)
    exact(Gh.to3 (by simp) (by first|simp -dsimp[h1,z3,↓e4,h6,q7,w8];done|simp_all))
  ·have q2:¬(i<s.length):=auq h1
   have z3:¬((i:Int)<(s.length:Int)):=auz
   rw[if_neg q2]at hF
   cases hF
   repeat(first|refine chk.ga ?_|simp -dsimp[h1,q2,z3])
   refine Leave.go ⟨[],[]⟩ (Gh.to3 (by simp) (by first|simp -dsimp[h1,q2,z3];done|simp_all)) ?_
   exact hq
theorem C.f85 (s:List Vl.FunType)(k0:Vl.T_impl_scope)(r:Int)(hF:F.f85 s k0=some r):PureCall Tryz.prog B 69 [.arr (List.map Vl.FunType.c s),.fn (.func 44) [] [.rptr [.arr (List.map Vl.Data.c k0.f0),.arr (List.map Vl.FunType.c k0.f1),.arr (List.map Vl.VarType.c k0.f2)] 0]] (.lit (.int .i64 r)):=by
 unfold F.f85 at hF
 refine PureCall.enterLe Tryz.func69 (by kernel_rfl) rfl Tryz.ntmps69 (by simp) (by simp) ?_
 repeat(first|refine chk.ga ?_|simp -dsimp)
 have hF:=ob hF;obtain⟨o',ho9,hF⟩:=hF
 refine ALoop.goU _ ?_ (((CC.f84 B hB1 hB2 s k0) 0 o' ho9) _ rfl _ ?_)
 ·exact(Gh.to3 (by simp) (by simp -dsimp))
 rcases o' with r0|sx
 ·dsimp only at hF
  cases hF
  intro st h
  simpa using h
 ·dsimp only at hF
  cases hF
  repeat(first|refine chk.ga ?_|simp -dsimp)
  all_goals(try first|omega|rfl)
theorem C.f86 (s:List Vl.FunType)(k0:Vl.T_impl_scope)(r:Bool)(hF:F.f86 s k0=some r):PureCall Tryz.prog B 43 [.arr (List.map Vl.FunType.c s),.fn (.func 44) [] [.rptr [.arr (List.map Vl.Data.c k0.f0),.arr (List.map Vl.FunType.c k0.f1),.arr (List.map Vl.VarType.c k0.f2)] 0]] (.lit (.bool r)):=by
 unfold F.f86 at hF
 refine PureCall.enterLe Tryz.func43 (by kernel_rfl) rfl Tryz.ntmps43 (by simp) (by simp) ?_
 repeat(first|refine chk.ga ?_|simp -dsimp)
 have hF:=ob hF;obtain⟨v,e1,hF⟩:=hF
 refine((C.f85 B hB1 hB2 s k0 v e1)).goW (by simp) (by simp) ?_
 cases hF
 repeat(first|refine chk.ga ?_|simp -dsimp)
 all_goals(try first|omega|rfl)
theorem C.f87 (v:Int)(r:Bool)(hF:F.f87 v=some r):PureCall Tryz.prog B 45 [.lit (.int .i64 v)] (.lit (.bool r)):=by
 unfold F.f87 at hF
 refine PureCall.enterLe Tryz.func45 (by kernel_rfl) rfl Tryz.ntmps45 (by simp) (by simp) ?_
 repeat(first|refine chk.ga ?_|simp -dsimp)
 have hF:=ob hF;obtain⟨v1,e2,hF⟩:=hF
 refine((C.f69 B hB1 hB2 v (0:Int) (5:Int) v1 e2)).goW (by simp) (by simp) ?_
 cases hF
 repeat(first|refine chk.ga ?_|simp -dsimp)
 all_goals(try first|omega|rfl)
theorem CC.f88 (s:Vl.T_impl_scope):(∀(set':Nat→Bool) (i:Nat) (o:Lo Bool Unit),F.f88 s set' i=some o→∀(c:Code),navO [1,1,1,0,1,0,0] (bodyOf Tryz.f22)=some c→∀(Q:Exit→ASt→Prop),o.post (fun r=>∀st,Post Tryz.prog Tryz.f22 (fun r' _=>r'.le (.lit (.bool r))) .ret st→Q .ret st) (fun s=>Q (.exit 0) ⟨[],[]⟩)→ALoopU Tryz.prog B 0 45 (hold c .mk) ⟨[(1,.ptr 0 0),(3,.ptr 1 0),(17,.arr (List.map Vl.VarType.c s.f2)),(18,.lit (.int .i64 (s.f2.length:Int))),(19,.lit (.int .i64 (i:Int)))],[.cells [.arr (List.map Vl.Data.c s.f0),.arr (List.map Vl.FunType.c s.f1),.arr (List.map Vl.VarType.c s.f2)],.cells (fcB 6 set')]⟩ (hold Q .mk)):=by
 refine F.f88.partial_correctness s
  _
  ?_
 ·intro _f_f88 ih_f88 set' i o hF
  intro c hc Q hq
  obtain rfl:c=_:=navEq hc rfl
  refine ALoopU.know fun hk hs=> ?_
  have b17:=hk 17
  simp -dsimp at b17
  have d0:=hs 0 _ rfl
  simp -dsimp[Blk.bnd]at d0
  clear hk hs
  refine ALoopU.enter ?_
  repeat(first|refine chk.ga ?_|simp -dsimp)
  refine abr.split (fun h7=> ?_) (fun h7=> ?_)
  ·have q8:(i<s.f2.length):=auq h7
   have z9:((i:Int)<(s.f2.length:Int)):=auz
   rw[if_pos q8]at hF
   have hF:=ob hF;obtain⟨x,e10,hF⟩:=hF
   have le10:=lt_of_get e10
   repeat(first|refine chk.ga ?_|simp -dsimp[h7,z9,↓e10])
   have hF:=ob hF;obtain⟨v11,e12,hF⟩:=hF
   refine((C.f87 B hB1 hB2 x.var v11 e12)).goW (by first|simp[h7,z9,↓e10];done|simp_all) (by simp) ?_
   repeat(first|refine chk.ga ?_|simp -dsimp[h7,z9,↓e10])
   refine abr.split (fun h13=> ?_) (fun h13=> ?_)
   ·have q14:(v11=true):=auq h13
    rw[if_pos q14]at hF
    have hF:=oc hF;obtain⟨c15,hF⟩:=hF
    repeat(first|refine chk.ga ?_|simp -dsimp[h7,z9,↓e10,h13,c15])
    refine abr.split (fun h16=> ?_) (fun h16=> ?_)
    ·have q17:¬(set' x.var.toNat=true):=auq h16
     rw[if_neg q17]at hF
     repeat(first|refine chk.ga ?_|simp -dsimp[h7,z9,↓e10,h13,c15,h16,q17])
     have hF:=ob hF;obtain⟨v18,e19,hF⟩:=hF
     refine((C.f81 B hB1 hB2 s.f0 x.type v18 e19)).goW (by first|simp[h7,z9,↓e10,h13,c15,h16,q17];done|simp_all) (by simp) ?_
     repeat(first|refine chk.ga ?_|simp -dsimp[h7,z9,↓e10,h13,c15,h16,q17])
     refine abr.split (fun h20=> ?_) (fun h20=> ?_)
     ·have q21:¬(v18=true):=auq h20
      rw[if_neg q21]at hF
      cases hF
      repeat(first|refine chk.ga ?_|simp -dsimp[h7,z9,↓e10,h13,c15,h16,q17,h20,q21])
      refine Leave.go _ (Gh.refl _) (hq _ ?_)
      repeat(first|refine chk.ga ?_|simp -dsimp[h7,z9,↓e10,h13,c15,h16,q17,h20,q21])
     ·have q21:(v18=true):=auq h20
      rw[if_pos q21]at hF
      have w22:IntKind.i64.wrap ((i:Int)+1)=(i:Int)+1:=wrap_in (by omega) (by omega)
      repeat(first|refine chk.ga ?_|simp -dsimp[h7,z9,↓e10,h13,c15,h16,q17,h20,q21,w22])
      refine Again.go _ ?_ ((ih_f88 (updF set' x.var.toNat true) (i+1) o hF) _ rfl _ hq)
      exact(Gh.to3 (by simp) (by first|simp -dsimp[h7,z9,↓e10,h13,c15,h16,q17,h20,q21,w22];done|simp_all))
    ·have q17:(set' x.var.toNat=true):=auq h16
     rw[if_pos q17]at hF
     cases hF
     repeat(first|refine chk.ga ?_|simp -dsimp[h7,z9,↓e10,h13,c15,h16,q17])
     refine Leave.go _ (Gh.refl _) (hq _ ?_)
     repeat(first|refine chk.ga ?_|simp -dsimp[h7,z9,↓e10,h13,c15,h16,q17])
   ·have q14:¬(v11=true):=auq h13
    rw[if_neg q14]at hF
    cases hF
    repeat(first|refine chk.ga ?_|simp -dsimp[h7,z9,↓e10,h13,q14])
    refine Leave.go _ (Gh.refl _) (hq _ ?_)
    repeat(first|refine chk.ga ?_|simp -dsimp[h7,z9,↓e10,h13,q14])
  ·have q8:¬(i<s.f2.length):=auq h7
   have z9:¬((i:Int)<(s.f2.length:Int)):=auz
   rw[if_neg q8]at hF
   cases hF
   repeat(first|refine chk.ga ?_|simp -dsimp[h7,q8,z9])
   refine Leave.go ⟨[],[]⟩ (Gh.to3 (by simp) (by first|simp -dsimp[h7,q8,z9];done|simp_all)) ?_
   exact hq
theorem C.f89 (s:Vl.T_impl_scope)(r:Bool)(hF:F.f89 s=some r):PureCall Tryz.prog B 22 [.agg [.arr (List.map Vl.Data.c s.f0),.arr (List.map Vl.FunType.c s.f1),.arr (List.map Vl.VarType.c s.f2)]] (.lit (.bool r)):=by
 unfold F.f89 at hF
 refine PureCall.enterLe Tryz.func22 (by kernel_rfl) rfl Tryz.ntmps22 (by simp) (by simp) ?_
 repeat(first|refine chk.ga ?_|simp -dsimp)
 refine abr.split (fun h1=> ?_) (fun h1=> ?_)
 ·have q2:¬(4<s.f1.length):=auq h1
  have z3:¬((4:Int)<(s.f1.length:Int)):=auz
  rw[if_neg q2]at hF
  repeat(first|refine chk.ga ?_|simp -dsimp[h1,q2,z3])
  have hF:=ob hF;obtain⟨v,e4,hF⟩:=hF
  refine((C.f86 B hB1 hB2 s.f1 s v e4)).lend (by first|simp -dsimp[h1,q2,z3];done|simp_all) (by simp -dsimp) ?_
  repeat(first|refine chk.ga ?_|simp -dsimp[h1,q2,z3])
  refine abr.split (fun h5=> ?_) (fun h5=> ?_)
  ·have q6:(v=true):=auq h5
   rw[if_pos q6]at hF
   cases hF
   repeat(first|refine chk.ga ?_|simp -dsimp[h1,q2,z3,h5])
   all_goals(try first|omega|rfl)
  ·have q6:¬(v=true):=auq h5
   rw[if_neg q6]at hF
   repeat(first|refine chk.ga ?_|simp -dsimp[h1,q2,z3,h5,q6])
   have hF:=ob hF;obtain⟨o',ho23,hF⟩:=hF
   refine ALoop.goU _ ?_ (((CC.f88 B hB1 hB2 s) (fun _=>false) 0 o' ho23) _ rfl _ ?_)
   ·exact(Gh.to3 (by simp) (by first|simp -dsimp[h1,q2,z3,h5,q6];done|simp_all))
   rcases o' with r0|sx
   ·dsimp only at hF
    cases hF
    intro st h
    simpa using h
   ·dsimp only at hF
    cases hF
    repeat(first|refine chk.ga ?_|simp -dsimp)
    all_goals(try first|omega|rfl)
 ·have q2:(4<s.f1.length):=auq h1
  have z3:((4:Int)<(s.f1.length:Int)):=auz
  rw[if_pos q2]at hF
  cases hF
  repeat(first|refine chk.ga ?_|simp -dsimp[h1,q2,z3])
  all_goals(try first|omega|rfl)
theorem C.f90 (x:Vl.VarType)(a1:Int)(r:Bool)(hF:F.f90 x a1=some r):PureCall Tryz.prog B 98 [.agg [.lit (.int .i64 x.var),.lit (.int .i64 x.type.data),.lit (.int .i64 x.type.index)],.rptr [.lit (.int .i64 a1)] 0] (.lit (.bool r)):=by
 unfold F.f90 at hF
 refine PureCall.enterLe Tryz.func98 (by kernel_rfl) rfl Tryz.ntmps98 (by simp) (by simp) ?_
 cases hF
 repeat(first|refine chk.ga ?_|simp -dsimp)
 all_goals(try first|omega|rfl)
theorem CC.f91 (s:List Vl.VarType)(k0:Int):(∀(i:Nat) (o:Lo Int Unit),F.f91 s k0 i=some o→∀(c:Code),navO [1,0,1,0,0] (bodyOf Tryz.f97)=some c→∀(Q:Exit→ASt→Prop),o.post (fun r=>∀st,Post Tryz.prog Tryz.f97 (fun r' _=>r'.le (.lit (.int .i64 r))) .ret st→Q .ret st) (fun s=>Q (.exit 0) ⟨[],[]⟩)→ALoopU Tryz.prog B 0 19 (hold c .mk) ⟨[(0,.arr (List.map Vl.VarType.c s)),(1,.fn (.func 98) [] [.rptr [.lit (.int .i64 k0)] 0]),(7,.lit (.int .i64 (s.length:Int))),(8,.lit (.int .i64 (i:Int)))],[]⟩ (hold Q .mk)):=by
 refine F.f91.partial_correctness s k0
  _
  ?_
 ·intro _f_f91 ih_f91 i o hF
  intro c hc Q hq
  obtain rfl:c=_:=navEq hc rfl
  refine ALoopU.know fun hk hs=> ?_
  have b0:=hk 0
  simp -dsimp at b0
  clear hk hs
  refine ALoopU.enter ?_
  repeat(first|refine chk.ga ?_|simp -dsimp)
  refine abr.split (fun h1=> ?_) (fun h1=> ?_)
  ·have q2:(i<s.length):=auq h1
   have z3:((i:Int)<(s.length:Int)):=auz
   rw[if_pos q2]at hF
   have hF:=ob hF;obtain⟨x,e4,hF⟩:=hF
   have le4:=lt_of_get e4
   repeat(first|refine chk.ga ?_|simp -dsimp[h1,z3,↓e4])
   have hF:=ob hF;obtain⟨v,e5,hF⟩:=hF
   refine((C.f90 B hB1 hB2 x k0 v e5)).goW (by first|simp[h1,z3,↓e4];done|simp_all) (by simp) ?_
   repeat(first|refine chk.ga ?_|simp -dsimp[h1,z3,↓e4])
   refine abr.split (fun h6=> ?_) (fun h6=> ?_)
   ·have q7:(v=true):=auq h6
    rw[if_pos q7]at hF
    cases hF
    repeat(first|refine chk.ga ?_|simp -dsimp[h1,z3,↓e4,h6])
    refine Leave.go _ (Gh.refl _) (hq _ ?_)
    repeat(first|refine chk.ga ?_|simp -dsimp[h1,z3,↓e4,h6])
   ·have q7:¬(v=true):=auq h6
    rw[if_neg q7]at hF
    have w8:IntKind.i64.wrap ((i:Int)+1)=(i:Int)+1:=wrap_in (by omega) (by omega)
    repeat(first|refine chk.ga ?_|simp -dsimp[h1,z3,↓e4,h6,q7,w8])
    refine Again.go _ ?_ ((ih_f91 (i+1) o hF) _ rfl _ hq)
    exact(Gh.to3 (by simp) (by first|simp -dsimp[h1,z3,↓e4,h6,q7,w8];done|simp_all))
  ·have q2:¬(i<s.length):=auq h1
   have z3:¬((i:Int)<(s.length:Int)):=auz
   rw[if_neg q2]at hF
   cases hF
   repeat(first|refine chk.ga ?_|simp -dsimp[h1,q2,z3])
   refine Leave.go ⟨[],[]⟩ (Gh.to3 (by simp) (by first|simp -dsimp[h1,q2,z3];done|simp_all)) ?_
   exact hq
theorem C.f92 (s:List Vl.VarType)(k0:Int)(r:Int)(hF:F.f92 s k0=some r):PureCall Tryz.prog B 97 [.arr (List.map Vl.VarType.c s),.fn (.func 98) [] [.rptr [.lit (.int .i64 k0)] 0]] (.lit (.int .i64 r)):=by
 unfold F.f92 at hF
 refine PureCall.enterLe Tryz.func97 (by kernel_rfl) rfl Tryz.ntmps97 (by simp) (by simp) ?_
 repeat(first|refine chk.ga ?_|simp -dsimp)
 have hF:=ob hF;obtain⟨o',ho9,hF⟩:=hF
 refine ALoop.goU _ ?_ (((CC.f91 B hB1 hB2 s k0) 0 o' ho9) _ rfl _ ?_)
 ·exact(Gh.to3 (by simp) (by simp -dsimp))
 rcases o' with r0|sx
 ·dsimp only at hF
  cases hF
  intro st h
  simpa using h
 ·dsimp only at hF
  cases hF
  repeat(first|refine chk.ga ?_|simp -dsimp)
  all_goals(try first|omega|rfl)
theorem C.f93 (s:Vl.T_impl_scope)(v:Int)(r:Vl.Ty×Bool)(hF:F.f93 s v=some r):PureCall Tryz.prog B 74 [.agg [.arr (List.map Vl.Data.c s.f0),.arr (List.map Vl.FunType.c s.f1),.arr (List.map Vl.VarType.c s.f2)],.lit (.int .i64 v)] (.tup [.agg [.lit (.int .i64 r.1.data),.lit (.int .i64 r.1.index)],.lit (.bool r.2)]):=by
 unfold F.f93 at hF
 refine PureCall.enterLe Tryz.func74 (by kernel_rfl) rfl Tryz.ntmps74 (by simp) (by simp) ?_
 repeat(first|refine chk.ga ?_|simp -dsimp)
 have hF:=ob hF;obtain⟨v1,e2,hF⟩:=hF
 refine((C.f92 B hB1 hB2 s.f2 v v1 e2)).lend (by simp -dsimp) (by simp -dsimp) ?_
 repeat(first|refine chk.ga ?_|simp -dsimp)
 refine abr.split (fun h3=> ?_) (fun h3=> ?_)
 ·have q4:(v1<0):=auq h3
  rw[if_pos q4]at hF
  cases hF
  repeat(first|refine chk.ga ?_|simp -dsimp[h3])
  all_goals(try first|omega|rfl)
 ·have q4:¬(v1<0):=auq h3
  rw[if_neg q4]at hF
  have hF:=ob hF;obtain⟨x,e5a,hF⟩:=hF
  have e5a:=at_some e5a;obtain⟨ne5,e5⟩:=e5a
  have le5:=lt_of_get e5
  cases hF
  repeat(first|refine chk.ga ?_|simp -dsimp[h3,q4,↓e5])
  all_goals(try first|omega|rfl)
theorem C.f94 (a:Vl.Ty)(b:Vl.Ty)(r:Bool)(hF:F.f94 a b=some r):PureCall Tryz.prog B 75 [.agg [.lit (.int .i64 a.data),.lit (.int .i64 a.index)],.agg [.lit (.int .i64 b.data),.lit (.int .i64 b.index)]] (.lit (.bool r)):=by
 unfold F.f94 at hF
 refine PureCall.enterLe Tryz.func75 (by kernel_rfl) rfl Tryz.ntmps75 (by simp) (by simp) ?_
 repeat(first|refine chk.ga ?_|simp -dsimp)
 refine abr.split (fun h1=> ?_) (fun h1=> ?_)
 ·have q2:(a.data=b.data):=auq h1
  rw[if_pos q2]at hF
  repeat(first|refine chk.ga ?_|simp -dsimp[h1])
  refine abr.split (fun h3=> ?_) (fun h3=> ?_)
  ·have q4:¬(b.index=0):=auq h3
   rw[if_neg q4]at hF
   cases hF
   repeat(first|refine chk.ga ?_|simp -dsimp[h1,h3,q4])
   all_goals(try first|omega|rfl)
  ·have q4:(b.index=0):=auq h3
   rw[if_pos q4]at hF
   cases hF
   repeat(first|refine chk.ga ?_|simp -dsimp[h1,h3,q4])
   all_goals(try first|omega|rfl)
 ·have q2:¬(a.data=b.data):=auq h1
  rw[if_neg q2]at hF
  cases hF
  repeat(first|refine chk.ga ?_|simp -dsimp[h1,q2])
  all_goals(try first|omega|rfl)
theorem CC.f95 (t:Vl.Ty)(x:Vl.Data):(∀(i:Nat) (out:List Int) (o:List Int),F.f95 t x i out=some o→∀(c:Code),navO [1,1,0,1,0,1,0,0] (bodyOf Tryz.f77)=some c→∀(Q:Exit→ASt→Prop),(Q (.exit 0) ⟨[(5,.own 1 (List.length (α:=Int) o))],[.dead,.elems 1 (List.map cI o)]⟩)→ALoopU Tryz.prog B 0 44 (hold c .mk) ⟨[(3,.ptr 0 0),(5,.own 1 (List.length (α:=Int) out)),(16,.arr (List.map Vl.Ctor.c x.ctors)),(17,.lit (.int .i64 (x.ctors.length:Int))),(18,.lit (.int .i64 (i:Int)))],[.cells [.lit (.int .i64 t.data),.lit (.int .i64 t.index)],.elems 1 (List.map cI out)]⟩ (hold Q .mk)):=by
 refine F.f95.partial_correctness t x
  _
  ?_
 ·intro _f_f95 ih_f95 i out o hF
  intro c hc Q hq
  obtain rfl:c=_:=navEq hc rfl
  refine ALoopU.know fun hk hs=> ?_
  have b16:=hk 16
  simp -dsimp at b16
  have d1:=hs 1 _ rfl
  simp -dsimp[Blk.bnd]at d1
  clear hk hs
  refine ALoopU.enter ?_
  repeat(first|refine chk.ga ?_|simp -dsimp)
  refine abr.split (fun h4=> ?_) (fun h4=> ?_)
  ·have q5:(i<x.ctors.length):=auq h4
   have z6:((i:Int)<(x.ctors.length:Int)):=auz
   rw[if_pos q5]at hF
   have hF:=ob hF;obtain⟨x7,e8,hF⟩:=hF
   have le8:=lt_of_get e8
   repeat(first|refine chk.ga ?_|simp -dsimp[h4,z6,↓e8])
   refine abr.split (fun h9=> ?_) (fun h9=> ?_)
   ·have q10:¬(t.index=0):=auq h9
    rw[if_neg q10]at hF
    repeat(first|refine chk.ga ?_|simp -dsimp[h4,z6,↓e8,h9,q10])
    refine abr.split (fun h11=> ?_) (fun h11=> ?_)
    ·have q12:¬(x7.index=0):=auq h11
     rw[if_neg q12]at hF
     repeat(first|refine chk.ga ?_|simp -dsimp[h4,z6,↓e8,h9,q10,h11,q12])
     refine abr.split (fun h13=> ?_) (fun h13=> ?_)
     ·have q14:(x7.index=t.index):=auq h13
      rw[if_pos q14]at hF
      have hF:=oc hF;obtain⟨c15,hF⟩:=hF
      have w16:IntKind.i64.wrap ((i:Int)+1)=(i:Int)+1:=wrap_in (by omega) (by omega)
      repeat(first|refine chk.ga ?_|simp -dsimp[h4,z6,↓e8,h9,q10,h11,q12,h13,w16])
      refine Again.go _ ?_ ((ih_f95 (i+1) (out++[(i:Int)]) o hF) _ rfl _ hq)
      exact(Gh.to3 (by simp) (by first|simp -dsimp[h4,z6,↓e8,h9,q10,h11,q12,h13,w16];done|simp_all))
     ·have q14:¬(x7.index=t.index):=auq h13
      rw[if_neg q14]at hF
      have w17:IntKind.i64.wrap ((i:Int)+1)=(i:Int)+1:=wrap_in (by omega) (by omega)
      repeat(first|refine chk.ga ?_|simp -dsimp[h4,z6,↓e8,h9,q10,h11,q12,h13,q14,w17])
      refine Again.go _ ?_ ((ih_f95 (i+1) out o hF) _ rfl _ hq)
      exact(Gh.to3 (by simp) (by first|simp -dsimp[h4,z6,↓e8,h9,q10,h11,q12,h13,q14,w17];done|simp_all))
    ·have q12:(x7.index=0):=auq h11
     rw[if_pos q12]at hF
     have hF:=oc hF;obtain⟨c18,hF⟩:=hF
     have w19:IntKind.i64.wrap ((i:Int)+1)=(i:Int)+1:=wrap_in (by omega) (by omega)
     repeat(first|refine chk.ga ?_|simp -dsimp[h4,z6,↓e8,h9,q10,h11,q12,w19])
     refine Again.go _ ?_ ((ih_f95 (i+1) (out++[(i:Int)]) o hF) _ rfl _ hq)
     exact(Gh.to3 (by simp) (by first|simp -dsimp[h4,z6,↓e8,h9,q10,h11,q12,w19];done|simp_all))
   ·have q10:(t.index=0):=auq h9
    rw[if_pos q10]at hF
    have hF:=oc hF;obtain⟨c20,hF⟩:=hF
    have w21:IntKind.i64.wrap ((i:Int)+1)=(i:Int)+1:=wrap_in (by omega) (by omega)
    repeat(first|refine chk.ga ?_|simp -dsimp[h4,z6,↓e8,h9,q10,w21])
    refine Again.go _ ?_ ((ih_f95 (i+1) (out++[(i:Int)]) o hF) _ rfl _ hq)
    exact(Gh.to3 (by simp) (by first|simp -dsimp[h4,z6,↓e8,h9,q10,w21];done|simp_all))
  ·have q5:¬(i<x.ctors.length):=auq h4
   have z6:¬((i:Int)<(x.ctors.length:Int)):=auz
   rw[if_neg q5]at hF
   cases hF
   repeat(first|refine chk.ga ?_|simp -dsimp[h4,q5,z6])
   refine Leave.go ⟨[(5,.own 1 (List.length (α:=Int) out))],[.dead,.elems 1 (List.map cI out)]⟩ (Gh.to3 (by simp) (by first|simp -dsimp[h4,q5,z6];done|simp_all)) ?_
   exact hq
theorem C.f96 (w:List Vl.Data)(t:Vl.Ty)(r:List Int)(hF:F.f96 w t=some r):PureCall Tryz.prog B 77 [.arr (List.map Vl.Data.c w),.agg [.lit (.int .i64 t.data),.lit (.int .i64 t.index)]] (.arr (List.map cI r)):=by
 unfold F.f96 at hF
 refine PureCall.enterLe Tryz.func77 (by kernel_rfl) rfl Tryz.ntmps77 (by simp) (by simp) ?_
 repeat(first|refine chk.ga ?_|simp -dsimp)
 refine abr.split (fun h1=> ?_) (fun h1=> ?_)
 ·have q2:¬(t.data=(-1)):=auq h1
  rw[if_neg q2]at hF
  have hF:=ob hF;obtain⟨x,e3a,hF⟩:=hF
  have e3a:=at_some e3a;obtain⟨ne3,e3⟩:=e3a
  have le3:=lt_of_get e3
  repeat(first|refine chk.ga ?_|simp -dsimp[h1,q2,↓e3])
  have hF:=ob hF;obtain⟨o',ho22,hF⟩:=hF
  refine ALoop.goU ⟨[(3,.ptr 0 0),(5,.own 1 (List.length (α:=Int) [])),(16,.arr (List.map Vl.Ctor.c x.ctors)),(17,.lit (.int .i64 (x.ctors.length:Int))),(18,.lit (.int .i64 (0:Int)))],[.cells [.lit (.int .i64 t.data),.lit (.int .i64 t.index)],.elems 1 (List.map cI [])]⟩ (by refine Gh.trans (Gh.nil 5 1 (by simp -dsimp)) ?_;exact(Gh.to3 (by simp) (by first|simp -dsimp[h1,q2,↓e3];done|simp_all))) ?_
  refine((CC.f95 B hB1 hB2 t x) 0 [] o' ho22) _ rfl _ ?_
  cases hF
  repeat(first|refine chk.ga ?_|simp -dsimp)
  all_goals(try first|omega|rfl)
 ·have q2:(t.data=(-1)):=auq h1
  rw[if_pos q2]at hF
  cases hF
  repeat(first|refine chk.ga ?_|simp -dsimp[h1,q2])
  all_goals(try first|omega|rfl)
theorem CC.f97 (s:List Int)(v:Int):(∀(i:Nat) (o:Lo Int Unit),F.f97 s v i=some o→∀(c:Code),navO [1,0,1,0,0] (bodyOf Tryz.f99)=some c→∀(Q:Exit→ASt→Prop),o.post (fun r=>∀st,Post Tryz.prog Tryz.f99 (fun r' _=>r'.le (.lit (.int .i64 r))) .ret st→Q .ret st) (fun s=>Q (.exit 0) ⟨[],[]⟩)→ALoopU Tryz.prog B 0 19 (hold c .mk) ⟨[(0,.arr (List.map cI s)),(1,.lit (.int .i64 v)),(7,.lit (.int .i64 (s.length:Int))),(8,.lit (.int .i64 (i:Int)))],[]⟩ (hold Q .mk)):=by
 refine F.f97.partial_correctness s v
  _
  ?_
 ·intro _f_f97 ih_f97 i o hF
  intro c hc Q hq
  obtain rfl:c=_:=navEq hc rfl
  refine ALoopU.know fun hk hs=> ?_
  have b0:=hk 0
  simp -dsimp at b0
  clear hk hs
  refine ALoopU.enter ?_
  repeat(first|refine chk.ga ?_|simp -dsimp)
  refine abr.split (fun h1=> ?_) (fun h1=> ?_)
  ·have q2:(i<s.length):=auq h1
   have z3:((i:Int)<(s.length:Int)):=auz
   rw[if_pos q2]at hF
   have hF:=ob hF;obtain⟨x,e4,hF⟩:=hF
   have le4:=lt_of_get e4
   repeat(first|refine chk.ga ?_|simp -dsimp[h1,z3,↓e4])
   refine abr.split (fun h5=> ?_) (fun h5=> ?_)
   ·have q6:(v=x):=auq h5
    rw[if_pos q6]at hF
    cases hF
    repeat(first|refine chk.ga ?_|simp -dsimp[h1,z3,↓e4,h5])
    refine Leave.go _ (Gh.refl _) (hq _ ?_)
    repeat(first|refine chk.ga ?_|simp -dsimp[h1,z3,↓e4,h5])
   ·have q6:¬(v=x):=auq h5
    rw[if_neg q6]at hF
    have w7:IntKind.i64.wrap ((i:Int)+1)=(i:Int)+1:=wrap_in (by omega) (by omega)
    repeat(first|refine chk.ga ?_|simp -dsimp[h1,z3,↓e4,h5,q6,w7])
    refine Again.go _ ?_ ((ih_f97 (i+1) o hF) _ rfl _ hq)
    exact(Gh.to3 (by simp) (by first|simp -dsimp[h1,z3,↓e4,h5,q6,w7];done|simp_all))
  ·have q2:¬(i<s.length):=auq h1
   have z3:¬((i:Int)<(s.length:Int)):=auz
   rw[if_neg q2]at hF
   cases hF
   repeat(first|refine chk.ga ?_|simp -dsimp[h1,q2,z3])
   refine Leave.go ⟨[],[]⟩ (Gh.to3 (by simp) (by first|simp -dsimp[h1,q2,z3];done|simp_all)) ?_
   exact hq
theorem C.f98 (s:List Int)(v:Int)(r:Int)(hF:F.f98 s v=some r):PureCall Tryz.prog B 99 [.arr (List.map cI s),.lit (.int .i64 v)] (.lit (.int .i64 r)):=by
 unfold F.f98 at hF
 refine PureCall.enterLe Tryz.func99 (by kernel_rfl) rfl Tryz.ntmps99 (by simp) (by simp) ?_
 repeat(first|refine chk.ga ?_|simp -dsimp)
 have hF:=ob hF;obtain⟨o',ho8,hF⟩:=hF
 refine ALoop.goU _ ?_ (((CC.f97 B hB1 hB2 s v) 0 o' ho8) _ rfl _ ?_)
 ·exact(Gh.to3 (by simp) (by simp -dsimp))
 rcases o' with r0|sx
 ·dsimp only at hF
  cases hF
  intro st h
  simpa using h
 ·dsimp only at hF
  cases hF
  repeat(first|refine chk.ga ?_|simp -dsimp)
  all_goals(try first|omega|rfl)
theorem C.f99 (s:List Int)(v:Int)(r:Bool)(hF:F.f99 s v=some r):PureCall Tryz.prog B 76 [.arr (List.map cI s),.lit (.int .i64 v)] (.lit (.bool r)):=by
 unfold F.f99 at hF
 refine PureCall.enterLe Tryz.func76 (by kernel_rfl) rfl Tryz.ntmps76 (by simp) (by simp) ?_
 repeat(first|refine chk.ga ?_|simp -dsimp)
 have hF:=ob hF;obtain⟨v1,e2,hF⟩:=hF
 refine((C.f98 B hB1 hB2 s v v1 e2)).goW (by simp) (by simp) ?_
 cases hF
 repeat(first|refine chk.ga ?_|simp -dsimp)
 all_goals(try first|omega|rfl)
theorem CC.f100 (t:Vl.Ty)(x2:Vl.Ctor):(∀(i:Nat) (out:List Vl.Ty) (o:List Vl.Ty),F.f100 t x2 i out=some o→∀(c:Code),navO [1,1,1,1,1,0,1,0,0] (bodyOf Tryz.f62)=some c→∀(Q:Exit→ASt→Prop),(Q (.exit 0) ⟨[(9,.own 2 (List.length (α:=Vl.Ty) o))],[.dead,.dead,.elems 2 (List.map Vl.Ty.c o)]⟩)→ALoopU Tryz.prog B 0 45 (hold c .mk) ⟨[(8,.lit (.int .i64 t.index)),(9,.own 2 (List.length (α:=Vl.Ty) out)),(28,.arr (List.map Vl.Ty.c x2.args)),(29,.lit (.int .i64 (x2.args.length:Int))),(30,.lit (.int .i64 (i:Int)))],[.dead,.dead,.elems 2 (List.map Vl.Ty.c out)]⟩ (hold Q .mk)):=by
 refine F.f100.partial_correctness t x2
  _
  ?_
 ·intro _f_f100 ih_f100 i out o hF
  intro c hc Q hq
  obtain rfl:c=_:=navEq hc rfl
  refine ALoopU.know fun hk hs=> ?_
  have b28:=hk 28
  simp -dsimp at b28
  have d2:=hs 2 _ rfl
  simp -dsimp[Blk.bnd]at d2
  clear hk hs
  refine ALoopU.enter ?_
  repeat(first|refine chk.ga ?_|simp -dsimp)
  refine abr.split (fun h6=> ?_) (fun h6=> ?_)
  ·have q7:(i<x2.args.length):=auq h6
   have z8:((i:Int)<(x2.args.length:Int)):=auz
   rw[if_pos q7]at hF
   have hF:=ob hF;obtain⟨x9,e10,hF⟩:=hF
   have le10:=lt_of_get e10
   repeat(first|refine chk.ga ?_|simp -dsimp[h6,z8,↓e10])
   refine abr.split (fun h11=> ?_) (fun h11=> ?_)
   ·have q12:(x9.index=(-1)):=auq h11
    rw[if_pos q12]at hF
    have hF:=oc hF;obtain⟨c13,hF⟩:=hF
    have w14:IntKind.i64.wrap ((i:Int)+1)=(i:Int)+1:=wrap_in (by omega) (by omega)
    repeat(first|refine chk.ga ?_|simp -dsimp[h6,z8,↓e10,h11,w14])
    refine Again.go _ ?_ ((ih_f100 (i+1) (out++[(⟨x9.data,t.index⟩:Vl.Ty)]) o hF) _ rfl _ hq)
    exact(Gh.to3 (by simp) (by first|simp -dsimp[h6,z8,↓e10,h11,w14];done|simp_all))
   ·have q12:¬(x9.index=(-1)):=auq h11
    rw[if_neg q12]at hF
    have hF:=oc hF;obtain⟨c15,hF⟩:=hF
    have w16:IntKind.i64.wrap ((i:Int)+1)=(i:Int)+1:=wrap_in (by omega) (by omega)
    repeat(first|refine chk.ga ?_|simp -dsimp[h6,z8,↓e10,h11,q12,w16])
    refine Again.go _ ?_ ((ih_f100 (i+1) (out++[x9]) o hF) _ rfl _ hq)
    exact(Gh.to3 (by simp) (by first|simp -dsimp[h6,z8,↓e10,h11,q12,w16];done|simp_all))
  ·have q7:¬(i<x2.args.length):=auq h6
   have z8:¬((i:Int)<(x2.args.length:Int)):=auz
   rw[if_neg q7]at hF
   cases hF
   repeat(first|refine chk.ga ?_|simp -dsimp[h6,q7,z8])
   refine Leave.go ⟨[(9,.own 2 (List.length (α:=Vl.Ty) out))],[.dead,.dead,.elems 2 (List.map Vl.Ty.c out)]⟩ (Gh.to3 (by simp) (by first|simp -dsimp[h6,q7,z8];done|simp_all)) ?_
   exact hq
theorem CC.f101 (x2:Vl.Ctor):(∀(i18:Nat) (out19:List Vl.Ty) (o:List Vl.Ty),F.f101 x2 i18 out19=some o→∀(c:Code),navO [1,1,1,1,1,0,1,0,0] (bodyOf Tryz.f62)=some c→∀(Q:Exit→ASt→Prop),(Q (.exit 0) ⟨[(9,.own 2 (List.length (α:=Vl.Ty) o))],[.dead,.dead,.elems 2 (List.map Vl.Ty.c o)]⟩)→ALoopU Tryz.prog B 0 45 (hold c .mk) ⟨[(8,.lit (.int .i64 x2.index)),(9,.own 2 (List.length (α:=Vl.Ty) out19)),(28,.arr (List.map Vl.Ty.c x2.args)),(29,.lit (.int .i64 (x2.args.length:Int))),(30,.lit (.int .i64 (i18:Int)))],[.dead,.dead,.elems 2 (List.map Vl.Ty.c out19)]⟩ (hold Q .mk)):=by
 refine F.f101.partial_correctness x2
  _
  ?_
 ·intro _f_f101 ih_f101 i18 out19 o hF
  intro c hc Q hq
  obtain rfl:c=_:=navEq hc rfl
  refine ALoopU.know fun hk hs=> ?_
  have b28:=hk 28
  simp -dsimp at b28
  have d2:=hs 2 _ rfl
  simp -dsimp[Blk.bnd]at d2
  clear hk hs
  refine ALoopU.enter ?_
  repeat(first|refine chk.ga ?_|simp -dsimp)
  refine abr.split (fun h20=> ?_) (fun h20=> ?_)
  ·have q21:(i18<x2.args.length):=auq h20
   have z22:((i18:Int)<(x2.args.length:Int)):=auz
   rw[if_pos q21]at hF
   have hF:=ob hF;obtain⟨x23,e24,hF⟩:=hF
   have le24:=lt_of_get e24
   repeat(first|refine chk.ga ?_|simp -dsimp[h20,z22,↓e24])
   refine abr.split (fun h25=> ?_) (fun h25=> ?_)
   ·have q26:(x23.index=(-1)):=auq h25
    rw[if_pos q26]at hF
    have hF:=oc hF;obtain⟨c27,hF⟩:=hF
    have w28:IntKind.i64.wrap ((i18:Int)+1)=(i18:Int)+1:=wrap_in (by omega) (by omega)
    repeat(first|refine chk.ga ?_|simp -dsimp[h20,z22,↓e24,h25,w28])
    refine Again.go _ ?_ ((ih_f101 (i18+1) (out19++[(⟨x23.data,x2.index⟩:Vl.Ty)]) o hF) _ rfl _ hq)
    exact(Gh.to3 (by simp) (by first|simp -dsimp[h20,z22,↓e24,h25,w28];done|simp_all))
   ·have q26:¬(x23.index=(-1)):=auq h25
    rw[if_neg q26]at hF
    have hF:=oc hF;obtain⟨c29,hF⟩:=hF
    have w30:IntKind.i64.wrap ((i18:Int)+1)=(i18:Int)+1:=wrap_in (by omega) (by omega)
    repeat(first|refine chk.ga ?_|simp -dsimp[h20,z22,↓e24,h25,q26,w30])
    refine Again.go _ ?_ ((ih_f101 (i18+1) (out19++[x23]) o hF) _ rfl _ hq)
    exact(Gh.to3 (by simp) (by first|simp -dsimp[h20,z22,↓e24,h25,q26,w30];done|simp_all))
  ·have q21:¬(i18<x2.args.length):=auq h20
   have z22:¬((i18:Int)<(x2.args.length:Int)):=auz
   rw[if_neg q21]at hF
   cases hF
   repeat(first|refine chk.ga ?_|simp -dsimp[h20,q21,z22])
   refine Leave.go ⟨[(9,.own 2 (List.length (α:=Vl.Ty) out19))],[.dead,.dead,.elems 2 (List.map Vl.Ty.c out19)]⟩ (Gh.to3 (by simp) (by first|simp -dsimp[h20,q21,z22];done|simp_all)) ?_
   exact hq
theorem C.f102 (w:List Vl.Data)(t:Vl.Ty)(ctor:Int)(r:List Vl.Ty)(hF:F.f102 w t ctor=some r):PureCall Tryz.prog B 62 [.arr (List.map Vl.Data.c w),.agg [.lit (.int .i64 t.data),.lit (.int .i64 t.index)],.lit (.int .i64 ctor)] (.arr (List.map Vl.Ty.c r)):=by
 unfold F.f102 at hF
 refine PureCall.enterLe Tryz.func62 (by kernel_rfl) rfl Tryz.ntmps62 (by simp) (by simp) ?_
 have hF:=ob hF;obtain⟨x,e1a,hF⟩:=hF
 have e1a:=at_some e1a;obtain⟨ne1,e1⟩:=e1a
 have le1:=lt_of_get e1
 have hF:=ob hF;obtain⟨x2,e3a,hF⟩:=hF
 have e3a:=at_some e3a;obtain⟨ne3,e3⟩:=e3a
 have le3:=lt_of_get e3
 repeat(first|refine chk.ga ?_|simp -dsimp[↓e1,↓e3])
 refine abr.split (fun h4=> ?_) (fun h4=> ?_)
 ·have q5:(x2.index=0):=auq h4
  rw[if_pos q5]at hF
  repeat(first|refine chk.ga ?_|simp -dsimp[↓e1,↓e3,h4])
  have hF:=ob hF;obtain⟨o',ho17,hF⟩:=hF
  refine ALoop.goU ⟨[(8,.lit (.int .i64 t.index)),(9,.own 2 (List.length (α:=Vl.Ty) [])),(28,.arr (List.map Vl.Ty.c x2.args)),(29,.lit (.int .i64 (x2.args.length:Int))),(30,.lit (.int .i64 (0:Int)))],[.dead,.dead,.elems 2 (List.map Vl.Ty.c [])]⟩ (by refine Gh.trans (Gh.nil 9 2 (by simp -dsimp)) ?_;exact(Gh.to3 (by simp) (by first|simp -dsimp[↓e1,↓e3,h4];done|simp_all))) ?_
  refine((CC.f100 B hB1 hB2 t x2) 0 [] o' ho17) _ rfl _ ?_
  cases hF
  repeat(first|refine chk.ga ?_|simp -dsimp)
  all_goals(try first|omega|rfl)
 ·have q5:¬(x2.index=0):=auq h4
  rw[if_neg q5]at hF
  repeat(first|refine chk.ga ?_|simp -dsimp[↓e1,↓e3,h4,q5])
  have hF:=ob hF;obtain⟨o'32,ho31,hF⟩:=hF
  refine ALoop.goU ⟨[(8,.lit (.int .i64 x2.index)),(9,.own 2 (List.length (α:=Vl.Ty) [])),(28,.arr (List.map Vl.Ty.c x2.args)),(29,.lit (.int .i64 (x2.args.length:Int))),(30,.lit (.int .i64 (0:Int)))],[.dead,.dead,.elems 2 (List.map Vl.Ty.c [])]⟩ (by refine Gh.trans (Gh.nil 9 2 (by simp -dsimp)) ?_;exact(Gh.to3 (by simp) (by first|simp -dsimp[↓e1,↓e3,h4,q5];done|simp_all))) ?_
  refine((CC.f101 B hB1 hB2 x2) 0 [] o'32 ho31) _ rfl _ ?_
  cases hF
  repeat(first|refine chk.ga ?_|simp -dsimp)
  all_goals(try first|omega|rfl)
theorem C.f103 (s:Vl.T_impl_scope)(t:Vl.Ty)(e:Vl.Expr)(r:(List Vl.Ty)×Bool)(hF:F.f103 s t e=some r):PureCall Tryz.prog B 52 [.agg [.arr (List.map Vl.Data.c s.f0),.arr (List.map Vl.FunType.c s.f1),.arr (List.map Vl.VarType.c s.f2)],.agg [.lit (.int .i64 t.data),.lit (.int .i64 t.index)],.agg [.lit (.int .i64 e.op),.lit (.int .i64 e.n),.lit (.int .i64 e.ctor),.arr (List.map Vl.Expr.c e.kids)]] (.tup [.arr (List.map Vl.Ty.c r.1),.lit (.bool r.2)]):=by
 unfold F.f103 at hF
 refine PureCall.enterLe Tryz.func52 (by kernel_rfl) rfl Tryz.ntmps52 (by simp) (by simp) ?_
 repeat(first|refine chk.ga ?_|simp -dsimp)
 refine abr.split (fun h1=> ?_) (fun h1=> ?_)
 ·have q2:(e.op=1):=auq h1
  rw[if_pos q2]at hF
  repeat(first|refine chk.ga ?_|simp -dsimp[h1])
  refine ADraw.simple follows (by kernel_rfl) (by kernel_rfl) ?_
  repeat(first|refine chk.ga ?_|simp -dsimp[h1])
  refine abr.split (fun h3=> ?_) (fun h3=> ?_)
  ·have q4:(t.data=(-1)):=auq h3
   rw[if_pos q4]at hF
   repeat(first|refine chk.ga ?_|simp -dsimp[h1,h3])
   have hF:=ob hF;obtain⟨v,e5,hF⟩:=hF
   refine((C.f69 B hB1 hB2 e.n (0:Int) (9:Int) v e5)).pgoW (by first|simp[h1,h3];done|simp_all) (by simp) ?_
   repeat(first|refine chk.ga ?_|simp -dsimp[h1,h3])
   refine abr.split (fun h6=> ?_) (fun h6=> ?_)
   ·have q7:(v=true):=auq h6
    rw[if_pos q7]at hF
    cases hF
    repeat(first|refine chk.ga ?_|simp -dsimp[h1,h3,h6])
    all_goals(try first|omega|rfl)
   ·have q7:¬(v=true):=auq h6
    rw[if_neg q7]at hF
    cases hF
    repeat(first|refine chk.ga ?_|simp -dsimp[h1,h3,h6,q7])
    all_goals(try first|omega|rfl)
  ·have q4:¬(t.data=(-1)):=auq h3
   rw[if_neg q4]at hF
   cases hF
   repeat(first|refine chk.ga ?_|simp -dsimp[h1,h3,q4])
   all_goals(try first|omega|rfl)
 ·have q2:¬(e.op=1):=auq h1
  rw[if_neg q2]at hF
  repeat(first|refine chk.ga ?_|simp -dsimp[h1,q2])
  refine abr.split (fun h8=> ?_) (fun h8=> ?_)
  ·have q9:(e.op=2):=auq h8
   rw[if_pos q9]at hF
   repeat(first|refine chk.ga ?_|simp -dsimp[h1,q2,h8])
   have hF:=ob hF;obtain⟨v10,e11,hF⟩:=hF
   refine((C.f93 B hB1 hB2 s e.n v10 e11)).goW (by first|simp[h1,q2,h8];done|simp_all) (by simp) ?_
   repeat(first|refine chk.ga ?_|simp -dsimp[h1,q2,h8])
   refine ADraw.simple follows (by kernel_rfl) (by kernel_rfl) ?_
   repeat(first|refine chk.ga ?_|simp -dsimp[h1,q2,h8])
   refine abr.split (fun h12=> ?_) (fun h12=> ?_)
   ·have q13:(v10.2=true):=auq h12
    rw[if_pos q13]at hF
    repeat(first|refine chk.ga ?_|simp -dsimp[h1,q2,h8,h12])
    have hF:=ob hF;obtain⟨v14,e15,hF⟩:=hF
    refine((C.f94 B hB1 hB2 v10.1 t v14 e15)).pgoW (by first|simp[h1,q2,h8,h12];done|simp_all) (by simp) ?_
    repeat(first|refine chk.ga ?_|simp -dsimp[h1,q2,h8,h12])
    refine abr.split (fun h16=> ?_) (fun h16=> ?_)
    ·have q17:(v14=true):=auq h16
     rw[if_pos q17]at hF
     cases hF
     repeat(first|refine chk.ga ?_|simp -dsimp[h1,q2,h8,h12,h16])
     all_goals(try first|omega|rfl)
    ·have q17:¬(v14=true):=auq h16
     rw[if_neg q17]at hF
     cases hF
     repeat(first|refine chk.ga ?_|simp -dsimp[h1,q2,h8,h12,h16,q17])
     all_goals(try first|omega|rfl)
   ·have q13:¬(v10.2=true):=auq h12
    rw[if_neg q13]at hF
    cases hF
    repeat(first|refine chk.ga ?_|simp -dsimp[h1,q2,h8,h12,q13])
    all_goals(try first|omega|rfl)
  ·have q9:¬(e.op=2):=auq h8
   rw[if_neg q9]at hF
   repeat(first|refine chk.ga ?_|simp -dsimp[h1,q2,h8,q9])
   refine abr.split (fun h18=> ?_) (fun h18=> ?_)
   ·have q19:(e.op=3):=auq h18
    rw[if_pos q19]at hF
    repeat(first|refine chk.ga ?_|simp -dsimp[h1,q2,h8,q9,h18])
    refine ADraw.simple follows (by kernel_rfl) (by kernel_rfl) ?_
    repeat(first|refine chk.ga ?_|simp -dsimp[h1,q2,h8,q9,h18])
    refine abr.split (fun h20=> ?_) (fun h20=> ?_)
    ·have q21:(e.n=0):=auq h20
     rw[if_pos q21]at hF
     repeat(first|refine chk.ga ?_|simp -dsimp[h1,q2,h8,q9,h18,h20])
     have hF:=ob hF;obtain⟨v22,e23,hF⟩:=hF
     refine((C.f96 B hB1 hB2 s.f0 t v22 e23)).pgoW (by first|simp[h1,q2,h8,q9,h18,h20];done|simp_all) (by simp) ?_
     repeat(first|refine chk.ga ?_|simp -dsimp[h1,q2,h8,q9,h18,h20])
     have hF:=ob hF;obtain⟨v24,e25,hF⟩:=hF
     refine((C.f99 B hB1 hB2 v22 e.ctor v24 e25)).pgoW (by first|simp[h1,q2,h8,q9,h18,h20];done|simp_all) (by simp) ?_
     repeat(first|refine chk.ga ?_|simp -dsimp[h1,q2,h8,q9,h18,h20])
     refine abr.split (fun h26=> ?_) (fun h26=> ?_)
     ·have q27:¬(v24=true):=auq h26
      rw[if_neg q27]at hF
      cases hF
      repeat(first|refine chk.ga ?_|simp -dsimp[h1,q2,h8,q9,h18,h20,h26,q27])
      all_goals(try first|omega|rfl)
     ·have q27:(v24=true):=auq h26
      rw[if_pos q27]at hF
      repeat(first|refine chk.ga ?_|simp -dsimp[h1,q2,h8,q9,h18,h20,h26,q27])
      have hF:=ob hF;obtain⟨v28,e29,hF⟩:=hF
      refine((C.f102 B hB1 hB2 s.f0 t e.ctor v28 e29)).goW (by first|simp[h1,q2,h8,q9,h18,h20,h26,q27];done|simp_all) (by simp) ?_
      cases hF
      repeat(first|refine chk.ga ?_|simp -dsimp[h1,q2,h8,q9,h18,h20,h26,q27])
      all_goals(try first|omega|rfl)
    ·have q21:¬(e.n=0):=auq h20
     rw[if_neg q21]at hF
     cases hF
     repeat(first|refine chk.ga ?_|simp -dsimp[h1,q2,h8,q9,h18,h20,q21])
     all_goals(try first|omega|rfl)
   ·have q19:¬(e.op=3):=auq h18
    rw[if_neg q19]at hF
    repeat(first|refine chk.ga ?_|simp -dsimp[h1,q2,h8,q9,h18,q19])
    refine abr.split (fun h30=> ?_) (fun h30=> ?_)
    ·have q31:(e.op=4):=auq h30
     rw[if_pos q31]at hF
     repeat(first|refine chk.ga ?_|simp -dsimp[h1,q2,h8,q9,h18,q19,h30])
     refine ADraw.eff [] [(0,0),(0,0),(0,1),(0,1),(0,1),(0,1),(0,1),(0,1),(0,1),(0,1),(0,1),(0,1),(0,1),(0,1),(0,1),(0,1),(1,1),(1,1)] [1,1,1,0,2,1,1,0,2,1,1,1,0,2,1,1,1,1] follows (by kernel_rfl) (by kernel_rfl) (by kernel_rfl) ?_
     repeat(first|refine chk.ga ?_|simp -dsimp[h1,q2,h8,q9,h18,q19,h30])
     refine abr.split (fun h32=> ?_) (fun h32=> ?_)
     ·have q33:(t.data=(-1)):=auq h32
      rw[if_pos q33]at hF
      repeat(first|refine chk.ga ?_|simp -dsimp[h1,q2,h8,q9,h18,q19,h30,h32])
      refine abr.split (fun h34=> ?_) (fun h34=> ?_)
      ·have q35:(e.n=0):=auq h34
       rw[if_pos q35]at hF
       cases hF
       repeat(first|refine chk.ga ?_|simp -dsimp[h1,q2,h8,q9,h18,q19,h30,h32,h34])
       all_goals(try first|omega|rfl)
      ·have q35:¬(e.n=0):=auq h34
       rw[if_neg q35]at hF
       cases hF
       repeat(first|refine chk.ga ?_|simp -dsimp[h1,q2,h8,q9,h18,q19,h30,h32,h34,q35])
       all_goals(try first|omega|rfl)
     ·have q33:¬(t.data=(-1)):=auq h32
      rw[if_neg q33]at hF
      cases hF
      repeat(first|refine chk.ga ?_|simp -dsimp[h1,q2,h8,q9,h18,q19,h30,h32,q33])
      all_goals(try first|omega|rfl)
    ·have q31:¬(e.op=4):=auq h30
     rw[if_neg q31]at hF
     repeat(first|refine chk.ga ?_|simp -dsimp[h1,q2,h8,q9,h18,q19,h30,q31])
     refine abr.split (fun h36=> ?_) (fun h36=> ?_)
     ·have q37:(e.op=5):=auq h36
      rw[if_pos q37]at hF
      repeat(first|refine chk.ga ?_|simp -dsimp[h1,q2,h8,q9,h18,q19,h30,q31,h36])
      have hF:=ob hF;obtain⟨v38,e39,hF⟩:=hF
      refine((C.f69 B hB1 hB2 e.n (0:Int) (IntKind.i64.wrap ((s.f1.length:Int) -1)) v38 e39)).goW (by first|simp[h1,q2,h8,q9,h18,q19,h30,q31,h36];done|simp_all) (by simp) ?_
      repeat(first|refine chk.ga ?_|simp -dsimp[h1,q2,h8,q9,h18,q19,h30,q31,h36])
      refine abr.split (fun h40=> ?_) (fun h40=> ?_)
      ·have q41:(v38=true):=auq h40
       rw[if_pos q41]at hF
       repeat(first|refine chk.ga ?_|simp -dsimp[h1,q2,h8,q9,h18,q19,h30,q31,h36,h40])
       refine abr.split (fun h42=> ?_) (fun h42=> ?_)
       ·have q43:¬(e.ctor=0):=auq h42
        rw[if_neg q43]at hF
        cases hF
        repeat(first|refine chk.ga ?_|simp -dsimp[h1,q2,h8,q9,h18,q19,h30,q31,h36,h40,h42,q43])
        all_goals(try first|omega|rfl)
       ·have q43:(e.ctor=0):=auq h42
        rw[if_pos q43]at hF
        repeat(first|refine chk.ga ?_|simp -dsimp[h1,q2,h8,q9,h18,q19,h30,q31,h36,h40,h42,q43])
        refine ADraw.eff [] [(0,0),(0,0),(0,0),(0,0),(0,0),(0,0),(0,0),(0,1),(0,1),(0,1),(0,1),(0,1),(0,1),(0,1),(0,1),(0,1),(0,1),(1,1),(1,1)] [1,1,1,1,1,1,1,1,0,2,0,2,0,0,0,2,1,1,1] follows (by kernel_rfl) (by kernel_rfl) (by kernel_rfl) ?_
        have hF:=ob hF;obtain⟨x,e44a,hF⟩:=hF
        have e44a:=at_some e44a;obtain⟨ne44,e44⟩:=e44a
        have le44:=lt_of_get e44
        repeat(first|refine chk.ga ?_|simp -dsimp[h1,q2,h8,q9,h18,q19,h30,q31,h36,h40,h42,q43,↓e44])
        have hF:=ob hF;obtain⟨v45,e46,hF⟩:=hF
        refine((C.f94 B hB1 hB2 x.res t v45 e46)).pgoW (by first|simp[h1,q2,h8,q9,h18,q19,h30,q31,h36,h40,h42,q43,↓e44];done|simp_all) (by simp) ?_
        cases hF
        repeat(first|refine chk.ga ?_|simp -dsimp[h1,q2,h8,q9,h18,q19,h30,q31,h36,h40,h42,q43,↓e44])
        all_goals(try first|omega|rfl)
      ·have q41:¬(v38=true):=auq h40
       rw[if_neg q41]at hF
       cases hF
       repeat(first|refine chk.ga ?_|simp -dsimp[h1,q2,h8,q9,h18,q19,h30,q31,h36,h40,q41])
       all_goals(try first|omega|rfl)
     ·have q37:¬(e.op=5):=auq h36
      rw[if_neg q37]at hF
      cases hF
      repeat(first|refine chk.ga ?_|simp -dsimp[h1,q2,h8,q9,h18,q19,h30,q31,h36,q37])
      all_goals(try first|omega|rfl)
theorem CC.f104 (s:Vl.T_impl_scope):(∀(t:Vl.Ty) (e:Vl.Expr) (deep:Int) (count:Int) (r:Bool×Int),F.f104 s t e deep count=some r→MutCall Tryz.prog B 46 [.lit (.int .i64 count)] [.agg [.arr (List.map Vl.Data.c s.f0),.arr (List.map Vl.FunType.c s.f1),.arr (List.map Vl.VarType.c s.f2)],.agg [.lit (.int .i64 t.data),.lit (.int .i64 t.index)],.agg [.lit (.int .i64 e.op),.lit (.int .i64 e.n),.lit (.int .i64 e.ctor),.arr (List.map Vl.Expr.c e.kids)],.lit (.int .i64 deep),.ptr 0 0] (.lit (.bool r.1)) [.lit (.int .i64 r.2)])∧
  (∀(e:Vl.Expr) (deep:Int) (v:(List Vl.Ty)×Bool) (z:Int) (i:Nat) (o:Lo (Bool×Int) Int),F.f105 s e deep v z i=some o→∀(c:Code),navO [1,1,1,1,1,0,1,0,0] (bodyOf Tryz.f46)=some c→∀(Q:Exit→ASt→Prop),o.post (fun r=>∀st,Post Tryz.prog Tryz.f46 (fun r' σ'=>r'.le (.lit (.bool r.1))∧mcell σ' [.lit (.int .i64 r.2)]) .ret st→Q .ret st) (fun s=>Q (.exit 0) ⟨[],[.cells [.lit (.int .i64 s)]]⟩)→ALoopU Tryz.prog B 1 65 (hold c .mk) ⟨[(3,.lit (.int .i64 deep)),(4,.ptr 0 0),(5,.ptr 1 0),(11,.arr (List.map Vl.Ty.c v.1)),(46,.arr (List.map Vl.Expr.c e.kids)),(47,.lit (.int .i64 (e.kids.length:Int))),(48,.lit (.int .i64 (i:Int)))],[.cells [.lit (.int .i64 z)],.cells [.arr (List.map Vl.Data.c s.f0),.arr (List.map Vl.FunType.c s.f1),.arr (List.map Vl.VarType.c s.f2)]]⟩ (hold Q .mk)):=by
 refine F.f104.mutual_partial_correctness s
  _ _
  ?_ ?_
 ·intro _f_f105 ih_f105 t e deep count r hF
  refine MutCall.enter Tryz.func46 (by kernel_rfl) rfl Tryz.ntmps46 (by simp) (by simp) (by simp) (by simp) ?_
  repeat(first|refine chk.ga ?_|simp -dsimp)
  refine abr.split (fun h1=> ?_) (fun h1=> ?_)
  ·have q2:¬(60<IntKind.i64.wrap (count+1)):=auq h1
   rw[if_neg q2]at hF
   repeat(first|refine chk.ga ?_|simp -dsimp[h1,q2])
   refine abr.split (fun h3=> ?_) (fun h3=> ?_)
   ·have q4:(10<deep):=auq h3
    rw[if_pos q4]at hF
    cases hF
    repeat(first|refine chk.ga ?_|simp -dsimp[h1,q2,h3])
    all_goals(try first|omega|rfl)
   ·have q4:¬(10<deep):=auq h3
    rw[if_neg q4]at hF
    repeat(first|refine chk.ga ?_|simp -dsimp[h1,q2,h3,q4])
    have hF:=ob hF;obtain⟨v,e5,hF⟩:=hF
    refine((C.f103 B hB1 hB2 s t e v e5)).goW (by first|simp[h1,q2,h3,q4];done|simp_all) (by simp) ?_
    repeat(first|refine chk.ga ?_|simp -dsimp[h1,q2,h3,q4])
    refine abr.split (fun h6=> ?_) (fun h6=> ?_)
    ·have q7:(v.2=true):=auq h6
     rw[if_pos q7]at hF
     repeat(first|refine chk.ga ?_|simp -dsimp[h1,q2,h3,q4,h6])
     refine abr.split (fun h8=> ?_) (fun h8=> ?_)
     ·have q9:¬(v.1.length=e.kids.length):=auq h8
      have z10:¬((v.1.length:Int)=(e.kids.length:Int)):=auz
      rw[if_neg q9]at hF
      cases hF
      repeat(first|refine chk.ga ?_|simp -dsimp[h1,q2,h3,q4,h6,h8,q9,z10])
      all_goals(try first|omega|rfl)
     ·have q9:(v.1.length=e.kids.length):=auq h8
      have z10:((v.1.length:Int)=(e.kids.length:Int)):=auz
      rw[if_pos q9]at hF
      repeat(first|refine chk.ga ?_|simp -dsimp[h1,q2,h3,q4,h6,h8,q9,z10])
      have hF:=ob hF;obtain⟨o',ho22,hF⟩:=hF
      refine ALoop.goU _ ?_ ((ih_f105 e deep v (IntKind.i64.wrap (count+1)) 0 o' ho22) _ rfl _ ?_)
      ·exact(Gh.to3 (by simp) (by first|simp -dsimp[h1,q2,h3,q4,h6,h8,q9,z10];done|simp_all))
      rcases o' with r0|sx
      ·dsimp only at hF
       cases hF
       intro st h
       simpa using h
      ·dsimp only at hF
       cases hF
       repeat(first|refine chk.ga ?_|simp -dsimp)
       all_goals(try first|omega|rfl)
    ·have q7:¬(v.2=true):=auq h6
     rw[if_neg q7]at hF
     cases hF
     repeat(first|refine chk.ga ?_|simp -dsimp[h1,q2,h3,q4,h6,q7])
     all_goals(try first|omega|rfl)
  ·have q2:(60<IntKind.i64.wrap (count+1)):=auq h1
   rw[if_pos q2]at hF
   cases hF
   repeat(first|refine chk.ga ?_|simp -dsimp[h1,q2])
   all_goals(try first|omega|rfl)
 ·intro _f_f104 _f_f105 ih_f104 ih_f105 e deep v z i o hF
  intro c hc Q hq
  obtain rfl:c=_:=navEq hc rfl
  refine ALoopU.know fun hk hs=> ?_
  have b11:=hk 11
  simp -dsimp at b11
  have b46:=hk 46
  simp -dsimp at b46
  have d1:=hs 1 _ rfl
  simp -dsimp[Blk.bnd]at d1
  clear hk hs
  refine ALoopU.enter ?_
  repeat(first|refine chk.ga ?_|simp -dsimp)
  refine abr.split (fun h11=> ?_) (fun h11=> ?_)
  ·have q12:(i<e.kids.length):=auq h11
   have z13:((i:Int)<(e.kids.length:Int)):=auz
   rw[if_pos q12]at hF
   have hF:=ob hF;obtain⟨x,e14,hF⟩:=hF
   have le14:=lt_of_get e14
   repeat(first|refine chk.ga ?_|simp -dsimp[h11,z13,↓e14])
   refine ADraw.eff [46] [(0,0),(0,0),(0,0),(0,0),(0,0),(0,0),(0,0),(0,0),(0,0),(0,1),(1,1)] [1,1,1,1,1,1,1,1,1,1,1] follows (by kernel_rfl) (by kernel_rfl) (by kernel_rfl) ?_
   have hF:=ob hF;obtain⟨x15,e16,hF⟩:=hF
   have le16:=lt_of_get e16
   repeat(first|refine chk.ga ?_|simp -dsimp[h11,z13,↓e14,↓e16])
   have hF:=ob hF;obtain⟨v17,e18,hF⟩:=hF
   refine((ih_f104 x15 x (IntKind.i64.wrap (deep+1)) z v17 e18)).ego 0 rfl (by first|simp[h11,z13,↓e14,↓e16];done|simp_all) (by simp) (by first|simp[h11,z13,↓e14,↓e16];done|simp_all) ?_
   repeat(first|refine chk.ga ?_|simp -dsimp[h11,z13,↓e14,↓e16])
   refine abr.split (fun h19=> ?_) (fun h19=> ?_)
   ·have q20:¬(v17.1=true):=auq h19
    rw[if_neg q20]at hF
    cases hF
    repeat(first|refine chk.ga ?_|simp -dsimp[h11,z13,↓e14,↓e16,h19,q20])
    refine Leave.go _ (Gh.refl _) (hq _ ?_)
    repeat(first|refine chk.ga ?_|simp -dsimp[h11,z13,↓e14,↓e16,h19,q20])
   ·have q20:(v17.1=true):=auq h19
    rw[if_pos q20]at hF
    have w21:IntKind.i64.wrap ((i:Int)+1)=(i:Int)+1:=wrap_in (by omega) (by omega)
    repeat(first|refine chk.ga ?_|simp -dsimp[h11,z13,↓e14,↓e16,h19,q20,w21])
    refine Again.go _ ?_ ((ih_f105 e deep v v17.2 (i+1) o hF) _ rfl _ hq)
    exact(Gh.to3 (by simp) (by first|simp -dsimp[h11,z13,↓e14,↓e16,h19,q20,w21];done|simp_all))
  ·have q12:¬(i<e.kids.length):=auq h11
   have z13:¬((i:Int)<(e.kids.length:Int)):=auz
   rw[if_neg q12]at hF
   cases hF
   repeat(first|refine chk.ga ?_|simp -dsimp[h11,q12,z13])
   refine Leave.go ⟨[],[.cells [.lit (.int .i64 z)]]⟩ (Gh.to3 (by simp) (by first|simp -dsimp[h11,q12,z13];done|simp_all)) ?_
   exact hq
theorem C.f106 (s:Vl.T_impl_scope)(t:Vl.Ty)(e:Vl.Expr)(r:Bool)(hF:F.f106 s t e=some r):PureCall Tryz.prog B 23 [.agg [.arr (List.map Vl.Data.c s.f0),.arr (List.map Vl.FunType.c s.f1),.arr (List.map Vl.VarType.c s.f2)],.agg [.lit (.int .i64 t.data),.lit (.int .i64 t.index)],.agg [.lit (.int .i64 e.op),.lit (.int .i64 e.n),.lit (.int .i64 e.ctor),.arr (List.map Vl.Expr.c e.kids)]] (.lit (.bool r)):=by
 unfold F.f106 at hF
 refine PureCall.enterLe Tryz.func23 (by kernel_rfl) rfl Tryz.ntmps23 (by simp) (by simp) ?_
 repeat(first|refine chk.ga ?_|simp -dsimp)
 have hF:=ob hF;obtain⟨v,e1,hF⟩:=hF
 refine(((CC.f104 B hB1 hB2 s).1 t e (1:Int) (0:Int) v e1)).go 3 rfl (by simp) (by simp) (by simp) ?_
 cases hF
 repeat(first|refine chk.ga ?_|simp -dsimp)
 all_goals(try first|omega|rfl)
theorem C.f107 (w:List Vl.Data)(funs:List Vl.FunType)(vars:List Vl.VarType)(t:Vl.Ty)(e:Vl.Expr)(r:Bool)(hF:F.f107 w funs vars t e=some r):PureCall Tryz.prog B 6 [.arr (List.map Vl.Data.c w),.arr (List.map Vl.FunType.c funs),.arr (List.map Vl.VarType.c vars),.agg [.lit (.int .i64 t.data),.lit (.int .i64 t.index)],.agg [.lit (.int .i64 e.op),.lit (.int .i64 e.n),.lit (.int .i64 e.ctor),.arr (List.map Vl.Expr.c e.kids)]] (.lit (.bool r)):=by
 unfold F.f107 at hF
 refine PureCall.enterLe Tryz.func6 (by kernel_rfl) rfl Tryz.ntmps6 (by simp) (by simp) ?_
 repeat(first|refine chk.ga ?_|simp -dsimp)
 have hF:=ob hF;obtain⟨v,e1,hF⟩:=hF
 refine((C.f82 B hB1 hB2 w t v e1)).goW (by simp) (by simp) ?_
 repeat(first|refine chk.ga ?_|simp -dsimp)
 refine abr.split (fun h2=> ?_) (fun h2=> ?_)
 ·have q3:(v=true):=auq h2
  rw[if_pos q3]at hF
  repeat(first|refine chk.ga ?_|simp -dsimp[h2])
  have hF:=ob hF;obtain⟨v4,e5,hF⟩:=hF
  refine((C.f89 B hB1 hB2 (⟨w,funs,vars⟩:Vl.T_impl_scope) v4 e5)).goW (by first|simp[h2];done|simp_all) (by simp) ?_
  repeat(first|refine chk.ga ?_|simp -dsimp[h2])
  refine abr.split (fun h6=> ?_) (fun h6=> ?_)
  ·have q7:(v4=true):=auq h6
   rw[if_pos q7]at hF
   repeat(first|refine chk.ga ?_|simp -dsimp[h2,h6])
   have hF:=ob hF;obtain⟨v8,e9,hF⟩:=hF
   refine((C.f106 B hB1 hB2 (⟨w,funs,vars⟩:Vl.T_impl_scope) t e v8 e9)).goW (by first|simp[h2,h6];done|simp_all) (by simp) ?_
   cases hF
   repeat(first|refine chk.ga ?_|simp -dsimp[h2,h6])
   all_goals(try first|omega|rfl)
  ·have q7:¬(v4=true):=auq h6
   rw[if_neg q7]at hF
   cases hF
   repeat(first|refine chk.ga ?_|simp -dsimp[h2,h6,q7])
   all_goals(try first|omega|rfl)
 ·have q3:¬(v=true):=auq h2
  rw[if_neg q3]at hF
  cases hF
  repeat(first|refine chk.ga ?_|simp -dsimp[h2,q3])
  all_goals(try first|omega|rfl)
theorem C.f108 (w:List Vl.Data)(t:Vl.Ty)(r:Bool)(hF:F.f108 w t=some r):PureCall Tryz.prog B 71 [.arr (List.map Vl.Data.c w),.agg [.lit (.int .i64 t.data),.lit (.int .i64 t.index)]] (.lit (.bool r)):=by
 unfold F.f108 at hF
 refine PureCall.enterLe Tryz.func71 (by kernel_rfl) rfl Tryz.ntmps71 (by simp) (by simp) ?_
 repeat(first|refine chk.ga ?_|simp -dsimp)
 have hF:=ob hF;obtain⟨v,e1,hF⟩:=hF
 refine((C.f15 B hB1 hB2 (w.length:Int) t v e1)).goW (by simp) (by simp) ?_
 repeat(first|refine chk.ga ?_|simp -dsimp)
 refine abr.split (fun h2=> ?_) (fun h2=> ?_)
 ·have q3:(v=true):=auq h2
  rw[if_pos q3]at hF
  cases hF
  repeat(first|refine chk.ga ?_|simp -dsimp[h2])
  all_goals(try first|omega|rfl)
 ·have q3:¬(v=true):=auq h2
  rw[if_neg q3]at hF
  cases hF
  repeat(first|refine chk.ga ?_|simp -dsimp[h2,q3])
  all_goals(try first|omega|rfl)
theorem C.f109 (w:List Vl.Data)(t:Vl.Ty)(r:Bool)(hF:F.f109 w t=some r):PureCall Tryz.prog B 47 [.arr (List.map Vl.Data.c w),.agg [.lit (.int .i64 t.data),.lit (.int .i64 t.index)]] (.lit (.bool r)):=by
 unfold F.f109 at hF
 refine PureCall.enterLe Tryz.func47 (by kernel_rfl) rfl Tryz.ntmps47 (by simp) (by simp) ?_
 repeat(first|refine chk.ga ?_|simp -dsimp)
 have hF:=ob hF;obtain⟨v,e1,hF⟩:=hF
 refine((C.f24 B hB1 hB2 w v e1)).goW (by simp) (by simp) ?_
 repeat(first|refine chk.ga ?_|simp -dsimp)
 refine abr.split (fun h2=> ?_) (fun h2=> ?_)
 ·have q3:(v=true):=auq h2
  rw[if_pos q3]at hF
  repeat(first|refine chk.ga ?_|simp -dsimp[h2])
  have hF:=ob hF;obtain⟨v4,e5,hF⟩:=hF
  refine((C.f108 B hB1 hB2 w t v4 e5)).goW (by first|simp[h2];done|simp_all) (by simp) ?_
  cases hF
  repeat(first|refine chk.ga ?_|simp -dsimp[h2])
  all_goals(try first|omega|rfl)
 ·have q3:¬(v=true):=auq h2
  rw[if_neg q3]at hF
  cases hF
  repeat(first|refine chk.ga ?_|simp -dsimp[h2,q3])
  all_goals(try first|omega|rfl)
theorem CC.f110 (w:List Vl.Data)(funs:List Vl.FunType):(∀(i:Nat) (o:Lo Bool Unit),F.f110 w funs i=some o→∀(c:Code),navO [1,0,1,0,0] (bodyOf Tryz.f48)=some c→∀(Q:Exit→ASt→Prop),o.post (fun r=>∀st,Post Tryz.prog Tryz.f48 (fun r' _=>r'.le (.lit (.bool r))) .ret st→Q .ret st) (fun s=>Q (.exit 0) ⟨[(1,.arr (List.map Vl.FunType.c funs))],[]⟩)→ALoopU Tryz.prog B 0 37 (hold c .mk) ⟨[(0,.arr (List.map Vl.Data.c w)),(1,.arr (List.map Vl.FunType.c funs)),(5,.lit (.int .i64 (i:Int)))],[]⟩ (hold Q .mk)):=by
 refine F.f110.partial_correctness w funs
  _
  ?_
 ·intro _f_f110 ih_f110 i o hF
  intro c hc Q hq
  obtain rfl:c=_:=navEq hc rfl
  refine ALoopU.know fun hk hs=> ?_
  have b0:=hk 0
  simp -dsimp at b0
  have b1:=hk 1
  simp -dsimp at b1
  clear hk hs
  refine ALoopU.enter ?_
  repeat(first|refine chk.ga ?_|simp -dsimp)
  refine abr.split (fun h1=> ?_) (fun h1=> ?_)
  ·have q2:(i<funs.length):=auq h1
   have z3:((i:Int)<(funs.length:Int)):=auz
   rw[if_pos q2]at hF
   repeat(first|refine chk.ga ?_|simp -dsimp[h1,z3])
   refine abr.split (fun h4=> ?_) (fun h4=> ?_)
   ·have q5:(i≤4):=auq h4
    have z6:((i:Int)≤(4:Int)):=auz
    rw[if_pos q5]at hF
    have hF:=ob hF;obtain⟨x,e7,hF⟩:=hF
    have le7:=lt_of_get e7
    repeat(first|refine chk.ga ?_|simp -dsimp[h1,z3,h4,z6,↓e7])
    have hF:=ob hF;obtain⟨v,e8,hF⟩:=hF
    refine((C.f108 B hB1 hB2 w x.arg v e8)).goW (by first|simp[h1,z3,h4,z6,↓e7];done|simp_all) (by simp) ?_
    repeat(first|refine chk.ga ?_|simp -dsimp[h1,z3,h4,z6,↓e7])
    refine abr.split (fun h9=> ?_) (fun h9=> ?_)
    ·have q10:(v=true):=auq h9
     rw[if_pos q10]at hF
     repeat(first|refine chk.ga ?_|simp -dsimp[h1,z3,h4,z6,↓e7,h9])
     have hF:=ob hF;obtain⟨v11,e12,hF⟩:=hF
     refine((C.f108 B hB1 hB2 w x.res v11 e12)).goW (by first|simp[h1,z3,h4,z6,↓e7,h9];done|simp_all) (by simp) ?_
     repeat(first|refine chk.ga ?_|simp -dsimp[h1,z3,h4,z6,↓e7,h9])
     refine abr.split (fun h13=> ?_) (fun h13=> ?_)
     ·have q14:¬(v11=true):=auq h13
      rw[if_neg q14]at hF
      cases hF
      repeat(first|refine chk.ga ?_|simp -dsimp[h1,z3,h4,z6,↓e7,h9,h13,q14])
      refine Leave.go _ (Gh.refl _) (hq _ ?_)
      repeat(first|refine chk.ga ?_|simp -dsimp[h1,z3,h4,z6,↓e7,h9,h13,q14])
     ·have q14:(v11=true):=auq h13
      rw[if_pos q14]at hF
      have w15:IntKind.i64.wrap ((i:Int)+1)=(i:Int)+1:=wrap_in (by omega) (by omega)
      repeat(first|refine chk.ga ?_|simp -dsimp[h1,z3,h4,z6,↓e7,h9,h13,q14,w15])
      refine Again.go _ ?_ ((ih_f110 (i+1) o hF) _ rfl _ hq)
      exact(Gh.to3 (by simp) (by first|simp -dsimp[h1,z3,h4,z6,↓e7,h9,h13,q14,w15];done|simp_all))
    ·have q10:¬(v=true):=auq h9
     rw[if_neg q10]at hF
     cases hF
     repeat(first|refine chk.ga ?_|simp -dsimp[h1,z3,h4,z6,↓e7,h9,q10])
     refine Leave.go _ (Gh.refl _) (hq _ ?_)
     repeat(first|refine chk.ga ?_|simp -dsimp[h1,z3,h4,z6,↓e7,h9,q10])
   ·have q5:¬(i≤4):=auq h4
    have z6:¬((i:Int)≤(4:Int)):=auz
    rw[if_neg q5]at hF
    cases hF
    repeat(first|refine chk.ga ?_|simp -dsimp[h1,z3,h4,q5,z6])
    refine Leave.go ⟨[(1,.arr (List.map Vl.FunType.c funs))],[]⟩ (Gh.to3 (by simp) (by first|simp -dsimp[h1,z3,h4,q5,z6];done|simp_all)) ?_
    exact hq
  ·have q2:¬(i<funs.length):=auq h1
   have z3:¬((i:Int)<(funs.length:Int)):=auz
   rw[if_neg q2]at hF
   cases hF
   repeat(first|refine chk.ga ?_|simp -dsimp[h1,q2,z3])
   refine Leave.go ⟨[(1,.arr (List.map Vl.FunType.c funs))],[]⟩ (Gh.to3 (by simp) (by first|simp -dsimp[h1,q2,z3];done|simp_all)) ?_
   exact hq
theorem C.f111 (w:List Vl.Data)(funs:List Vl.FunType)(r:Bool)(hF:F.f111 w funs=some r):PureCall Tryz.prog B 48 [.arr (List.map Vl.Data.c w),.arr (List.map Vl.FunType.c funs)] (.lit (.bool r)):=by
 unfold F.f111 at hF
 refine PureCall.enterLe Tryz.func48 (by kernel_rfl) rfl Tryz.ntmps48 (by simp) (by simp) ?_
 repeat(first|refine chk.ga ?_|simp -dsimp)
 have hF:=ob hF;obtain⟨o',ho16,hF⟩:=hF
 refine ALoop.goU _ ?_ (((CC.f110 B hB1 hB2 w funs) 0 o' ho16) _ rfl _ ?_)
 ·exact(Gh.to3 (by simp) (by simp -dsimp))
 rcases o' with r0|sx
 ·dsimp only at hF
  cases hF
  intro st h
  simpa using h
 ·dsimp only at hF
  cases hF
  repeat(first|refine chk.ga ?_|simp -dsimp)
  all_goals(try first|omega|rfl)
theorem CC.f112 (list:List Vl.VarType)(n:Int):(∀(i:Nat) (o:Lo Int Unit),F.f112 list n i=some o→∀(c:Code),navO [1,0,1,0,0] (bodyOf Tryz.f72)=some c→∀(Q:Exit→ASt→Prop),o.post (fun r=>∀st,Post Tryz.prog Tryz.f72 (fun r' _=>r'.le (.lit (.int .i64 r))) .ret st→Q .ret st) (fun s=>Q (.exit 0) ⟨[],[]⟩)→ALoopU Tryz.prog B 0 20 (hold c .mk) ⟨[(0,.arr (List.map Vl.VarType.c list)),(1,.lit (.int .i64 n)),(5,.lit (.int .i64 (i:Int)))],[]⟩ (hold Q .mk)):=by
 refine F.f112.partial_correctness list n
  _
  ?_
 ·intro _f_f112 ih_f112 i o hF
  intro c hc Q hq
  obtain rfl:c=_:=navEq hc rfl
  refine ALoopU.know fun hk hs=> ?_
  have b0:=hk 0
  simp -dsimp at b0
  clear hk hs
  refine ALoopU.enter ?_
  repeat(first|refine chk.ga ?_|simp -dsimp)
  refine abr.split (fun h1=> ?_) (fun h1=> ?_)
  ·have q2:(i<list.length):=auq h1
   have z3:((i:Int)<(list.length:Int)):=auz
   rw[if_pos q2]at hF
   have hF:=ob hF;obtain⟨x,e4,hF⟩:=hF
   have le4:=lt_of_get e4
   repeat(first|refine chk.ga ?_|simp -dsimp[h1,z3,↓e4])
   refine abr.split (fun h5=> ?_) (fun h5=> ?_)
   ·have q6:(x.var=n):=auq h5
    rw[if_pos q6]at hF
    cases hF
    repeat(first|refine chk.ga ?_|simp -dsimp[h1,z3,↓e4,h5])
    refine Leave.go _ (Gh.refl _) (hq _ ?_)
    repeat(first|refine chk.ga ?_|simp -dsimp[h1,z3,↓e4,h5])
   ·have q6:¬(x.var=n):=auq h5
    rw[if_neg q6]at hF
    have w7:IntKind.i64.wrap ((i:Int)+1)=(i:Int)+1:=wrap_in (by omega) (by omega)
    repeat(first|refine chk.ga ?_|simp -dsimp[h1,z3,↓e4,h5,q6,w7])
    refine Again.go _ ?_ ((ih_f112 (i+1) o hF) _ rfl _ hq)
    exact(Gh.to3 (by simp) (by first|simp -dsimp[h1,z3,↓e4,h5,q6,w7];done|simp_all))
  ·have q2:¬(i<list.length):=auq h1
   have z3:¬((i:Int)<(list.length:Int)):=auz
   rw[if_neg q2]at hF
   cases hF
   repeat(first|refine chk.ga ?_|simp -dsimp[h1,q2,z3])
   refine Leave.go ⟨[],[]⟩ (Gh.to3 (by simp) (by first|simp -dsimp[h1,q2,z3];done|simp_all)) ?_
   exact hq
theorem C.f113 (list:List Vl.VarType)(n:Int)(r:Int)(hF:F.f113 list n=some r):PureCall Tryz.prog B 72 [.arr (List.map Vl.VarType.c list),.lit (.int .i64 n)] (.lit (.int .i64 r)):=by
 unfold F.f113 at hF
 refine PureCall.enterLe Tryz.func72 (by kernel_rfl) rfl Tryz.ntmps72 (by simp) (by simp) ?_
 repeat(first|refine chk.ga ?_|simp -dsimp)
 have hF:=ob hF;obtain⟨o',ho8,hF⟩:=hF
 refine ALoop.goU _ ?_ (((CC.f112 B hB1 hB2 list n) 0 o' ho8) _ rfl _ ?_)
 ·exact(Gh.to3 (by simp) (by simp -dsimp))
 rcases o' with r0|sx
 ·dsimp only at hF
  cases hF
  intro st h
  simpa using h
 ·dsimp only at hF
  cases hF
  repeat(first|refine chk.ga ?_|simp -dsimp)
  all_goals(try first|omega|rfl)
theorem CC.f114 (w:List Vl.Data)(vars:List Vl.VarType):(∀(i:Nat) (o:Lo Bool Unit),F.f114 w vars i=some o→∀(c:Code),navO [1,0,1,0,0] (bodyOf Tryz.f49)=some c→∀(Q:Exit→ASt→Prop),o.post (fun r=>∀st,Post Tryz.prog Tryz.f49 (fun r' _=>r'.le (.lit (.bool r))) .ret st→Q .ret st) (fun s=>Q (.exit 0) ⟨[],[]⟩)→ALoopU Tryz.prog B 0 47 (hold c .mk) ⟨[(0,.arr (List.map Vl.Data.c w)),(1,.arr (List.map Vl.VarType.c vars)),(5,.lit (.int .i64 (i:Int)))],[]⟩ (hold Q .mk)):=by
 refine F.f114.partial_correctness w vars
  _
  ?_
 ·intro _f_f114 ih_f114 i o hF
  intro c hc Q hq
  obtain rfl:c=_:=navEq hc rfl
  refine ALoopU.know fun hk hs=> ?_
  have b0:=hk 0
  simp -dsimp at b0
  have b1:=hk 1
  simp -dsimp at b1
  clear hk hs
  refine ALoopU.enter ?_
  repeat(first|refine chk.ga ?_|simp -dsimp)
  refine abr.split (fun h1=> ?_) (fun h1=> ?_)
  ·have q2:(i<vars.length):=auq h1
   have z3:((i:Int)<(vars.length:Int)):=auz
   rw[if_pos q2]at hF
   have hF:=ob hF;obtain⟨x,e4,hF⟩:=hF
   have le4:=lt_of_get e4
   repeat(first|refine chk.ga ?_|simp -dsimp[h1,z3,↓e4])
   refine abr.split (fun h5=> ?_) (fun h5=> ?_)
   ·have q6:¬(x.var<0):=auq h5
    rw[if_neg q6]at hF
    repeat(first|refine chk.ga ?_|simp -dsimp[h1,z3,↓e4,h5,q6])
    refine abr.split (fun h7=> ?_) (fun h7=> ?_)
    ·have q8:¬(5<x.var):=auq h7
     rw[if_neg q8]at hF
     repeat(first|refine chk.ga ?_|simp -dsimp[h1,z3,↓e4,h5,q6,h7,q8])
     have hF:=ob hF;obtain⟨v,e9,hF⟩:=hF
     refine((C.f108 B hB1 hB2 w x.type v e9)).goW (by first|simp[h1,z3,↓e4,h5,q6,h7,q8];done|simp_all) (by simp) ?_
     repeat(first|refine chk.ga ?_|simp -dsimp[h1,z3,↓e4,h5,q6,h7,q8])
     refine abr.split (fun h10=> ?_) (fun h10=> ?_)
     ·have q11:(v=true):=auq h10
      rw[if_pos q11]at hF
      repeat(first|refine chk.ga ?_|simp -dsimp[h1,z3,↓e4,h5,q6,h7,q8,h10])
      have hF:=ob hF;obtain⟨v12,e13,hF⟩:=hF
      refine((C.f113 B hB1 hB2 vars x.var v12 e13)).goW (by first|simp[h1,z3,↓e4,h5,q6,h7,q8,h10];done|simp_all) (by simp) ?_
      repeat(first|refine chk.ga ?_|simp -dsimp[h1,z3,↓e4,h5,q6,h7,q8,h10])
      refine abr.split (fun h14=> ?_) (fun h14=> ?_)
      ·have q15:¬(v12=(i:Int)):=auq h14
       rw[if_neg q15]at hF
       cases hF
       repeat(first|refine chk.ga ?_|simp -dsimp[h1,z3,↓e4,h5,q6,h7,q8,h10,h14,q15])
       refine Leave.go _ (Gh.refl _) (hq _ ?_)
       repeat(first|refine chk.ga ?_|simp -dsimp[h1,z3,↓e4,h5,q6,h7,q8,h10,h14,q15])
      ·have q15:(v12=(i:Int)):=auq h14
       rw[if_pos q15]at hF
       have w16:IntKind.i64.wrap ((i:Int)+1)=(i:Int)+1:=wrap_in (by omega) (by omega)
       repeat(first|refine chk.ga ?_|simp -dsimp[h1,z3,↓e4,h5,q6,h7,q8,h10,h14,q15,w16])
       refine Again.go _ ?_ ((ih_f114 (i+1) o hF) _ rfl _ hq)
       exact(Gh.to3 (by simp) (by first|simp -dsimp[h1,z3,↓e4,h5,q6,h7,q8,h10,h14,q15,w16];done|simp_all))
     ·have q11:¬(v=true):=auq h10
      rw[if_neg q11]at hF
      cases hF
      repeat(first|refine chk.ga ?_|simp -dsimp[h1,z3,↓e4,h5,q6,h7,q8,h10,q11])
      refine Leave.go _ (Gh.refl _) (hq _ ?_)
      repeat(first|refine chk.ga ?_|simp -dsimp[h1,z3,↓e4,h5,q6,h7,q8,h10,q11])
    ·have q8:(5<x.var):=auq h7
     rw[if_pos q8]at hF
     cases hF
     repeat(first|refine chk.ga ?_|simp -dsimp[h1,z3,↓e4,h5,q6,h7,q8])
     refine Leave.go _ (Gh.refl _) (hq _ ?_)
     repeat(first|refine chk.ga ?_|simp -dsimp[h1,z3,↓e4,h5,q6,h7,q8])
   ·have q6:(x.var<0):=auq h5
    rw[if_pos q6]at hF
    cases hF
    repeat(first|refine chk.ga ?_|simp -dsimp[h1,z3,↓e4,h5,q6])
    refine Leave.go _ (Gh.refl _) (hq _ ?_)
    repeat(first|refine chk.ga ?_|simp -dsimp[h1,z3,↓e4,h5,q6])
  ·have q2:¬(i<vars.length):=auq h1
   have z3:¬((i:Int)<(vars.length:Int)):=auz
   rw[if_neg q2]at hF
   cases hF
   repeat(first|refine chk.ga ?_|simp -dsimp[h1,q2,z3])
   refine Leave.go ⟨[],[]⟩ (Gh.to3 (by simp) (by first|simp -dsimp[h1,q2,z3];done|simp_all)) ?_
   exact hq
theorem C.f115 (w:List Vl.Data)(vars:List Vl.VarType)(r:Bool)(hF:F.f115 w vars=some r):PureCall Tryz.prog B 49 [.arr (List.map Vl.Data.c w),.arr (List.map Vl.VarType.c vars)] (.lit (.bool r)):=by
 unfold F.f115 at hF
 refine PureCall.enterLe Tryz.func49 (by kernel_rfl) rfl Tryz.ntmps49 (by simp) (by simp) ?_
 repeat(first|refine chk.ga ?_|simp -dsimp)
 have hF:=ob hF;obtain⟨o',ho17,hF⟩:=hF
 refine ALoop.goU _ ?_ (((CC.f114 B hB1 hB2 w vars) 0 o' ho17) _ rfl _ ?_)
 ·exact(Gh.to3 (by simp) (by simp -dsimp))
 rcases o' with r0|sx
 ·dsimp only at hF
  cases hF
  intro st h
  simpa using h
 ·dsimp only at hF
  cases hF
  repeat(first|refine chk.ga ?_|simp -dsimp)
  all_goals(try first|omega|rfl)
theorem C.f116 (w:List Vl.Data)(funs:List Vl.FunType)(vars:List Vl.VarType)(t:Vl.Ty)(r:Bool)(hF:F.f116 w funs vars t=some r):PureCall Tryz.prog B 24 [.arr (List.map Vl.Data.c w),.arr (List.map Vl.FunType.c funs),.arr (List.map Vl.VarType.c vars),.agg [.lit (.int .i64 t.data),.lit (.int .i64 t.index)]] (.lit (.bool r)):=by
 unfold F.f116 at hF
 refine PureCall.enterLe Tryz.func24 (by kernel_rfl) rfl Tryz.ntmps24 (by simp) (by simp) ?_
 repeat(first|refine chk.ga ?_|simp -dsimp)
 have hF:=ob hF;obtain⟨v,e1,hF⟩:=hF
 refine((C.f109 B hB1 hB2 w t v e1)).goW (by simp) (by simp) ?_
 repeat(first|refine chk.ga ?_|simp -dsimp)
 refine abr.split (fun h2=> ?_) (fun h2=> ?_)
 ·have q3:(v=true):=auq h2
  rw[if_pos q3]at hF
  repeat(first|refine chk.ga ?_|simp -dsimp[h2])
  have hF:=ob hF;obtain⟨v4,e5,hF⟩:=hF
  refine((C.f111 B hB1 hB2 w funs v4 e5)).goW (by first|simp[h2];done|simp_all) (by simp) ?_
  repeat(first|refine chk.ga ?_|simp -dsimp[h2])
  refine abr.split (fun h6=> ?_) (fun h6=> ?_)
  ·have q7:(v4=true):=auq h6
   rw[if_pos q7]at hF
   repeat(first|refine chk.ga ?_|simp -dsimp[h2,h6])
   have hF:=ob hF;obtain⟨v8,e9,hF⟩:=hF
   refine((C.f115 B hB1 hB2 w vars v8 e9)).goW (by first|simp[h2,h6];done|simp_all) (by simp) ?_
   cases hF
   repeat(first|refine chk.ga ?_|simp -dsimp[h2,h6])
   all_goals(try first|omega|rfl)
  ·have q7:¬(v4=true):=auq h6
   rw[if_neg q7]at hF
   cases hF
   repeat(first|refine chk.ga ?_|simp -dsimp[h2,h6,q7])
   all_goals(try first|omega|rfl)
 ·have q3:¬(v=true):=auq h2
  rw[if_neg q3]at hF
  cases hF
  repeat(first|refine chk.ga ?_|simp -dsimp[h2,q3])
  all_goals(try first|omega|rfl)
theorem CC.f117 (list:List Int)(n:Int):(∀(i:Nat) (o:Lo Bool Unit),F.f117 list n i=some o→∀(c:Code),navO [1,0,1,0,0] (bodyOf Tryz.f96)=some c→∀(Q:Exit→ASt→Prop),o.post (fun r=>∀st,Post Tryz.prog Tryz.f96 (fun r' _=>r'.le (.lit (.bool r))) .ret st→Q .ret st) (fun s=>Q (.exit 0) ⟨[],[]⟩)→ALoopU Tryz.prog B 0 18 (hold c .mk) ⟨[(0,.arr (List.map cI list)),(1,.lit (.int .i64 n)),(5,.lit (.int .i64 (i:Int)))],[]⟩ (hold Q .mk)):=by
 refine F.f117.partial_correctness list n
  _
  ?_
 ·intro _f_f117 ih_f117 i o hF
  intro c hc Q hq
  obtain rfl:c=_:=navEq hc rfl
  refine ALoopU.know fun hk hs=> ?_
  have b0:=hk 0
  simp -dsimp at b0
  clear hk hs
  refine ALoopU.enter ?_
  repeat(first|refine chk.ga ?_|simp -dsimp)
  refine abr.split (fun h1=> ?_) (fun h1=> ?_)
  ·have q2:(i<list.length):=auq h1
   have z3:((i:Int)<(list.length:Int)):=auz
   rw[if_pos q2]at hF
   have hF:=ob hF;obtain⟨x,e4,hF⟩:=hF
   have le4:=lt_of_get e4
   repeat(first|refine chk.ga ?_|simp -dsimp[h1,z3,↓e4])
   refine abr.split (fun h5=> ?_) (fun h5=> ?_)
   ·have q6:(x=n):=auq h5
    rw[if_pos q6]at hF
    cases hF
    repeat(first|refine chk.ga ?_|simp -dsimp[h1,z3,↓e4,h5])
    refine Leave.go _ (Gh.refl _) (hq _ ?_)
    repeat(first|refine chk.ga ?_|simp -dsimp[h1,z3,↓e4,h5])
   ·have q6:¬(x=n):=auq h5
    rw[if_neg q6]at hF
    have w7:IntKind.i64.wrap ((i:Int)+1)=(i:Int)+1:=wrap_in (by omega) (by omega)
    repeat(first|refine chk.ga ?_|simp -dsimp[h1,z3,↓e4,h5,q6,w7])
    refine Again.go _ ?_ ((ih_f117 (i+1) o hF) _ rfl _ hq)
    exact(Gh.to3 (by simp) (by first|simp -dsimp[h1,z3,↓e4,h5,q6,w7];done|simp_all))
  ·have q2:¬(i<list.length):=auq h1
   have z3:¬((i:Int)<(list.length:Int)):=auz
   rw[if_neg q2]at hF
   cases hF
   repeat(first|refine chk.ga ?_|simp -dsimp[h1,q2,z3])
   refine Leave.go ⟨[],[]⟩ (Gh.to3 (by simp) (by first|simp -dsimp[h1,q2,z3];done|simp_all)) ?_
   exact hq
theorem C.f118 (list:List Int)(n:Int)(r:Bool)(hF:F.f118 list n=some r):PureCall Tryz.prog B 96 [.arr (List.map cI list),.lit (.int .i64 n)] (.lit (.bool r)):=by
 unfold F.f118 at hF
 refine PureCall.enterLe Tryz.func96 (by kernel_rfl) rfl Tryz.ntmps96 (by simp) (by simp) ?_
 repeat(first|refine chk.ga ?_|simp -dsimp)
 have hF:=ob hF;obtain⟨o',ho8,hF⟩:=hF
 refine ALoop.goU _ ?_ (((CC.f117 B hB1 hB2 list n) 0 o' ho8) _ rfl _ ?_)
 ·exact(Gh.to3 (by simp) (by simp -dsimp))
 rcases o' with r0|sx
 ·dsimp only at hF
  cases hF
  intro st h
  simpa using h
 ·dsimp only at hF
  cases hF
  repeat(first|refine chk.ga ?_|simp -dsimp)
  all_goals(try first|omega|rfl)
theorem C.f119 (w:List Vl.Data)(funs:List Vl.FunType)(vars:List Vl.VarType)(t:Vl.Ty)(e:Vl.Expr)(r:(List Vl.Ty)×Bool)(hF:F.f119 w funs vars t e=some r):PureCall Tryz.prog B 73 [.arr (List.map Vl.Data.c w),.arr (List.map Vl.FunType.c funs),.arr (List.map Vl.VarType.c vars),.agg [.lit (.int .i64 t.data),.lit (.int .i64 t.index)],.agg [.lit (.int .i64 e.op),.lit (.int .i64 e.n),.lit (.int .i64 e.ctor),.arr (List.map Vl.Expr.c e.kids)]] (.tup [.arr (List.map Vl.Ty.c r.1),.lit (.bool r.2)]):=by
 unfold F.f119 at hF
 refine PureCall.enterLe Tryz.func73 (by kernel_rfl) rfl Tryz.ntmps73 (by simp) (by simp) ?_
 repeat(first|refine chk.ga ?_|simp -dsimp)
 refine abr.split (fun h1=> ?_) (fun h1=> ?_)
 ·have q2:¬(e.op=3):=auq h1
  rw[if_neg q2]at hF
  repeat(first|refine chk.ga ?_|simp -dsimp[h1,q2])
  refine abr.split (fun h3=> ?_) (fun h3=> ?_)
  ·have q4:(e.ctor=0):=auq h3
   rw[if_pos q4]at hF
   repeat(first|refine chk.ga ?_|simp -dsimp[h1,q2,h3])
   refine abr.split (fun h5=> ?_) (fun h5=> ?_)
   ·have q6:(e.op=4):=auq h5
    rw[if_pos q6]at hF
    repeat(first|refine chk.ga ?_|simp -dsimp[h1,q2,h3,h5])
    refine abr.split (fun h7=> ?_) (fun h7=> ?_)
    ·have q8:¬(e.n=0):=auq h7
     rw[if_neg q8]at hF
     cases hF
     repeat(first|refine chk.ga ?_|simp -dsimp[h1,q2,h3,h5,h7,q8])
     all_goals(try first|omega|rfl)
    ·have q8:(e.n=0):=auq h7
     rw[if_pos q8]at hF
     have n9:¬(e.op=1):=by omega
     have n10:¬(e.op=2):=by omega
     repeat(first|refine chk.ga ?_|simp -dsimp[h1,q2,h3,h5,h7,q8,n9,n10])
     refine ADraw.eff [] [(0,0),(0,0),(0,1),(0,1),(0,1),(0,1),(1,1),(1,1)] [1,1,1,2,2,1,1,1] follows (by kernel_rfl) (by kernel_rfl) (by kernel_rfl) ?_
     cases hF
     repeat(first|refine chk.ga ?_|simp -dsimp[h1,q2,h3,h5,h7,q8,n9,n10])
     all_goals(try first|omega|rfl)
   ·have q6:¬(e.op=4):=auq h5
    rw[if_neg q6]at hF
    repeat(first|refine chk.ga ?_|simp -dsimp[h1,q2,h3,h5,q6])
    refine abr.split (fun h11=> ?_) (fun h11=> ?_)
    ·have q12:(e.op=1):=auq h11
     rw[if_pos q12]at hF
     repeat(first|refine chk.ga ?_|simp -dsimp[h1,q2,h3,h5,q6,h11])
     refine ADraw.eff [] [(0,1),(0,1),(0,1),(0,1),(0,1),(0,1),(0,1),(0,1),(0,1),(0,1),(0,1),(0,1),(0,1),(0,1),(1,1),(1,1)] [1,2,2,1,1,0,2,1,1,1,0,2,1,1,1,1] follows (by kernel_rfl) (by kernel_rfl) (by kernel_rfl) ?_
     repeat(first|refine chk.ga ?_|simp -dsimp[h1,q2,h3,h5,q6,h11])
     refine abr.split (fun h13=> ?_) (fun h13=> ?_)
     ·have q14:(dec (eq2 (t.data,t.index) ((-1),0))=true):=auq h13
      rw[if_pos q14]at hF
      repeat(first|refine chk.ga ?_|simp -dsimp[h1,q2,h3,h5,q6,h11,h13])
      refine abr.split (fun h15=> ?_) (fun h15=> ?_)
      ·have q16:(0≤e.n):=auq h15
       rw[if_pos q16]at hF
       cases hF
       repeat(first|refine chk.ga ?_|simp -dsimp[h1,q2,h3,h5,q6,h11,h13,h15])
       all_goals(try first|omega|rfl)
      ·have q16:¬(0≤e.n):=auq h15
       rw[if_neg q16]at hF
       cases hF
       repeat(first|refine chk.ga ?_|simp -dsimp[h1,q2,h3,h5,q6,h11,h13,h15,q16])
       all_goals(try first|omega|rfl)
     ·have q14:¬(dec (eq2 (t.data,t.index) ((-1),0))=true):=auq h13
      rw[if_neg q14]at hF
      cases hF
      repeat(first|refine chk.ga ?_|simp -dsimp[h1,q2,h3,h5,q6,h11,h13,q14])
      all_goals(try first|omega|rfl)
    ·have q12:¬(e.op=1):=auq h11
     rw[if_neg q12]at hF
     repeat(first|refine chk.ga ?_|simp -dsimp[h1,q2,h3,h5,q6,h11,q12])
     refine abr.split (fun h17=> ?_) (fun h17=> ?_)
     ·have q18:(e.op=2):=auq h17
      rw[if_pos q18]at hF
      repeat(first|refine chk.ga ?_|simp -dsimp[h1,q2,h3,h5,q6,h11,q12,h17])
      have hF:=ob hF;obtain⟨v,e19,hF⟩:=hF
      refine((C.f113 B hB1 hB2 vars e.n v e19)).goW (by first|simp[h1,q2,h3,h5,q6,h11,q12,h17];done|simp_all) (by simp) ?_
      repeat(first|refine chk.ga ?_|simp -dsimp[h1,q2,h3,h5,q6,h11,q12,h17])
      refine ADraw.eff [] [(0,1),(0,1),(0,1),(0,1),(0,1),(0,1),(0,1),(0,1),(0,1),(0,1),(0,1),(0,1),(1,1),(1,1)] [1,1,1,1,1,1,0,0,0,2,1,1,1,1] follows (by kernel_rfl) (by kernel_rfl) (by kernel_rfl) ?_
      repeat(first|refine chk.ga ?_|simp -dsimp[h1,q2,h3,h5,q6,h11,q12,h17])
      refine abr.split (fun h20=> ?_) (fun h20=> ?_)
      ·have q21:(0≤v):=auq h20
       rw[if_pos q21]at hF
       have hF:=ob hF;obtain⟨x,e22a,hF⟩:=hF
       have e22a:=at_some e22a;obtain⟨ne22,e22⟩:=e22a
       have le22:=lt_of_get e22
       repeat(first|refine chk.ga ?_|simp -dsimp[h1,q2,h3,h5,q6,h11,q12,h17,h20,↓e22])
       have hF:=ob hF;obtain⟨v23,e24,hF⟩:=hF
       refine((C.f60 B hB1 hB2 x.type t v23 e24)).pgoW (by first|simp[h1,q2,h3,h5,q6,h11,q12,h17,h20,↓e22];done|simp_all) (by simp) ?_
       cases hF
       repeat(first|refine chk.ga ?_|simp -dsimp[h1,q2,h3,h5,q6,h11,q12,h17,h20,↓e22])
       all_goals(try first|omega|rfl)
      ·have q21:¬(0≤v):=auq h20
       rw[if_neg q21]at hF
       cases hF
       repeat(first|refine chk.ga ?_|simp -dsimp[h1,q2,h3,h5,q6,h11,q12,h17,h20,q21])
       all_goals(try first|omega|rfl)
     ·have q18:¬(e.op=2):=auq h17
      rw[if_neg q18]at hF
      repeat(first|refine chk.ga ?_|simp -dsimp[h1,q2,h3,h5,q6,h11,q12,h17,q18])
      refine abr.split (fun h25=> ?_) (fun h25=> ?_)
      ·have q26:(e.op=5):=auq h25
       rw[if_pos q26]at hF
       repeat(first|refine chk.ga ?_|simp -dsimp[h1,q2,h3,h5,q6,h11,q12,h17,q18,h25])
       refine abr.split (fun h27=> ?_) (fun h27=> ?_)
       ·have q28:¬(e.n<0):=auq h27
        rw[if_neg q28]at hF
        repeat(first|refine chk.ga ?_|simp -dsimp[h1,q2,h3,h5,q6,h11,q12,h17,q18,h25,h27,q28])
        refine abr.split (fun h29=> ?_) (fun h29=> ?_)
        ·have q30:((funs.length:Int)≤e.n):=auq h29
         rw[if_pos q30]at hF
         cases hF
         repeat(first|refine chk.ga ?_|simp -dsimp[h1,q2,h3,h5,q6,h11,q12,h17,q18,h25,h27,q28,h29])
         all_goals(try first|omega|rfl)
        ·have q30:¬((funs.length:Int)≤e.n):=auq h29
         rw[if_neg q30]at hF
         repeat(first|refine chk.ga ?_|simp -dsimp[h1,q2,h3,h5,q6,h11,q12,h17,q18,h25,h27,q28,h29,q30])
         refine ADraw.eff [] [(0,0),(0,0),(0,0),(0,0),(0,0),(0,0),(0,1),(0,1),(0,1),(0,1),(0,1),(0,1),(0,1),(0,1),(0,1),(1,1),(1,1)] [1,1,1,1,1,1,1,1,0,2,0,0,0,2,1,1,1] follows (by kernel_rfl) (by kernel_rfl) (by kernel_rfl) ?_
         have hF:=ob hF;obtain⟨x31,e32a,hF⟩:=hF
         have e32a:=at_some e32a;obtain⟨ne32,e32⟩:=e32a
         have le32:=lt_of_get e32
         repeat(first|refine chk.ga ?_|simp -dsimp[h1,q2,h3,h5,q6,h11,q12,h17,q18,h25,h27,q28,h29,q30,↓e32])
         have hF:=ob hF;obtain⟨v33,e34,hF⟩:=hF
         refine((C.f60 B hB1 hB2 x31.res t v33 e34)).pgoW (by first|simp[h1,q2,h3,h5,q6,h11,q12,h17,q18,h25,h27,q28,h29,q30,↓e32];done|simp_all) (by simp) ?_
         cases hF
         repeat(first|refine chk.ga ?_|simp -dsimp[h1,q2,h3,h5,q6,h11,q12,h17,q18,h25,h27,q28,h29,q30,↓e32])
         all_goals(try first|omega|rfl)
       ·have q28:(e.n<0):=auq h27
        rw[if_pos q28]at hF
        cases hF
        repeat(first|refine chk.ga ?_|simp -dsimp[h1,q2,h3,h5,q6,h11,q12,h17,q18,h25,h27,q28])
        all_goals(try first|omega|rfl)
      ·have q26:¬(e.op=5):=auq h25
       rw[if_neg q26]at hF
       cases hF
       repeat(first|refine chk.ga ?_|simp -dsimp[h1,q2,h3,h5,q6,h11,q12,h17,q18,h25,q26])
       all_goals(try first|omega|rfl)
  ·have q4:¬(e.ctor=0):=auq h3
   rw[if_neg q4]at hF
   cases hF
   repeat(first|refine chk.ga ?_|simp -dsimp[h1,q2,h3,q4])
   all_goals(try first|omega|rfl)
 ·have q2:(e.op=3):=auq h1
  rw[if_pos q2]at hF
  repeat(first|refine chk.ga ?_|simp -dsimp[h1,q2])
  refine abr.split (fun h35=> ?_) (fun h35=> ?_)
  ·have q36:¬(e.n=0):=auq h35
   rw[if_neg q36]at hF
   cases hF
   repeat(first|refine chk.ga ?_|simp -dsimp[h1,q2,h35,q36])
   all_goals(try first|omega|rfl)
  ·have q36:(e.n=0):=auq h35
   rw[if_pos q36]at hF
   have n37:¬(e.op=1):=by omega
   have n38:¬(e.op=2):=by omega
   have n39:¬(e.op=4):=by omega
   repeat(first|refine chk.ga ?_|simp -dsimp[h1,q2,h35,q36,n37,n38,n39])
   refine ADraw.simple follows (by kernel_rfl) (by kernel_rfl) ?_
   repeat(first|refine chk.ga ?_|simp -dsimp[h1,q2,h35,q36,n37,n38,n39])
   have hF:=ob hF;obtain⟨v40,e41,hF⟩:=hF
   refine((C.f42 B hB1 hB2 w t v40 e41)).pgoW (by first|simp[h1,q2,h35,q36,n37,n38,n39];done|simp_all) (by simp) ?_
   repeat(first|refine chk.ga ?_|simp -dsimp[h1,q2,h35,q36,n37,n38,n39])
   have hF:=ob hF;obtain⟨v42,e43,hF⟩:=hF
   refine((C.f118 B hB1 hB2 v40 e.ctor v42 e43)).pgoW (by first|simp[h1,q2,h35,q36,n37,n38,n39];done|simp_all) (by simp) ?_
   repeat(first|refine chk.ga ?_|simp -dsimp[h1,q2,h35,q36,n37,n38,n39])
   refine abr.split (fun h44=> ?_) (fun h44=> ?_)
   ·have q45:¬(v42=true):=auq h44
    rw[if_neg q45]at hF
    cases hF
    repeat(first|refine chk.ga ?_|simp -dsimp[h1,q2,h35,q36,n37,n38,n39,h44,q45])
    all_goals(try first|omega|rfl)
   ·have q45:(v42=true):=auq h44
    rw[if_pos q45]at hF
    repeat(first|refine chk.ga ?_|simp -dsimp[h1,q2,h35,q36,n37,n38,n39,h44,q45])
    have hF:=ob hF;obtain⟨v46,e47,hF⟩:=hF
    refine((C.f45 B hB1 hB2 w t e.ctor v46 e47)).goW (by first|simp[h1,q2,h35,q36,n37,n38,n39,h44,q45];done|simp_all) (by simp) ?_
    cases hF
    repeat(first|refine chk.ga ?_|simp -dsimp[h1,q2,h35,q36,n37,n38,n39,h44,q45])
    all_goals(try first|omega|rfl)
theorem CC.f120 (w:List Vl.Data)(funs:List Vl.FunType)(vars:List Vl.VarType):(∀(t:Vl.Ty) (e:Vl.Expr) (depth:Int) (r:Bool),F.f120 w funs vars t e depth=some r→PureCall Tryz.prog B 50 [.arr (List.map Vl.Data.c w),.arr (List.map Vl.FunType.c funs),.arr (List.map Vl.VarType.c vars),.agg [.lit (.int .i64 t.data),.lit (.int .i64 t.index)],.agg [.lit (.int .i64 e.op),.lit (.int .i64 e.n),.lit (.int .i64 e.ctor),.arr (List.map Vl.Expr.c e.kids)],.lit (.int .i64 depth)] (.lit (.bool r)))∧
  (∀(e:Vl.Expr) (depth:Int) (v:(List Vl.Ty)×Bool) (i:Nat) (o:Lo Bool Unit),F.f121 w funs vars e depth v i=some o→∀(c:Code),navO [1,1,1,1,0,1,0,0] (bodyOf Tryz.f50)=some c→∀(Q:Exit→ASt→Prop),o.post (fun r=>∀st,Post Tryz.prog Tryz.f50 (fun r' _=>r'.le (.lit (.bool r))) .ret st→Q .ret st) (fun s=>Q (.exit 0) ⟨[],[]⟩)→ALoopU Tryz.prog B 0 59 (hold c .mk) ⟨[(0,.arr (List.map Vl.Data.c w)),(1,.arr (List.map Vl.FunType.c funs)),(2,.arr (List.map Vl.VarType.c vars)),(5,.lit (.int .i64 depth)),(10,.ptr 1 0),(13,.arr (List.map Vl.Ty.c v.1)),(15,.lit (.int .i64 (i:Int)))],[.dead,.cells [.lit (.int .i64 e.op),.lit (.int .i64 e.n),.lit (.int .i64 e.ctor),.arr (List.map Vl.Expr.c e.kids)]]⟩ (hold Q .mk)):=by
 refine F.f120.mutual_partial_correctness w funs vars
  _ _
  ?_ ?_
 ·intro _f_f121 ih_f121 t e depth r hF
  refine PureCall.enterLe Tryz.func50 (by kernel_rfl) rfl Tryz.ntmps50 (by simp) (by simp) ?_
  repeat(first|refine chk.ga ?_|simp -dsimp)
  refine abr.split (fun h1=> ?_) (fun h1=> ?_)
  ·have q2:(depth<1):=auq h1
   rw[if_pos q2]at hF
   cases hF
   repeat(first|refine chk.ga ?_|simp -dsimp[h1])
   all_goals(try first|omega|rfl)
  ·have q2:¬(depth<1):=auq h1
   rw[if_neg q2]at hF
   repeat(first|refine chk.ga ?_|simp -dsimp[h1,q2])
   have hF:=ob hF;obtain⟨v,e3,hF⟩:=hF
   refine((C.f119 B hB1 hB2 w funs vars t e v e3)).goW (by first|simp[h1,q2];done|simp_all) (by simp) ?_
   repeat(first|refine chk.ga ?_|simp -dsimp[h1,q2])
   refine abr.split (fun h4=> ?_) (fun h4=> ?_)
   ·have q5:(v.2=true):=auq h4
    rw[if_pos q5]at hF
    repeat(first|refine chk.ga ?_|simp -dsimp[h1,q2,h4])
    refine abr.split (fun h6=> ?_) (fun h6=> ?_)
    ·have q7:¬(e.kids.length=v.1.length):=auq h6
     have z8:¬((e.kids.length:Int)=(v.1.length:Int)):=auz
     rw[if_neg q7]at hF
     cases hF
     repeat(first|refine chk.ga ?_|simp -dsimp[h1,q2,h4,h6,q7,z8])
     all_goals(try first|omega|rfl)
    ·have q7:(e.kids.length=v.1.length):=auq h6
     have z8:((e.kids.length:Int)=(v.1.length:Int)):=auz
     rw[if_pos q7]at hF
     repeat(first|refine chk.ga ?_|simp -dsimp[h1,q2,h4,h6,q7,z8])
     have hF:=ob hF;obtain⟨o',ho20,hF⟩:=hF
     refine ALoop.goU _ ?_ ((ih_f121 e depth v 0 o' ho20) _ rfl _ ?_)
     ·exact(Gh.to3 (by simp) (by first|simp -dsimp[h1,q2,h4,h6,q7,z8];done|simp_all))
     rcases o' with r0|sx
     ·dsimp only at hF
      cases hF
      intro st h
      simpa using h
     ·dsimp only at hF
      cases hF
      repeat(first|refine chk.ga ?_|simp -dsimp)
      all_goals(try first|omega|rfl)
   ·have q5:¬(v.2=true):=auq h4
    rw[if_neg q5]at hF
    cases hF
    repeat(first|refine chk.ga ?_|simp -dsimp[h1,q2,h4,q5])
    all_goals(try first|omega|rfl)
 ·intro _f_f120 _f_f121 ih_f120 ih_f121 e depth v i o hF
  intro c hc Q hq
  obtain rfl:c=_:=navEq hc rfl
  refine ALoopU.know fun hk hs=> ?_
  have b0:=hk 0
  simp -dsimp at b0
  have b1:=hk 1
  simp -dsimp at b1
  have b2:=hk 2
  simp -dsimp at b2
  have b13:=hk 13
  simp -dsimp at b13
  have d1:=hs 1 _ rfl
  simp -dsimp[Blk.bnd]at d1
  clear hk hs
  refine ALoopU.enter ?_
  repeat(first|refine chk.ga ?_|simp -dsimp)
  refine abr.split (fun h9=> ?_) (fun h9=> ?_)
  ·have q10:(i<v.1.length):=auq h9
   have z11:((i:Int)<(v.1.length:Int)):=auz
   rw[if_pos q10]at hF
   repeat(first|refine chk.ga ?_|simp -dsimp[h9,z11])
   refine ADraw.simple follows (by kernel_rfl) (by kernel_rfl) ?_
   have hF:=ob hF;obtain⟨x,e12,hF⟩:=hF
   have le12:=lt_of_get e12
   have hF:=ob hF;obtain⟨x13,e14,hF⟩:=hF
   have le14:=lt_of_get e14
   repeat(first|refine chk.ga ?_|simp -dsimp[h9,z11,↓e12,↓e14])
   have hF:=ob hF;obtain⟨v15,e16,hF⟩:=hF
   refine((ih_f120 x x13 (IntKind.i64.wrap (depth-1)) v15 e16)).pgoW (by first|simp[h9,z11,↓e12,↓e14];done|simp_all) (by simp) ?_
   repeat(first|refine chk.ga ?_|simp -dsimp[h9,z11,↓e12,↓e14])
   refine abr.split (fun h17=> ?_) (fun h17=> ?_)
   ·have q18:¬(v15=true):=auq h17
    rw[if_neg q18]at hF
    cases hF
    repeat(first|refine chk.ga ?_|simp -dsimp[h9,z11,↓e12,↓e14,h17,q18])
    refine Leave.go _ (Gh.refl _) (hq _ ?_)
    repeat(first|refine chk.ga ?_|simp -dsimp[h9,z11,↓e12,↓e14,h17,q18])
   ·have q18:(v15=true):=auq h17
    rw[if_pos q18]at hF
    have w19:IntKind.i64.wrap ((i:Int)+1)=(i:Int)+1:=wrap_in (by omega) (by omega)
    repeat(first|refine chk.ga ?_|simp -dsimp[h9,z11,↓e12,↓e14,h17,q18,w19])
    refine Again.go _ ?_ ((ih_f121 e depth v (i+1) o hF) _ rfl _ hq)
    exact(Gh.to3 (by simp) (by first|simp -dsimp[h9,z11,↓e12,↓e14,h17,q18,w19];done|simp_all))
  ·have q10:¬(i<v.1.length):=auq h9
   have z11:¬((i:Int)<(v.1.length:Int)):=auz
   rw[if_neg q10]at hF
   cases hF
   repeat(first|refine chk.ga ?_|simp -dsimp[h9,q10,z11])
   refine Leave.go ⟨[],[]⟩ (Gh.to3 (by simp) (by first|simp -dsimp[h9,q10,z11];done|simp_all)) ?_
   exact hq
theorem CC.f122  :(∀(e:Vl.Expr) (most:Int) (r:Int),F.f122 e most=some r→PureCall Tryz.prog B 51 [.agg [.lit (.int .i64 e.op),.lit (.int .i64 e.n),.lit (.int .i64 e.ctor),.arr (List.map Vl.Expr.c e.kids)],.lit (.int .i64 most)] (.lit (.int .i64 r)))∧
  (∀(e:Vl.Expr) (most:Int) (n:Int) (i:Nat) (o:Int),F.f123 e most n i=some o→∀(c:Code),navO [1,1,0,1,0,0] (bodyOf Tryz.f51)=some c→∀(Q:Exit→ASt→Prop),(Q (.exit 0) ⟨[(5,.lit (.int .i64 o))],[]⟩)→ALoopU Tryz.prog B 0 31 (hold c .mk) ⟨[(1,.lit (.int .i64 most)),(2,.ptr 0 0),(5,.lit (.int .i64 n)),(6,.lit (.int .i64 (i:Int)))],[.cells [.lit (.int .i64 e.op),.lit (.int .i64 e.n),.lit (.int .i64 e.ctor),.arr (List.map Vl.Expr.c e.kids)]]⟩ (hold Q .mk)):=by
 refine F.f122.mutual_partial_correctness 
  _ _
  ?_ ?_
 ·intro _f_f123 ih_f123 e most r hF
  refine PureCall.enterLe Tryz.func51 (by kernel_rfl) rfl Tryz.ntmps51 (by simp) (by simp) ?_
  repeat(first|refine chk.ga ?_|simp -dsimp)
  have hF:=ob hF;obtain⟨o',ho9,hF⟩:=hF
  refine ALoop.goU _ ?_ ((ih_f123 e most (1:Int) 0 o' ho9) _ rfl _ ?_)
  ·exact(Gh.to3 (by simp) (by simp -dsimp))
  cases hF
  repeat(first|refine chk.ga ?_|simp -dsimp)
  all_goals(try first|omega|rfl)
 ·intro _f_f122 _f_f123 ih_f122 ih_f123 e most n i o hF
  intro c hc Q hq
  obtain rfl:c=_:=navEq hc rfl
  refine ALoopU.know fun hk hs=> ?_
  have d0:=hs 0 _ rfl
  simp -dsimp[Blk.bnd]at d0
  clear hk hs
  refine ALoopU.enter ?_
  repeat(first|refine chk.ga ?_|simp -dsimp)
  refine abr.split (fun h1=> ?_) (fun h1=> ?_)
  ·have q2:(i<e.kids.length):=auq h1
   have z3:((i:Int)<(e.kids.length:Int)):=auz
   rw[if_pos q2]at hF
   repeat(first|refine chk.ga ?_|simp -dsimp[h1,z3])
   refine abr.split (fun h4=> ?_) (fun h4=> ?_)
   ·have q5:(n≤most):=auq h4
    rw[if_pos q5]at hF
    have hF:=ob hF;obtain⟨x,e6,hF⟩:=hF
    have le6:=lt_of_get e6
    repeat(first|refine chk.ga ?_|simp -dsimp[h1,z3,h4,↓e6])
    have hF:=ob hF;obtain⟨v,e7,hF⟩:=hF
    refine((ih_f122 x (IntKind.i64.wrap (most-n)) v e7)).goW (by first|simp[h1,z3,h4,↓e6];done|simp_all) (by simp) ?_
    have w8:IntKind.i64.wrap ((i:Int)+1)=(i:Int)+1:=wrap_in (by omega) (by omega)
    repeat(first|refine chk.ga ?_|simp -dsimp[h1,z3,h4,↓e6,w8])
    refine Again.go _ ?_ ((ih_f123 e most (IntKind.i64.wrap (n+v)) (i+1) o hF) _ rfl _ hq)
    exact(Gh.to3 (by simp) (by first|simp -dsimp[h1,z3,h4,↓e6,w8];done|simp_all))
   ·have q5:¬(n≤most):=auq h4
    rw[if_neg q5]at hF
    cases hF
    repeat(first|refine chk.ga ?_|simp -dsimp[h1,z3,h4,q5])
    refine Leave.go ⟨[(5,.lit (.int .i64 n))],[]⟩ (Gh.to3 (by simp) (by first|simp -dsimp[h1,z3,h4,q5];done|simp_all)) ?_
    exact hq
  ·have q2:¬(i<e.kids.length):=auq h1
   have z3:¬((i:Int)<(e.kids.length:Int)):=auz
   rw[if_neg q2]at hF
   cases hF
   repeat(first|refine chk.ga ?_|simp -dsimp[h1,q2,z3])
   refine Leave.go ⟨[(5,.lit (.int .i64 n))],[]⟩ (Gh.to3 (by simp) (by first|simp -dsimp[h1,q2,z3];done|simp_all)) ?_
   exact hq
theorem C.f124 (w:List Vl.Data)(funs:List Vl.FunType)(vars:List Vl.VarType)(t:Vl.Ty)(e:Vl.Expr)(r:Bool)(hF:F.f124 w funs vars t e=some r):PureCall Tryz.prog B 25 [.arr (List.map Vl.Data.c w),.arr (List.map Vl.FunType.c funs),.arr (List.map Vl.VarType.c vars),.agg [.lit (.int .i64 t.data),.lit (.int .i64 t.index)],.agg [.lit (.int .i64 e.op),.lit (.int .i64 e.n),.lit (.int .i64 e.ctor),.arr (List.map Vl.Expr.c e.kids)]] (.lit (.bool r)):=by
 unfold F.f124 at hF
 refine PureCall.enterLe Tryz.func25 (by kernel_rfl) rfl Tryz.ntmps25 (by simp) (by simp) ?_
 repeat(first|refine chk.ga ?_|simp -dsimp)
 have hF:=ob hF;obtain⟨v,e1,hF⟩:=hF
 refine(((CC.f120 B hB1 hB2 w funs vars).1 t e (10:Int) v e1)).goW (by simp) (by simp) ?_
 repeat(first|refine chk.ga ?_|simp -dsimp)
 refine abr.split (fun h2=> ?_) (fun h2=> ?_)
 ·have q3:(v=true):=auq h2
  rw[if_pos q3]at hF
  repeat(first|refine chk.ga ?_|simp -dsimp[h2])
  have hF:=ob hF;obtain⟨v4,e5,hF⟩:=hF
  refine(((CC.f122 B hB1 hB2).1 e (60:Int) v4 e5)).goW (by first|simp[h2];done|simp_all) (by simp) ?_
  cases hF
  repeat(first|refine chk.ga ?_|simp -dsimp[h2])
  all_goals(try first|omega|rfl)
 ·have q3:¬(v=true):=auq h2
  rw[if_neg q3]at hF
  cases hF
  repeat(first|refine chk.ga ?_|simp -dsimp[h2,q3])
  all_goals(try first|omega|rfl)
theorem C.f125 (w:List Vl.Data)(funs:List Vl.FunType)(vars:List Vl.VarType)(t:Vl.Ty)(e:Vl.Expr)(r:Bool)(hF:F.f125 w funs vars t e=some r):PureCall Tryz.prog B 7 [.arr (List.map Vl.Data.c w),.arr (List.map Vl.FunType.c funs),.arr (List.map Vl.VarType.c vars),.agg [.lit (.int .i64 t.data),.lit (.int .i64 t.index)],.agg [.lit (.int .i64 e.op),.lit (.int .i64 e.n),.lit (.int .i64 e.ctor),.arr (List.map Vl.Expr.c e.kids)]] (.lit (.bool r)):=by
 unfold F.f125 at hF
 refine PureCall.enterLe Tryz.func7 (by kernel_rfl) rfl Tryz.ntmps7 (by simp) (by simp) ?_
 repeat(first|refine chk.ga ?_|simp -dsimp)
 have hF:=ob hF;obtain⟨v,e1,hF⟩:=hF
 refine((C.f116 B hB1 hB2 w funs vars t v e1)).goW (by simp) (by simp) ?_
 repeat(first|refine chk.ga ?_|simp -dsimp)
 refine abr.split (fun h2=> ?_) (fun h2=> ?_)
 ·have q3:(v=true):=auq h2
  rw[if_pos q3]at hF
  repeat(first|refine chk.ga ?_|simp -dsimp[h2])
  have hF:=ob hF;obtain⟨v4,e5,hF⟩:=hF
  refine((C.f124 B hB1 hB2 w funs vars t e v4 e5)).goW (by first|simp[h2];done|simp_all) (by simp) ?_
  cases hF
  repeat(first|refine chk.ga ?_|simp -dsimp[h2])
  all_goals(try first|omega|rfl)
 ·have q3:¬(v=true):=auq h2
  rw[if_neg q3]at hF
  cases hF
  repeat(first|refine chk.ga ?_|simp -dsimp[h2,q3])
  all_goals(try first|omega|rfl)
theorem C.f126 (i:Int)(r:ByteArray)(hF:F.f126 i=some r):PureCall Tryz.prog B 53 [.lit (.int .i64 i)] (.lit (.string r)):=by
 unfold F.f126 at hF
 have hF:=oc hF;obtain⟨c1,hF⟩:=hF
 cases hF
 exact shelf_itoa Tryz.lays171 ⟨Tryz.f53,Tryz.func53,by kernel_rfl,by kernel_rfl⟩ c1.1 c1.2
theorem C.f127 (v:Int)(r:ByteArray)(hF:F.f127 v=some r):PureCall Tryz.prog B 54 [.lit (.int .i64 v)] (.lit (.string r)):=by
 unfold F.f127 at hF
 refine PureCall.enterLe Tryz.func54 (by kernel_rfl) rfl Tryz.ntmps54 (by simp) (by simp) ?_
 cases hF
 repeat(first|refine chk.ga ?_|simp -dsimp)
 all_goals(try first|omega|rfl)
theorem C.f128 (elems:List ByteArray)(sep:ByteArray)(r:ByteArray)(hF:F.f128 elems sep=some r):PureCall Tryz.prog B 79 [.arr (List.map cS elems),.lit (.string sep)] (.lit (.string r)):=by
 unfold F.f128 at hF
 have hF:=oc hF;obtain⟨c1,hF⟩:=hF
 cases hF
 exact shelf_join Tryz.lays156 Tryz.Builder_Extra_156 ⟨Tryz.f79,Tryz.func79,by kernel_rfl,by kernel_rfl⟩ c1
theorem C.f129 (list:List ByteArray)(r:ByteArray)(hF:F.f129 list=some r):PureCall Tryz.prog B 55 [.arr (List.map cS list)] (.lit (.string r)):=by
 unfold F.f129 at hF
 refine PureCall.enterLe Tryz.func55 (by kernel_rfl) rfl Tryz.ntmps55 (by simp) (by simp) ?_
 repeat(first|refine chk.ga ?_|simp -dsimp)
 refine abr.split (fun h1=> ?_) (fun h1=> ?_)
 ·have q2:(list.length=0):=auq h1
  have z3:((list.length:Int)=(0:Int)):=auz
  rw[if_pos q2]at hF
  cases hF
  repeat(first|refine chk.ga ?_|simp -dsimp[h1,z3])
  all_goals(try first|omega|rfl)
 ·have q2:¬(list.length=0):=auq h1
  have z3:¬((list.length:Int)=(0:Int)):=auz
  rw[if_neg q2]at hF
  repeat(first|refine chk.ga ?_|simp -dsimp[h1,q2,z3])
  have hF:=ob hF;obtain⟨v,e4,hF⟩:=hF
  refine((C.f128 B hB1 hB2 list (⟨#[44]⟩:ByteArray) v e4)).goW (by first|simp[h1,q2,z3];done|simp_all) (by simp) ?_
  have hF:=oc hF;obtain⟨c5,hF⟩:=hF
  have hF:=oc hF;obtain⟨c6,hF⟩:=hF
  cases hF
  repeat(first|refine chk.ga ?_|simp -dsimp[h1,q2,z3])
  all_goals(try first|omega|rfl)
theorem CC.f130 (s:Vl.T_impl_scope):(∀(t:Vl.Ty) (e:Vl.Expr) (r:ByteArray),F.f130 s t e=some r→PureCall Tryz.prog B 26 [.agg [.arr (List.map Vl.Data.c s.f0),.arr (List.map Vl.FunType.c s.f1),.arr (List.map Vl.VarType.c s.f2)],.agg [.lit (.int .i64 t.data),.lit (.int .i64 t.index)],.agg [.lit (.int .i64 e.op),.lit (.int .i64 e.n),.lit (.int .i64 e.ctor),.arr (List.map Vl.Expr.c e.kids)]] (.lit (.string r)))∧
  (∀(t:Vl.Ty) (e:Vl.Expr) (v:(List Vl.Ty)×Bool) (i:Nat) (kids:List ByteArray) (o:List ByteArray),F.f131 s t e v i kids=some o→∀(c:Code),navO [1,1,1,0,1,0,0] (bodyOf Tryz.f26)=some c→∀(Q:Exit→ASt→Prop),(Q (.exit 0) ⟨[(3,.ptr 0 0),(4,.ptr 1 0),(5,.ptr 2 0),(9,.own 3 (List.length (α:=ByteArray) o))],[.cells [.arr (List.map Vl.Data.c s.f0),.arr (List.map Vl.FunType.c s.f1),.arr (List.map Vl.VarType.c s.f2)],.cells [.lit (.int .i64 t.data),.lit (.int .i64 t.index)],.cells [.lit (.int .i64 e.op),.lit (.int .i64 e.n),.lit (.int .i64 e.ctor),.arr (List.map Vl.Expr.c e.kids)],.elems 1 (List.map cS o)]⟩)→ALoopU Tryz.prog B 0 79 (hold c .mk) ⟨[(3,.ptr 0 0),(4,.ptr 1 0),(5,.ptr 2 0),(7,.arr (List.map Vl.Ty.c v.1)),(9,.own 3 (List.length (α:=ByteArray) kids)),(20,.arr (List.map Vl.Expr.c e.kids)),(21,.lit (.int .i64 (e.kids.length:Int))),(22,.lit (.int .i64 (i:Int)))],[.cells [.arr (List.map Vl.Data.c s.f0),.arr (List.map Vl.FunType.c s.f1),.arr (List.map Vl.VarType.c s.f2)],.cells [.lit (.int .i64 t.data),.lit (.int .i64 t.index)],.cells [.lit (.int .i64 e.op),.lit (.int .i64 e.n),.lit (.int .i64 e.ctor),.arr (List.map Vl.Expr.c e.kids)],.elems 1 (List.map cS kids)]⟩ (hold Q .mk)):=by
 refine F.f130.mutual_partial_correctness s
  _ _
  ?_ ?_
 ·intro _f_f131 ih_f131 t e r hF
  refine PureCall.enterLe Tryz.func26 (by kernel_rfl) rfl Tryz.ntmps26 (by simp) (by simp) ?_
  repeat(first|refine chk.ga ?_|simp -dsimp)
  have hF:=ob hF;obtain⟨v,e1,hF⟩:=hF
  refine((C.f103 B hB1 hB2 s t e v e1)).goW (by simp) (by simp) ?_
  repeat(first|refine chk.ga ?_|simp -dsimp)
  have hF:=ob hF;obtain⟨o',ho12,hF⟩:=hF
  refine ALoop.goU ⟨[(3,.ptr 0 0),(4,.ptr 1 0),(5,.ptr 2 0),(7,.arr (List.map Vl.Ty.c v.1)),(9,.own 3 (List.length (α:=ByteArray) [])),(20,.arr (List.map Vl.Expr.c e.kids)),(21,.lit (.int .i64 (e.kids.length:Int))),(22,.lit (.int .i64 (0:Int)))],[.cells [.arr (List.map Vl.Data.c s.f0),.arr (List.map Vl.FunType.c s.f1),.arr (List.map Vl.VarType.c s.f2)],.cells [.lit (.int .i64 t.data),.lit (.int .i64 t.index)],.cells [.lit (.int .i64 e.op),.lit (.int .i64 e.n),.lit (.int .i64 e.ctor),.arr (List.map Vl.Expr.c e.kids)],.elems 1 (List.map cS [])]⟩ (by refine Gh.trans (Gh.nil 9 1 (by simp -dsimp)) ?_;exact(Gh.to3 (by simp) (by simp -dsimp))) ?_
  refine(ih_f131 t e v 0 [] o' ho12) _ rfl _ ?_
  repeat(first|refine chk.ga ?_|simp -dsimp)
  refine abr.split (fun h13=> ?_) (fun h13=> ?_)
  ·have q14:(e.op=1):=auq h13
   rw[if_pos q14]at hF
   repeat(first|refine chk.ga ?_|simp -dsimp[h13])
   have hF:=ob hF;obtain⟨v15,e16,hF⟩:=hF
   refine((C.f126 B hB1 hB2 e.n v15 e16)).goW (by first|simp[h13];done|simp_all) (by simp) ?_
   cases hF
   repeat(first|refine chk.ga ?_|simp -dsimp[h13])
   all_goals(try first|omega|rfl)
  ·have q14:¬(e.op=1):=auq h13
   rw[if_neg q14]at hF
   repeat(first|refine chk.ga ?_|simp -dsimp[h13,q14])
   refine abr.split (fun h17=> ?_) (fun h17=> ?_)
   ·have q18:(e.op=2):=auq h17
    rw[if_pos q18]at hF
    repeat(first|refine chk.ga ?_|simp -dsimp[h13,q14,h17])
    have hF:=ob hF;obtain⟨v19,e20,hF⟩:=hF
    refine((C.f127 B hB1 hB2 e.n v19 e20)).goW (by first|simp[h13,q14,h17];done|simp_all) (by simp) ?_
    cases hF
    repeat(first|refine chk.ga ?_|simp -dsimp[h13,q14,h17])
    all_goals(try first|omega|rfl)
   ·have q18:¬(e.op=2):=auq h17
    rw[if_neg q18]at hF
    repeat(first|refine chk.ga ?_|simp -dsimp[h13,q14,h17,q18])
    refine abr.split (fun h21=> ?_) (fun h21=> ?_)
    ·have q22:(e.op=3):=auq h21
     rw[if_pos q22]at hF
     repeat(first|refine chk.ga ?_|simp -dsimp[h13,q14,h17,q18,h21])
     refine ADraw.eff [55] [(0,1),(0,1),(0,1),(0,1),(0,1),(0,1),(0,1),(0,1),(0,1),(0,1),(0,1),(0,1),(0,0),(0,1),(1,1),(1,1)] [0,2,0,2,0,0,0,0,2,0,0,0,1,1,1,1] follows (by kernel_rfl) (by kernel_rfl) (by kernel_rfl) ?_
     have hF:=ob hF;obtain⟨x23,e24a,hF⟩:=hF
     have e24a:=at_some e24a;obtain⟨ne24,e24⟩:=e24a
     have le24:=lt_of_get e24
     have hF:=ob hF;obtain⟨x25,e26a,hF⟩:=hF
     have e26a:=at_some e26a;obtain⟨ne26,e26⟩:=e26a
     have le26:=lt_of_get e26
     repeat(first|refine chk.ga ?_|simp -dsimp[h13,q14,h17,q18,h21,↓e24,↓e26])
     have hF:=ob hF;obtain⟨v27,e28,hF⟩:=hF
     refine((C.f129 B hB1 hB2 o' v27 e28)).elend (by first|simp -dsimp[h13,q14,h17,q18,h21,↓e24,↓e26];done|simp_all) (by simp -dsimp) ?_
     have hF:=oc hF;obtain⟨c29,hF⟩:=hF
     cases hF
     repeat(first|refine chk.ga ?_|simp -dsimp[h13,q14,h17,q18,h21,↓e24,↓e26])
     all_goals(try first|omega|rfl)
    ·have q22:¬(e.op=3):=auq h21
     rw[if_neg q22]at hF
     repeat(first|refine chk.ga ?_|simp -dsimp[h13,q14,h17,q18,h21,q22])
     refine abr.split (fun h30=> ?_) (fun h30=> ?_)
     ·have q31:(e.op=4):=auq h30
      rw[if_pos q31]at hF
      repeat(first|refine chk.ga ?_|simp -dsimp[h13,q14,h17,q18,h21,q22,h30])
      have hF:=ob hF;obtain⟨v32,e33,hF⟩:=hF
      refine((C.f129 B hB1 hB2 o' v32 e33)).lend (by first|simp -dsimp[h13,q14,h17,q18,h21,q22,h30];done|simp_all) (by simp -dsimp) ?_
      have hF:=oc hF;obtain⟨c34,hF⟩:=hF
      cases hF
      repeat(first|refine chk.ga ?_|simp -dsimp[h13,q14,h17,q18,h21,q22,h30])
      all_goals(try first|omega|rfl)
     ·have q31:¬(e.op=4):=auq h30
      rw[if_neg q31]at hF
      repeat(first|refine chk.ga ?_|simp -dsimp[h13,q14,h17,q18,h21,q22,h30,q31])
      have hF:=ob hF;obtain⟨v35,e36,hF⟩:=hF
      refine((C.f126 B hB1 hB2 e.n v35 e36)).goW (by first|simp[h13,q14,h17,q18,h21,q22,h30,q31];done|simp_all) (by simp) ?_
      have hF:=oc hF;obtain⟨c37,hF⟩:=hF
      repeat(first|refine chk.ga ?_|simp -dsimp[h13,q14,h17,q18,h21,q22,h30,q31])
      have hF:=ob hF;obtain⟨v38,e39,hF⟩:=hF
      refine((C.f129 B hB1 hB2 o' v38 e39)).lend (by first|simp -dsimp[h13,q14,h17,q18,h21,q22,h30,q31];done|simp_all) (by simp -dsimp) ?_
      have hF:=oc hF;obtain⟨c40,hF⟩:=hF
      cases hF
      repeat(first|refine chk.ga ?_|simp -dsimp[h13,q14,h17,q18,h21,q22,h30,q31])
      all_goals(try first|omega|rfl)
 ·intro _f_f130 _f_f131 ih_f130 ih_f131 t e v i kids o hF
  intro c hc Q hq
  obtain rfl:c=_:=navEq hc rfl
  refine ALoopU.know fun hk hs=> ?_
  have b7:=hk 7
  simp -dsimp at b7
  have b20:=hk 20
  simp -dsimp at b20
  have d0:=hs 0 _ rfl
  simp -dsimp[Blk.bnd]at d0
  have d2:=hs 2 _ rfl
  simp -dsimp[Blk.bnd]at d2
  have d3:=hs 3 _ rfl
  simp -dsimp[Blk.bnd]at d3
  clear hk hs
  refine ALoopU.enter ?_
  repeat(first|refine chk.ga ?_|simp -dsimp)
  refine abr.split (fun h2=> ?_) (fun h2=> ?_)
  ·have q3:(i<e.kids.length):=auq h2
   have z4:((i:Int)<(e.kids.length:Int)):=auz
   rw[if_pos q3]at hF
   have hF:=ob hF;obtain⟨x,e5,hF⟩:=hF
   have le5:=lt_of_get e5
   repeat(first|refine chk.ga ?_|simp -dsimp[h2,z4,↓e5])
   refine ADraw.eff [] [(0,1),(0,0),(0,0),(0,0),(0,0),(0,0),(0,0),(0,2),(0,2),(0,2),(2,2)] [1,1,1,1,1,1,1,1,1,1,1] follows (by kernel_rfl) (by kernel_rfl) (by kernel_rfl) ?_
   have hF:=ob hF;obtain⟨x6,e7,hF⟩:=hF
   have le7:=lt_of_get e7
   repeat(first|refine chk.ga ?_|simp -dsimp[h2,z4,↓e5,↓e7])
   have hF:=ob hF;obtain⟨v8,e9,hF⟩:=hF
   refine((ih_f130 x6 x v8 e9)).pgoW (by first|simp[h2,z4,↓e5,↓e7];done|simp_all) (by simp) ?_
   have hF:=oc hF;obtain⟨c10,hF⟩:=hF
   have w11:IntKind.i64.wrap ((i:Int)+1)=(i:Int)+1:=wrap_in (by omega) (by omega)
   repeat(first|refine chk.ga ?_|simp -dsimp[h2,z4,↓e5,↓e7,w11])
   refine Again.go _ ?_ ((ih_f131 t e v (i+1) (kids++[v8]) o hF) _ rfl _ hq)
   exact(Gh.to3 (by simp) (by first|simp -dsimp[h2,z4,↓e5,↓e7,w11];done|simp_all))
  ·have q3:¬(i<e.kids.length):=auq h2
   have z4:¬((i:Int)<(e.kids.length:Int)):=auz
   rw[if_neg q3]at hF
   cases hF
   repeat(first|refine chk.ga ?_|simp -dsimp[h2,q3,z4])
   refine Leave.go ⟨[(3,.ptr 0 0),(4,.ptr 1 0),(5,.ptr 2 0),(9,.own 3 (List.length (α:=ByteArray) kids))],[.cells [.arr (List.map Vl.Data.c s.f0),.arr (List.map Vl.FunType.c s.f1),.arr (List.map Vl.VarType.c s.f2)],.cells [.lit (.int .i64 t.data),.lit (.int .i64 t.index)],.cells [.lit (.int .i64 e.op),.lit (.int .i64 e.n),.lit (.int .i64 e.ctor),.arr (List.map Vl.Expr.c e.kids)],.elems 1 (List.map cS kids)]⟩ (Gh.to3 (by simp) (by first|simp -dsimp[h2,q3,z4];done|simp_all)) ?_
   exact hq
theorem C.f132 (w:List Vl.Data)(funs:List Vl.FunType)(vars:List Vl.VarType)(t:Vl.Ty)(e:Vl.Expr)(r:ByteArray)(hF:F.f132 w funs vars t e=some r):PureCall Tryz.prog B 8 [.arr (List.map Vl.Data.c w),.arr (List.map Vl.FunType.c funs),.arr (List.map Vl.VarType.c vars),.agg [.lit (.int .i64 t.data),.lit (.int .i64 t.index)],.agg [.lit (.int .i64 e.op),.lit (.int .i64 e.n),.lit (.int .i64 e.ctor),.arr (List.map Vl.Expr.c e.kids)]] (.lit (.string r)):=by
 unfold F.f132 at hF
 refine PureCall.enterLe Tryz.func8 (by kernel_rfl) rfl Tryz.ntmps8 (by simp) (by simp) ?_
 repeat(first|refine chk.ga ?_|simp -dsimp)
 have hF:=ob hF;obtain⟨v,e1,hF⟩:=hF
 refine((C.f107 B hB1 hB2 w funs vars t e v e1)).goW (by simp) (by simp) ?_
 repeat(first|refine chk.ga ?_|simp -dsimp)
 refine abr.split (fun h2=> ?_) (fun h2=> ?_)
 ·have q3:¬(v=true):=auq h2
  rw[if_neg q3]at hF
  cases hF
  repeat(first|refine chk.ga ?_|simp -dsimp[h2,q3])
  all_goals(try first|omega|rfl)
 ·have q3:(v=true):=auq h2
  rw[if_pos q3]at hF
  repeat(first|refine chk.ga ?_|simp -dsimp[h2,q3])
  have hF:=ob hF;obtain⟨v4,e5,hF⟩:=hF
  refine(((CC.f130 B hB1 hB2 (⟨w,funs,vars⟩:Vl.T_impl_scope)).1 t e v4 e5)).goW (by first|simp[h2,q3];done|simp_all) (by simp) ?_
  cases hF
  repeat(first|refine chk.ga ?_|simp -dsimp[h2,q3])
  all_goals(try first|omega|rfl)
theorem C.f133 (code:List Int)(r:Bool)(hF:F.f133 code=some r):PureCall Tryz.prog B 3 [.arr (List.map cU code)] (.lit (.bool r)):=by
 unfold F.f133 at hF
 refine PureCall.enterLe Tryz.func3 (by kernel_rfl) rfl Tryz.ntmps3 (by simp) (by simp) ?_
 repeat(first|refine chk.ga ?_|simp -dsimp)
 refine abr.split (fun h1=> ?_) (fun h1=> ?_)
 ·have q2:(1048576<code.length):=auq h1
  have z3:((1048576:Int)<(code.length:Int)):=auz
  rw[if_pos q2]at hF
  cases hF
  repeat(first|refine chk.ga ?_|simp -dsimp[h1,z3])
  all_goals(try first|omega|rfl)
 ·have q2:¬(1048576<code.length):=auq h1
  have z3:¬((1048576:Int)<(code.length:Int)):=auz
  rw[if_neg q2]at hF
  repeat(first|refine chk.ga ?_|simp -dsimp[h1,q2,z3])
  have hF:=ob hF;obtain⟨v,e4,hF⟩:=hF
  refine((C.f68 B hB1 hB2 code v e4)).goW (by first|simp[h1,q2,z3];done|simp_all) (by simp) ?_
  repeat(first|refine chk.ga ?_|simp -dsimp[h1,q2,z3])
  have hF:=ob hF;obtain⟨v5,e6,hF⟩:=hF
  refine((C.f107 B hB1 hB2 v.1 v.2.1 v.2.2.1 v.2.2.2.1 v.2.2.2.2 v5 e6)).goW (by first|simp[h1,q2,z3];done|simp_all) (by simp) ?_
  repeat(first|refine chk.ga ?_|simp -dsimp[h1,q2,z3])
  have hF:=ob hF;obtain⟨v7,e8,hF⟩:=hF
  refine((C.f125 B hB1 hB2 v.1 v.2.1 v.2.2.1 v.2.2.2.1 v.2.2.2.2 v7 e8)).goW (by first|simp[h1,q2,z3];done|simp_all) (by simp) ?_
  repeat(first|refine chk.ga ?_|simp -dsimp[h1,q2,z3])
  refine abr.split (fun h9=> ?_) (fun h9=> ?_)
  ·have q10:(v5=v7):=auq h9
   rw[if_pos q10]at hF
   repeat(first|refine chk.ga ?_|simp -dsimp[h1,q2,z3,h9])
   refine abr.split (fun h11=> ?_) (fun h11=> ?_)
   ·have q12:(v5=true):=auq h11
    rw[if_pos q12]at hF
    repeat(first|refine chk.ga ?_|simp -dsimp[h1,q2,z3,h9,h11])
    refine abr.split (fun h13=> ?_) (fun h13=> ?_)
    ·have q14:(v.2.1.length=4):=auq h13
     have z15:((v.2.1.length:Int)=(4:Int)):=auz
     rw[if_pos q14]at hF
     repeat(first|refine chk.ga ?_|simp -dsimp[h1,q2,z3,h9,h11,h13,z15])
     have hF:=ob hF;obtain⟨v16,e17,hF⟩:=hF
     refine((C.f125 B hB1 hB2 v.1 v.2.1 v.2.2.1 v.2.2.2.1 v.2.2.2.2 v16 e17)).goW (by first|simp[h1,q2,z3,h9,h11,h13,z15];done|simp_all) (by simp) ?_
     cases hF
     repeat(first|refine chk.ga ?_|simp -dsimp[h1,q2,z3,h9,h11,h13,z15])
     all_goals(try first|omega|rfl)
    ·have q14:¬(v.2.1.length=4):=auq h13
     have z15:¬((v.2.1.length:Int)=(4:Int)):=auz
     rw[if_neg q14]at hF
     repeat(first|refine chk.ga ?_|simp -dsimp[h1,q2,z3,h9,h11,h13,q14,z15])
     refine ADraw.opn ?_
     refine ADraw.split [] [(0,6)] [(6,0)] 0 6 rfl rfl (by kernel_rfl) ?_ ?_
     ·refine ADraw.split [(0,6)] [(0,6),(2,6)] [(0,6),(6,2)] 2 6 rfl rfl (by kernel_rfl) ?_ ?_
      ·refine ADraw.effP [(0,6),(2,6)] [0,1,2,3,4,5,6,7,8] [] [(0,4),(0,1),(0,4),(0,2),(0,2),(0,2),(0,4),(0,4),(4,4)] [1,1,1,2,2,0,1,1,1] follows (by kernel_rfl) (by kernel_rfl) (by kernel_rfl) (by kernel_rfl) ?_
       have hF:=oc hF;obtain⟨c18,hF⟩:=hF
       have hF:=oc hF;obtain⟨c19,hF⟩:=hF
       repeat(first|refine chk.ga ?_|simp -dsimp[h1,q2,z3,h9,h11,h13,q14,z15])
       refine ADraw.eff [6,8] [(0,0),(0,0),(0,0),(0,0),(0,0),(0,3),(1,1),(1,1),(1,1),(1,1),(1,1),(1,1),(0,3),(1,2),(1,2),(1,2),(1,2),(1,2),(0,3),(3,3),(3,3),(3,3)] [1,1,1,1,1,1,1,1,1,1,1,1,1,1,1,1,2,2,1,1,1,1] follows (by kernel_rfl) (by kernel_rfl) (by kernel_rfl) ?_
       repeat(first|refine chk.ga ?_|simp -dsimp[h1,q2,z3,h9,h11,h13,q14,z15])
       have hF:=ob hF;obtain⟨v20,e21,hF⟩:=hF
       refine((C.f107 B hB1 hB2 v.1 (v.2.1++[(⟨(⟨(-1:Int),(0:Int)⟩:Vl.Ty),(⟨(-1:Int),(0:Int)⟩:Vl.Ty)⟩:Vl.FunType)]) v.2.2.1 v.2.2.2.1 v.2.2.2.2 v20 e21)).elend (by first|simp -dsimp[h1,q2,z3,h9,h11,h13,q14,z15];done|simp_all) (by simp -dsimp) ?_
       repeat(first|refine chk.ga ?_|simp -dsimp[h1,q2,z3,h9,h11,h13,q14,z15])
       refine abr.split (fun h22=> ?_) (fun h22=> ?_)
       ·have q23:(v20=true):=auq h22
        rw[if_pos q23]at hF
        repeat(first|refine chk.ga ?_|simp -dsimp[h1,q2,z3,h9,h11,h13,q14,z15,h22])
        have hF:=ob hF;obtain⟨v24,e25,hF⟩:=hF
        refine((C.f132 B hB1 hB2 v.1 (v.2.1++[(⟨(⟨(-1:Int),(0:Int)⟩:Vl.Ty),(⟨(-1:Int),(0:Int)⟩:Vl.Ty)⟩:Vl.FunType)]) v.2.2.1 v.2.2.2.1 v.2.2.2.2 v24 e25)).elend (by first|simp -dsimp[h1,q2,z3,h9,h11,h13,q14,z15,h22];done|simp_all) (by simp -dsimp) ?_
        repeat(first|refine chk.ga ?_|simp -dsimp[h1,q2,z3,h9,h11,h13,q14,z15,h22])
        have hF:=ob hF;obtain⟨v26,e27,hF⟩:=hF
        refine((C.f132 B hB1 hB2 v.1 v.2.1 v.2.2.1 v.2.2.2.1 v.2.2.2.2 v26 e27)).ego (by first|simp[h1,q2,z3,h9,h11,h13,q14,z15,h22];done|simp_all) (by simp) ?_
        cases hF
        repeat(first|refine chk.ga ?_|simp -dsimp[h1,q2,z3,h9,h11,h13,q14,z15,h22])
        all_goals(try first|omega|rfl)
       ·have q23:¬(v20=true):=auq h22
        rw[if_neg q23]at hF
        cases hF
        repeat(first|refine chk.ga ?_|simp -dsimp[h1,q2,z3,h9,h11,h13,q14,z15,h22,q23])
        all_goals(try first|omega|rfl)
      ·refine ADraw.effP [(0,6),(6,2)] [0,1,3,4,5,6,2,7,8] [] [(0,4),(0,2),(0,1),(0,1),(0,1),(0,4),(0,4),(0,4),(4,4)] [1,1,2,2,0,1,1,1,1] follows (by kernel_rfl) (by kernel_rfl) (by kernel_rfl) (by kernel_rfl) ?_
       have hF:=oc hF;obtain⟨c18,hF⟩:=hF
       have hF:=oc hF;obtain⟨c19,hF⟩:=hF
       repeat(first|refine chk.ga ?_|simp -dsimp[h1,q2,z3,h9,h11,h13,q14,z15])
       refine ADraw.eff [6,8] [(0,0),(0,0),(0,0),(0,0),(0,0),(0,3),(1,1),(1,1),(1,1),(1,1),(1,1),(1,1),(0,3),(1,2),(1,2),(1,2),(1,2),(1,2),(0,3),(3,3),(3,3),(3,3)] [1,1,1,1,1,1,1,1,1,1,1,1,1,1,1,1,2,2,1,1,1,1] follows (by kernel_rfl) (by kernel_rfl) (by kernel_rfl) ?_
       repeat(first|refine chk.ga ?_|simp -dsimp[h1,q2,z3,h9,h11,h13,q14,z15])
       have hF:=ob hF;obtain⟨v20,e21,hF⟩:=hF
       refine((C.f107 B hB1 hB2 v.1 (v.2.1++[(⟨(⟨(-1:Int),(0:Int)⟩:Vl.Ty),(⟨(-1:Int),(0:Int)⟩:Vl.Ty)⟩:Vl.FunType)]) v.2.2.1 v.2.2.2.1 v.2.2.2.2 v20 e21)).elend (by first|simp -dsimp[h1,q2,z3,h9,h11,h13,q14,z15];done|simp_all) (by simp -dsimp) ?_
       repeat(first|refine chk.ga ?_|simp -dsimp[h1,q2,z3,h9,h11,h13,q14,z15])
       refine abr.split (fun h22=> ?_) (fun h22=> ?_)
       ·have q23:(v20=true):=auq h22
        rw[if_pos q23]at hF
        repeat(first|refine chk.ga ?_|simp -dsimp[h1,q2,z3,h9,h11,h13,q14,z15,h22])
        have hF:=ob hF;obtain⟨v24,e25,hF⟩:=hF
        refine((C.f132 B hB1 hB2 v.1 (v.2.1++[(⟨(⟨(-1:Int),(0:Int)⟩:Vl.Ty),(⟨(-1:Int),(0:Int)⟩:Vl.Ty)⟩:Vl.FunType)]) v.2.2.1 v.2.2.2.1 v.2.2.2.2 v24 e25)).elend (by first|simp -dsimp[h1,q2,z3,h9,h11,h13,q14,z15,h22];done|simp_all) (by simp -dsimp) ?_
        repeat(first|refine chk.ga ?_|simp -dsimp[h1,q2,z3,h9,h11,h13,q14,z15,h22])
        have hF:=ob hF;obtain⟨v26,e27,hF⟩:=hF
        refine((C.f132 B hB1 hB2 v.1 v.2.1 v.2.2.1 v.2.2.2.1 v.2.2.2.2 v26 e27)).ego (by first|simp[h1,q2,z3,h9,h11,h13,q14,z15,h22];done|simp_all) (by simp) ?_
        cases hF
        repeat(first|refine chk.ga ?_|simp -dsimp[h1,q2,z3,h9,h11,h13,q14,z15,h22])
        all_goals(try first|omega|rfl)
       ·have q23:¬(v20=true):=auq h22
        rw[if_neg q23]at hF
        cases hF
        repeat(first|refine chk.ga ?_|simp -dsimp[h1,q2,z3,h9,h11,h13,q14,z15,h22,q23])
        all_goals(try first|omega|rfl)
     ·refine ADraw.effP [(6,0)] [1,3,4,5,6,0,2,7,8] [] [(0,2),(0,0),(0,0),(0,0),(0,4),(0,4),(0,4),(0,4),(4,4)] [1,1,1,1,1,1,1,1,1] follows (by kernel_rfl) (by kernel_rfl) (by kernel_rfl) (by kernel_rfl) ?_
      have hF:=oc hF;obtain⟨c18,hF⟩:=hF
      have hF:=oc hF;obtain⟨c19,hF⟩:=hF
      repeat(first|refine chk.ga ?_|simp -dsimp[h1,q2,z3,h9,h11,h13,q14,z15])
      refine ADraw.eff [6,8] [(0,0),(0,0),(0,0),(0,0),(0,0),(0,3),(1,1),(1,1),(1,1),(1,1),(1,1),(1,1),(0,3),(1,2),(1,2),(1,2),(1,2),(1,2),(0,3),(3,3),(3,3),(3,3)] [1,1,1,1,1,1,1,1,1,1,1,1,1,1,1,1,2,2,1,1,1,1] follows (by kernel_rfl) (by kernel_rfl) (by kernel_rfl) ?_
      repeat(first|refine chk.ga ?_|simp -dsimp[h1,q2,z3,h9,h11,h13,q14,z15])
      have hF:=ob hF;obtain⟨v20,e21,hF⟩:=hF
      refine((C.f107 B hB1 hB2 v.1 (v.2.1++[(⟨(⟨(-1:Int),(0:Int)⟩:Vl.Ty),(⟨(-1:Int),(0:Int)⟩:Vl.Ty)⟩:Vl.FunType)]) v.2.2.1 v.2.2.2.1 v.2.2.2.2 v20 e21)).elend (by first|simp -dsimp[h1,q2,z3,h9,h11,h13,q14,z15];done|simp_all) (by simp -dsimp) ?_
      repeat(first|refine chk.ga ?_|simp -dsimp[h1,q2,z3,h9,h11,h13,q14,z15])
      refine abr.split (fun h22=> ?_) (fun h22=> ?_)
      ·have q23:(v20=true):=auq h22
       rw[if_pos q23]at hF
       repeat(first|refine chk.ga ?_|simp -dsimp[h1,q2,z3,h9,h11,h13,q14,z15,h22])
       have hF:=ob hF;obtain⟨v24,e25,hF⟩:=hF
       refine((C.f132 B hB1 hB2 v.1 (v.2.1++[(⟨(⟨(-1:Int),(0:Int)⟩:Vl.Ty),(⟨(-1:Int),(0:Int)⟩:Vl.Ty)⟩:Vl.FunType)]) v.2.2.1 v.2.2.2.1 v.2.2.2.2 v24 e25)).elend (by first|simp -dsimp[h1,q2,z3,h9,h11,h13,q14,z15,h22];done|simp_all) (by simp -dsimp) ?_
       repeat(first|refine chk.ga ?_|simp -dsimp[h1,q2,z3,h9,h11,h13,q14,z15,h22])
       have hF:=ob hF;obtain⟨v26,e27,hF⟩:=hF
       refine((C.f132 B hB1 hB2 v.1 v.2.1 v.2.2.1 v.2.2.2.1 v.2.2.2.2 v26 e27)).ego (by first|simp[h1,q2,z3,h9,h11,h13,q14,z15,h22];done|simp_all) (by simp) ?_
       cases hF
       repeat(first|refine chk.ga ?_|simp -dsimp[h1,q2,z3,h9,h11,h13,q14,z15,h22])
       all_goals(try first|omega|rfl)
      ·have q23:¬(v20=true):=auq h22
       rw[if_neg q23]at hF
       cases hF
       repeat(first|refine chk.ga ?_|simp -dsimp[h1,q2,z3,h9,h11,h13,q14,z15,h22,q23])
       all_goals(try first|omega|rfl)
   ·have q12:¬(v5=true):=auq h11
    rw[if_neg q12]at hF
    repeat(first|refine chk.ga ?_|simp -dsimp[h1,q2,z3,h9,h11,q12])
    have hF:=ob hF;obtain⟨v28,e29,hF⟩:=hF
    refine((C.f125 B hB1 hB2 v.1 v.2.1 v.2.2.1 v.2.2.2.1 v.2.2.2.2 v28 e29)).goW (by first|simp[h1,q2,z3,h9,h11,q12];done|simp_all) (by simp) ?_
    cases hF
    repeat(first|refine chk.ga ?_|simp -dsimp[h1,q2,z3,h9,h11,q12])
    all_goals(try first|omega|rfl)
  ·have q10:¬(v5=v7):=auq h9
   rw[if_neg q10]at hF
   repeat(first|refine chk.ga ?_|simp -dsimp[h1,q2,z3,h9,q10])
   have hF:=ob hF;obtain⟨v30,e31,hF⟩:=hF
   refine((C.f125 B hB1 hB2 v.1 v.2.1 v.2.2.1 v.2.2.2.1 v.2.2.2.2 v30 e31)).goW (by first|simp[h1,q2,z3,h9,q10];done|simp_all) (by simp) ?_
   cases hF
   repeat(first|refine chk.ga ?_|simp -dsimp[h1,q2,z3,h9,q10])
   all_goals(try first|omega|rfl)
end Go.Proofs.YtemnnldmdlgfpaaGreatDoor
