/- The contracts: the code computes the functions (printed by gen.py). -/
import Derived.Test.YtemnnldmdlgfpaaProg
import Derived.Test.YtemnnldmdlgfpaaCallsOfF
import Derived.Test.YtemnnldmdlgfpaaCallsOfC1
namespace Go.Proofs.Ytemnnldmdlgfpaa
open Go Go.Proofs Go.Vl
set_option linter.unusedSimpArgs false
set_option linter.unusedVariables false
set_option linter.unusedSectionVars false
set_option maxRecDepth 100000
set_option maxHeartbeats 4000000
attribute [local irreducible] ECallA NCallA aL aLg AMake MLoop AgainM LeaveM awpM aopsM MutCall BCall chk abr ACall ALoop ALoopU ADraw Again Leave PCallA PCall Post awp aops PureCall hold
variable (B : Nat) (hB1 : 67108864 ≤ B) (hB2 : B ≤ 9223372036854775807)
include hB1 hB2
theorem CC.spec_l12Draw__ob23 (w:List Vl.Data)(funs:List Vl.FunType)(vars:List Vl.VarType):(∀(r':Vl.T_spec_l17Rd) (t:Vl.Ty) (depth:Int) (r:Vl.Expr×Vl.T_spec_l17Rd),F.f64 r' w funs vars t depth=some r→BCall Try.prog B 26 [.cells [.arr (List.map cU r'.f0),.lit (.int .i64 r'.f1)],.elems 4 (List.map Vl.FunType.c funs),.elems 3 (List.map Vl.VarType.c vars)] [.ptr 0 0,.arr (List.map Vl.Data.c w),.own 1 (List.length (α:=Vl.FunType) funs),.own 2 (List.length (α:=Vl.VarType) vars),.agg [.lit (.int .i64 t.data),.lit (.int .i64 t.index)],.lit (.int .i64 depth)] (.agg [.lit (.int .i64 r.1.op),.lit (.int .i64 r.1.n),.lit (.int .i64 r.1.ctor),.arr (List.map Vl.Expr.c r.1.kids)]) [.cells [.arr (List.map cU r.2.f0),.lit (.int .i64 r.2.f1)],.elems 4 (List.map Vl.FunType.c funs),.elems 3 (List.map Vl.VarType.c vars)])∧
  (∀(depth:Int) (v83:Vl.Value×Vl.T_spec_l17Rd) (v85:List Vl.Ty) (z87:List Int) (z88:Int) (out:List Vl.Expr) (i89:Nat) (o:(List Int)×Int×(List Vl.Expr)),F.f66 w funs vars depth v83 v85 z87 z88 out i89=some o→∀(c:Code),navO [1,1,1,1,1,1,1,1,1,0,1,0,0] (bodyOf Try.f26)=some c→∀(Q:Exit→ASt→Prop),(Q (.exit 4) ⟨[(12,.ptr 4 0),(18,.ptr 6 0)],[.cells [.arr (List.map cU o.1),.lit (.int .i64 o.2.1)],.elems 4 (List.map Vl.FunType.c funs),.elems 3 (List.map Vl.VarType.c vars),.dead,.cells [.lit (.int .i64 0),.lit (.int .i64 0),.lit (.int .i64 0),.lit (.slice none 0 0)],.dead,.cells [.lit (.int .i64 3),.lit (.int .i64 0),.lit (.int .i64 v83.1.ctor),.own 7 (List.length (α:=Vl.Expr) o.2.2)],.elems 4 (List.map Vl.Expr.c o.2.2)]⟩)→ALoopU Try.prog B 3 178 (hold c .mk) ⟨[(0,.ptr 0 0),(1,.arr (List.map Vl.Data.c w)),(2,.own 1 (List.length (α:=Vl.FunType) funs)),(3,.own 2 (List.length (α:=Vl.VarType) vars)),(5,.lit (.int .i64 depth)),(12,.ptr 4 0),(18,.ptr 6 0),(19,.arr (List.map Vl.Ty.c v85)),(20,.lit (.int .i64 (i89:Int)))],[.cells [.arr (List.map cU z87),.lit (.int .i64 z88)],.elems 4 (List.map Vl.FunType.c funs),.elems 3 (List.map Vl.VarType.c vars),.dead,.cells [.lit (.int .i64 0),.lit (.int .i64 0),.lit (.int .i64 0),.lit (.slice none 0 0)],.dead,.cells [.lit (.int .i64 3),.lit (.int .i64 0),.lit (.int .i64 v83.1.ctor),.own 7 (List.length (α:=Vl.Expr) out)],.elems 4 (List.map Vl.Expr.c out)]⟩ (hold Q .mk))∧
  (∀(t:Vl.Ty) (depth:Int) (v:List Int) (z19:List Int) (z20:Int) (i21:Nat) (o:Lo (Vl.Expr×Vl.T_spec_l17Rd) ((List Int)×Int)),F.f65 w funs vars t depth v z19 z20 i21=some o→∀(c:Code),navO [1,1,1,0,1,0,0] (bodyOf Try.f26)=some c→∀(Q:Exit→ASt→Prop),o.post (fun r=>∀st,PostI Try.prog Try.f26 (hold (fun r' σ'=>frzY σ' [.agg [.lit (.int .i64 r.1.op),.lit (.int .i64 r.1.n),.lit (.int .i64 r.1.ctor),.arr (List.map Vl.Expr.c r.1.kids)]] (unp [.agg [.lit (.int .i64 r.1.op),.lit (.int .i64 r.1.n),.lit (.int .i64 r.1.ctor),.arr (List.map Vl.Expr.c r.1.kids)]] r') (hold (fun xs' σ'=>stTo σ' [.cells [.arr (List.map cU r.2.f0),.lit (.int .i64 r.2.f1)],.elems 4 (List.map Vl.FunType.c funs),.elems 3 (List.map Vl.VarType.c vars)]∧ownP σ' 3 [] xs' [.agg [.lit (.int .i64 r.1.op),.lit (.int .i64 r.1.n),.lit (.int .i64 r.1.ctor),.arr (List.map Vl.Expr.c r.1.kids)]]∧lnd 3 (locsP xs' [.agg [.lit (.int .i64 r.1.op),.lit (.int .i64 r.1.n),.lit (.int .i64 r.1.ctor),.arr (List.map Vl.Expr.c r.1.kids)]])) .mk)) .mk) .ret st→Q .ret st) (fun s=>Q (.exit 2) ⟨[(0,.ptr 0 0),(1,.arr (List.map Vl.Data.c w)),(2,.own 1 (List.length (α:=Vl.FunType) funs)),(3,.own 2 (List.length (α:=Vl.VarType) vars)),(5,.lit (.int .i64 depth)),(10,.ptr 3 0),(12,.ptr 4 0),(13,.arr (List.map cI v))],[.cells [.arr (List.map cU s.1),.lit (.int .i64 s.2)],.elems 4 (List.map Vl.FunType.c funs),.elems 3 (List.map Vl.VarType.c vars),.cells [.lit (.int .i64 t.data),.lit (.int .i64 t.index)],.cells [.lit (.int .i64 0),.lit (.int .i64 0),.lit (.int .i64 0),.lit (.slice none 0 0)]]⟩)→ALoopU Try.prog B 3 178 (hold c .mk) ⟨[(0,.ptr 0 0),(1,.arr (List.map Vl.Data.c w)),(2,.own 1 (List.length (α:=Vl.FunType) funs)),(3,.own 2 (List.length (α:=Vl.VarType) vars)),(5,.lit (.int .i64 depth)),(10,.ptr 3 0),(12,.ptr 4 0),(13,.arr (List.map cI v)),(16,.lit (.int .i64 (i21:Int)))],[.cells [.arr (List.map cU z19),.lit (.int .i64 z20)],.elems 4 (List.map Vl.FunType.c funs),.elems 3 (List.map Vl.VarType.c vars),.cells [.lit (.int .i64 t.data),.lit (.int .i64 t.index)],.cells [.lit (.int .i64 0),.lit (.int .i64 0),.lit (.int .i64 0),.lit (.slice none 0 0)]]⟩ (hold Q .mk)):=by
 refine F.f64.mutual_partial_correctness w funs vars
  _ _ _
  ?_ ?_ ?_
 ·intro _f_spec_l12Draw__ob23 _f_spec_l12Draw__ob23_l3 _f_spec_l12Draw__ob23_l2 ih_spec_l12Draw__ob23 ih_spec_l12Draw__ob23_l3 ih_spec_l12Draw__ob23_l2 r' t depth r hF
  refine BCall.enterS (τ1:=[.cells [.arr (List.map cU r.2.f0),.lit (.int .i64 r.2.f1)],.elems 4 (List.map Vl.FunType.c funs),.elems 3 (List.map Vl.VarType.c vars)]) (ys:=[.agg [.lit (.int .i64 r.1.op),.lit (.int .i64 r.1.n),.lit (.int .i64 r.1.ctor),.arr (List.map Vl.Expr.c r.1.kids)]]) (news:=[]) Try.func26 (by kernel_rfl) rfl Try.ntmps26 (by simp) rfl rfl (by simp) (by simp) (by simp) (by simp) (by simp) (by simp) (Gh.refl _) ?_
  repeat(first|refine chk.ga ?_|simp -dsimp)
  have hF:=ob hF;obtain⟨v,e1,hF⟩:=hF
  refine((C.f53 B hB1 hB2 w v e1)).goW (by simp) (by simp) ?_
  repeat(first|refine chk.ga ?_|simp -dsimp)
  have hF:=ob hF;obtain⟨o',ho18,hF⟩:=hF
  refine ALoop.goU _ ?_ (((CC.spec_l12Draw__ob23_l1 B hB1 hB2 w funs vars t depth v) r'.f0 r'.f1 0 o' ho18) _ rfl _ ?_)
  ·exact(Gh.to3 (by simp) (by simp -dsimp))
  rcases o' with r0105|sx
  ·dsimp only at hF
   cases hF
   intro st h
   simpa using h
  ·dsimp only at hF
   repeat(first|refine chk.ga ?_|simp -dsimp)
   have hF:=ob hF;obtain⟨o'47,ho46,hF⟩:=hF
   refine ALoop.goU _ ?_ ((ih_spec_l12Draw__ob23_l2 t depth v sx.1 sx.2 0 o'47 ho46) _ rfl _ ?_)
   ·exact(Gh.to3 (by simp) (by simp -dsimp))
   rcases o'47 with r0|sx48
   ·dsimp only at hF
    cases hF
    intro st h
    simpa using h
   ·dsimp only at hF
    repeat(first|refine chk.ga ?_|simp -dsimp)
    refine abr.split (fun h49=> ?_) (fun h49=> ?_)
    ·have q50:(t.data=(-1)):=auq h49
     rw[if_pos q50]at hF
     repeat(first|refine chk.ga ?_|simp -dsimp[h49])
     refine abr.split (fun h51=> ?_) (fun h51=> ?_)
     ·have q52:(1<depth):=auq h51
      rw[if_pos q52]at hF
      repeat(first|refine chk.ga ?_|simp -dsimp[h49,h51])
      have hF:=ob hF;obtain⟨v53,e54,hF⟩:=hF
      refine((C.f1 B hB1 hB2 (⟨sx48.1,sx48.2⟩:Vl.T_spec_l17Rd) (3:Int) v53 e54)).go 0 rfl (by first|simp[h49,h51];done|simp_all) (by simp) (by first|simp[h49,h51];done|simp_all) ?_
      repeat(first|refine chk.ga ?_|simp -dsimp[h49,h51])
      refine abr.split (fun h55=> ?_) (fun h55=> ?_)
      ·have q56:(v53.1=0):=auq h55
       rw[if_pos q56]at hF
       repeat(first|refine chk.ga ?_|simp -dsimp[h49,h51,h55])
       refine ADraw.eff [26,1000025] [(0,0),(0,0),(0,0),(0,0),(0,0),(0,0),(0,0),(0,5),(0,1),(0,1),(0,1),(0,1),(0,1),(0,1),(0,1),(0,5),(0,5),(0,5),(0,5)] [1,1,1,1,1,1,1,1,1,1,1,1,2,1,1,1,1,1,1] follows (by kernel_rfl) (by kernel_rfl) (by kernel_rfl) ?_
       repeat(first|refine chk.ga ?_|simp -dsimp[h49,h51,h55])
       have hF:=ob hF;obtain⟨v57,e58,hF⟩:=hF
       refine((ih_spec_l12Draw__ob23 v53.2 t (IntKind.i64.wrap (depth-1)) v57 e58)).ego (pl [0,1,2]) (by simp) (by simp) (plInjL _ (by simp) (by decide)) (by intro i hi hi';simp at hi hi';omega) (by first|simp[h49,h51,h55];done|simp_all) (by first|simp[h49,h51,h55];done|simp_all) ?_
       repeat(first|refine chk.ga ?_|simp -dsimp[h49,h51,h55])
       have hF:=ob hF;obtain⟨v59,e60,hF⟩:=hF
       refine((ih_spec_l12Draw__ob23 v57.2 t (IntKind.i64.wrap (depth-1)) v59 e60)).ego (pl [0,1,2]) (by simp) (by simp) (plInjL _ (by simp) (by decide)) (by intro i hi hi';simp at hi hi';omega) (by first|simp[h49,h51,h55];done|simp_all) (by first|simp[h49,h51,h55];done|simp_all) ?_
       cases hF
       repeat(first|refine chk.ga ?_|simp -dsimp[h49,h51,h55])
       all_goals(try first|omega|rfl|(simp;done)|(simp only[List.length_cons,List.length_nil]at*;omega)|simp)
      ·have q56:¬(v53.1=0):=auq h55
       rw[if_neg q56]at hF
       repeat(first|refine chk.ga ?_|simp -dsimp[h49,h51,h55,q56])
       refine abr.split (fun h61=> ?_) (fun h61=> ?_)
       ·have q62:¬(depth<2):=auq h61
        rw[if_neg q62]at hF
        repeat(first|refine chk.ga ?_|simp -dsimp[h49,h51,h55,q56,h61,q62])
        have hF:=ob hF;obtain⟨v63,e64,hF⟩:=hF
        refine(((CC.f56 B hB1 hB2 w v).1 v53.2 t (1:Int) v63 e64)).go 0 rfl (by first|simp[h49,h51,h55,q56,h61,q62];done|simp_all) (by simp) (by first|simp[h49,h51,h55,q56,h61,q62];done|simp_all) ?_
        repeat(first|refine chk.ga ?_|simp -dsimp[h49,h51,h55,q56,h61,q62])
        have hF:=ob hF;obtain⟨v65,e66,hF⟩:=hF
        refine(((CC.f61 B hB1 hB2).1 v63.1 v65 e66)).goW (by first|simp[h49,h51,h55,q56,h61,q62];done|simp_all) (by simp) ?_
        cases hF
        repeat(first|refine chk.ga ?_|simp -dsimp[h49,h51,h55,q56,h61,q62])
        all_goals(try first|omega|rfl|(simp;done)|(simp only[List.length_cons,List.length_nil]at*;omega)|simp)
       ·have q62:(depth<2):=auq h61
        rw[if_pos q62]at hF
        repeat(first|refine chk.ga ?_|simp -dsimp[h49,h51,h55,q56,h61,q62])
        have hF:=ob hF;obtain⟨v67,e68,hF⟩:=hF
        refine(((CC.f56 B hB1 hB2 w v).1 v53.2 t (1:Int) v67 e68)).go 0 rfl (by first|simp[h49,h51,h55,q56,h61,q62];done|simp_all) (by simp) (by first|simp[h49,h51,h55,q56,h61,q62];done|simp_all) ?_
        repeat(first|refine chk.ga ?_|simp -dsimp[h49,h51,h55,q56,h61,q62])
        have hF:=ob hF;obtain⟨v69,e70,hF⟩:=hF
        refine(((CC.f61 B hB1 hB2).1 v67.1 v69 e70)).goW (by first|simp[h49,h51,h55,q56,h61,q62];done|simp_all) (by simp) ?_
        cases hF
        repeat(first|refine chk.ga ?_|simp -dsimp[h49,h51,h55,q56,h61,q62])
        all_goals(try first|omega|rfl|(simp;done)|(simp only[List.length_cons,List.length_nil]at*;omega)|simp)
     ·have q52:¬(1<depth):=auq h51
      rw[if_neg q52]at hF
      repeat(first|refine chk.ga ?_|simp -dsimp[h49,h51,q52])
      refine abr.split (fun h71=> ?_) (fun h71=> ?_)
      ·have q72:¬(depth<2):=auq h71
       rw[if_neg q72]at hF
       repeat(first|refine chk.ga ?_|simp -dsimp[h49,h51,q52,h71,q72])
       have hF:=ob hF;obtain⟨v73,e74,hF⟩:=hF
       refine(((CC.f56 B hB1 hB2 w v).1 (⟨sx48.1,sx48.2⟩:Vl.T_spec_l17Rd) t (1:Int) v73 e74)).go 0 rfl (by first|simp[h49,h51,q52,h71,q72];done|simp_all) (by simp) (by first|simp[h49,h51,q52,h71,q72];done|simp_all) ?_
       repeat(first|refine chk.ga ?_|simp -dsimp[h49,h51,q52,h71,q72])
       have hF:=ob hF;obtain⟨v75,e76,hF⟩:=hF
       refine(((CC.f61 B hB1 hB2).1 v73.1 v75 e76)).goW (by first|simp[h49,h51,q52,h71,q72];done|simp_all) (by simp) ?_
       cases hF
       repeat(first|refine chk.ga ?_|simp -dsimp[h49,h51,q52,h71,q72])
       all_goals(try first|omega|rfl|(simp;done)|(simp only[List.length_cons,List.length_nil]at*;omega)|simp)
      ·have q72:(depth<2):=auq h71
       rw[if_pos q72]at hF
       repeat(first|refine chk.ga ?_|simp -dsimp[h49,h51,q52,h71,q72])
       have hF:=ob hF;obtain⟨v77,e78,hF⟩:=hF
       refine(((CC.f56 B hB1 hB2 w v).1 (⟨sx48.1,sx48.2⟩:Vl.T_spec_l17Rd) t (1:Int) v77 e78)).go 0 rfl (by first|simp[h49,h51,q52,h71,q72];done|simp_all) (by simp) (by first|simp[h49,h51,q52,h71,q72];done|simp_all) ?_
       repeat(first|refine chk.ga ?_|simp -dsimp[h49,h51,q52,h71,q72])
       have hF:=ob hF;obtain⟨v79,e80,hF⟩:=hF
       refine(((CC.f61 B hB1 hB2).1 v77.1 v79 e80)).goW (by first|simp[h49,h51,q52,h71,q72];done|simp_all) (by simp) ?_
       cases hF
       repeat(first|refine chk.ga ?_|simp -dsimp[h49,h51,q52,h71,q72])
       all_goals(try first|omega|rfl|(simp;done)|(simp only[List.length_cons,List.length_nil]at*;omega)|simp)
    ·have q50:¬(t.data=(-1)):=auq h49
     rw[if_neg q50]at hF
     repeat(first|refine chk.ga ?_|simp -dsimp[h49,q50])
     refine abr.split (fun h81=> ?_) (fun h81=> ?_)
     ·have q82:¬(depth<2):=auq h81
      rw[if_neg q82]at hF
      repeat(first|refine chk.ga ?_|simp -dsimp[h49,q50,h81,q82])
      have hF:=ob hF;obtain⟨v83,e84,hF⟩:=hF
      refine(((CC.f56 B hB1 hB2 w v).1 (⟨sx48.1,sx48.2⟩:Vl.T_spec_l17Rd) t depth v83 e84)).go 0 rfl (by first|simp[h49,q50,h81,q82];done|simp_all) (by simp) (by first|simp[h49,q50,h81,q82];done|simp_all) ?_
      repeat(first|refine chk.ga ?_|simp -dsimp[h49,q50,h81,q82])
      have hF:=ob hF;obtain⟨v85,e86,hF⟩:=hF
      refine((C.f45 B hB1 hB2 w t v83.1.ctor v85 e86)).goW (by first|simp[h49,q50,h81,q82];done|simp_all) (by simp) ?_
      repeat(first|refine chk.ga ?_|simp -dsimp[h49,q50,h81,q82])
      have hF:=ob hF;obtain⟨o'100,ho99,hF⟩:=hF
      refine ALoop.goU ⟨[(0,.ptr 0 0),(1,.arr (List.map Vl.Data.c w)),(2,.own 1 (List.length (α:=Vl.FunType) funs)),(3,.own 2 (List.length (α:=Vl.VarType) vars)),(5,.lit (.int .i64 depth)),(12,.ptr 4 0),(18,.ptr 6 0),(19,.arr (List.map Vl.Ty.c v85)),(20,.lit (.int .i64 (0:Int)))],[.cells [.arr (List.map cU v83.2.f0),.lit (.int .i64 v83.2.f1)],.elems 4 (List.map Vl.FunType.c funs),.elems 3 (List.map Vl.VarType.c vars),.dead,.cells [.lit (.int .i64 0),.lit (.int .i64 0),.lit (.int .i64 0),.lit (.slice none 0 0)],.dead,.cells [.lit (.int .i64 3),.lit (.int .i64 0),.lit (.int .i64 v83.1.ctor),.own 7 (List.length (α:=Vl.Expr) [])],.elems 4 (List.map Vl.Expr.c [])]⟩ (by refine Gh.trans (Gh.nilCell 6 3 4 (by simp -dsimp;rfl) (by simp -dsimp)) ?_;exact(Gh.to3 (by simp) (by first|simp -dsimp[h49,q50,h81,q82];done|simp_all))) ?_
      refine(ih_spec_l12Draw__ob23_l3 depth v83 v85 v83.2.f0 v83.2.f1 [] 0 o'100 ho99) _ rfl _ ?_
      cases hF
      repeat(first|refine chk.ga ?_|simp -dsimp)
      all_goals(try first|omega|rfl|(simp;done)|(simp only[List.length_cons,List.length_nil]at*;omega)|simp)
     ·have q82:(depth<2):=auq h81
      rw[if_pos q82]at hF
      repeat(first|refine chk.ga ?_|simp -dsimp[h49,q50,h81,q82])
      have hF:=ob hF;obtain⟨v101,e102,hF⟩:=hF
      refine(((CC.f56 B hB1 hB2 w v).1 (⟨sx48.1,sx48.2⟩:Vl.T_spec_l17Rd) t (1:Int) v101 e102)).go 0 rfl (by first|simp[h49,q50,h81,q82];done|simp_all) (by simp) (by first|simp[h49,q50,h81,q82];done|simp_all) ?_
      repeat(first|refine chk.ga ?_|simp -dsimp[h49,q50,h81,q82])
      have hF:=ob hF;obtain⟨v103,e104,hF⟩:=hF
      refine(((CC.f61 B hB1 hB2).1 v101.1 v103 e104)).goW (by first|simp[h49,q50,h81,q82];done|simp_all) (by simp) ?_
      cases hF
      repeat(first|refine chk.ga ?_|simp -dsimp[h49,q50,h81,q82])
      all_goals(try first|omega|rfl|(simp;done)|(simp only[List.length_cons,List.length_nil]at*;omega)|simp)
 ·intro _f_spec_l12Draw__ob23 _f_spec_l12Draw__ob23_l3 ih_spec_l12Draw__ob23 ih_spec_l12Draw__ob23_l3 depth v83 v85 z87 z88 out i89 o hF
  intro c hc Q hq
  obtain rfl:c=_:=navEq hc rfl
  refine ALoopU.know fun hk hs=> ?_
  have b1:=hk 1
  simp -dsimp at b1
  have b19:=hk 19
  simp -dsimp at b19
  have d0:=hs 0 _ rfl
  simp -dsimp[Blk.bnd]at d0
  have d1:=hs 1 _ rfl
  simp -dsimp[Blk.bnd]at d1
  have d2:=hs 2 _ rfl
  simp -dsimp[Blk.bnd]at d2
  have d7:=hs 7 _ rfl
  simp -dsimp[Blk.bnd]at d7
  clear hk hs
  refine ALoopU.enter ?_
  repeat(first|refine chk.ga ?_|simp -dsimp)
  refine abr.split (fun h90=> ?_) (fun h90=> ?_)
  ·have q91:(i89<v85.length):=auq h90
   have z92:((i89:Int)<(v85.length:Int)):=auz
   rw[if_pos q91]at hF
   repeat(first|refine chk.ga ?_|simp -dsimp[h90,z92])
   refine ADraw.eff [26] [(0,2),(0,2),(0,0),(0,0),(0,0),(0,0),(0,0),(0,0),(0,0),(0,0),(0,0),(0,0),(0,4),(0,4),(0,4),(3,3),(0,4)] [0,2,1,1,1,1,1,1,1,1,1,1,1,1,1,1,1] follows (by kernel_rfl) (by kernel_rfl) (by kernel_rfl) ?_
   have hF:=ob hF;obtain⟨x93,e94,hF⟩:=hF
   have le94:=lt_of_get e94
   repeat(first|refine chk.ga ?_|simp -dsimp[h90,z92,↓e94])
   have hF:=ob hF;obtain⟨v95,e96,hF⟩:=hF
   refine((ih_spec_l12Draw__ob23 (⟨z87,z88⟩:Vl.T_spec_l17Rd) x93 (IntKind.i64.wrap (depth-1)) v95 e96)).ego (pl [0,1,2]) (by simp) (by simp) (plInjL _ (by simp) (by decide)) (by intro i hi hi';simp at hi hi';omega) (by first|simp[h90,z92,↓e94];done|simp_all) (by first|simp[h90,z92,↓e94];done|simp_all) ?_
   have hF:=oc hF;obtain⟨c97,hF⟩:=hF
   have w98:IntKind.i64.wrap ((i89:Int)+1)=(i89:Int)+1:=wrap_in (by omega) (by omega)
   repeat(first|refine chk.ga ?_|simp -dsimp[h90,z92,↓e94,w98])
   refine Again.go _ ?_ ((ih_spec_l12Draw__ob23_l3 depth v83 v85 v95.2.f0 v95.2.f1 (out++[v95.1]) (i89+1) o hF) _ rfl _ hq)
   exact(Gh.to3 (by simp) (by first|simp -dsimp[h90,z92,↓e94,w98];done|simp_all))
  ·have q91:¬(i89<v85.length):=auq h90
   have z92:¬((i89:Int)<(v85.length:Int)):=auz
   rw[if_neg q91]at hF
   cases hF
   repeat(first|refine chk.ga ?_|simp -dsimp[h90,q91,z92])
   refine Leave.go ⟨[(12,.ptr 4 0),(18,.ptr 6 0)],[.cells [.arr (List.map cU z87),.lit (.int .i64 z88)],.elems 4 (List.map Vl.FunType.c funs),.elems 3 (List.map Vl.VarType.c vars),.dead,.cells [.lit (.int .i64 0),.lit (.int .i64 0),.lit (.int .i64 0),.lit (.slice none 0 0)],.dead,.cells [.lit (.int .i64 3),.lit (.int .i64 0),.lit (.int .i64 v83.1.ctor),.own 7 (List.length (α:=Vl.Expr) out)],.elems 4 (List.map Vl.Expr.c out)]⟩ (Gh.to3 (by simp) (by first|simp -dsimp[h90,q91,z92];done|simp_all)) ?_
   exact hq
 ·intro _f_spec_l12Draw__ob23 _f_spec_l12Draw__ob23_l2 ih_spec_l12Draw__ob23 ih_spec_l12Draw__ob23_l2 t depth v z19 z20 i21 o hF
  intro c hc Q hq
  obtain rfl:c=_:=navEq hc rfl
  refine ALoopU.know fun hk hs=> ?_
  have b1:=hk 1
  simp -dsimp at b1
  have b13:=hk 13
  simp -dsimp at b13
  have d0:=hs 0 _ rfl
  simp -dsimp[Blk.bnd]at d0
  have d1:=hs 1 _ rfl
  simp -dsimp[Blk.bnd]at d1
  have d2:=hs 2 _ rfl
  simp -dsimp[Blk.bnd]at d2
  clear hk hs
  refine ALoopU.enter ?_
  repeat(first|refine chk.ga ?_|simp -dsimp)
  refine abr.split (fun h22=> ?_) (fun h22=> ?_)
  ·have q23:(i21<funs.length):=auq h22
   have z24:((i21:Int)<(funs.length:Int)):=auz
   rw[if_pos q23]at hF
   repeat(first|refine chk.ga ?_|simp -dsimp[h22,z24])
   refine abr.split (fun h25=> ?_) (fun h25=> ?_)
   ·have q26:(1<depth):=auq h25
    rw[if_pos q26]at hF
    repeat(first|refine chk.ga ?_|simp -dsimp[h22,z24,h25])
    refine ADraw.eff [28] [(0,0),(0,0),(0,0),(0,0),(0,0),(0,0),(0,1),(0,0),(0,0),(0,0),(0,0),(0,0),(0,0),(0,0),(0,1),(0,0),(0,0),(0,0),(0,0),(0,1),(1,1),(1,1)] [1,1,1,1,1,1,1,1,1,1,1,1,1,1,1,1,1,1,1,1,1,1] follows (by kernel_rfl) (by kernel_rfl) (by kernel_rfl) ?_
    have hF:=ob hF;obtain⟨x27,e28,hF⟩:=hF
    have le28:=lt_of_get e28
    repeat(first|refine chk.ga ?_|simp -dsimp[h22,z24,h25,↓e28])
    have hF:=ob hF;obtain⟨v29,e30,hF⟩:=hF
    refine((C.f60 B hB1 hB2 x27.res t v29 e30)).pgoW (by first|simp[h22,z24,h25,↓e28];done|simp_all) (by simp) ?_
    repeat(first|refine chk.ga ?_|simp -dsimp[h22,z24,h25,↓e28])
    refine abr.split (fun h31=> ?_) (fun h31=> ?_)
    ·have q32:(v29=true):=auq h31
     rw[if_pos q32]at hF
     repeat(first|refine chk.ga ?_|simp -dsimp[h22,z24,h25,↓e28,h31])
     have hF:=ob hF;obtain⟨v33,e34,hF⟩:=hF
     refine((C.f47 B hB1 hB2 v x27.arg v33 e34)).pgoW (by first|simp[h22,z24,h25,↓e28,h31];done|simp_all) (by simp) ?_
     repeat(first|refine chk.ga ?_|simp -dsimp[h22,z24,h25,↓e28,h31])
     refine abr.split (fun h35=> ?_) (fun h35=> ?_)
     ·have q36:(0<v33):=auq h35
      rw[if_pos q36]at hF
      repeat(first|refine chk.ga ?_|simp -dsimp[h22,z24,h25,↓e28,h31,h35])
      have hF:=ob hF;obtain⟨v37,e38,hF⟩:=hF
      refine((C.f1 B hB1 hB2 (⟨z19,z20⟩:Vl.T_spec_l17Rd) (3:Int) v37 e38)).ego 0 rfl (by first|simp[h22,z24,h25,↓e28,h31,h35];done|simp_all) (by simp) (by first|simp[h22,z24,h25,↓e28,h31,h35];done|simp_all) ?_
      repeat(first|refine chk.ga ?_|simp -dsimp[h22,z24,h25,↓e28,h31,h35])
      refine abr.split (fun h39=> ?_) (fun h39=> ?_)
      ·have q40:(v37.1=0):=auq h39
       rw[if_pos q40]at hF
       repeat(first|refine chk.ga ?_|simp -dsimp[h22,z24,h25,↓e28,h31,h35,h39])
       have hF:=ob hF;obtain⟨v41,e42,hF⟩:=hF
       refine((ih_spec_l12Draw__ob23 v37.2 x27.arg (IntKind.i64.wrap (depth-1)) v41 e42)).go (pl [0,1,2]) (by simp) (by simp) (plInjL _ (by simp) (by decide)) (by intro i hi hi';simp at hi hi';omega) (by first|simp[h22,z24,h25,↓e28,h31,h35,h39];done|simp_all) (by first|simp[h22,z24,h25,↓e28,h31,h35,h39];done|simp_all) ?_
       cases hF
       repeat(first|refine chk.ga ?_|simp -dsimp[h22,z24,h25,↓e28,h31,h35,h39])
       refine Leave.go _ (Gh.refl _) (hq _ ?_)
       repeat(first|refine chk.ga ?_|simp -dsimp[h22,z24,h25,↓e28,h31,h35,h39])
      ·have q40:¬(v37.1=0):=auq h39
       rw[if_neg q40]at hF
       have w43:IntKind.i64.wrap ((i21:Int)+1)=(i21:Int)+1:=wrap_in (by omega) (by omega)
       repeat(first|refine chk.ga ?_|simp -dsimp[h22,z24,h25,↓e28,h31,h35,h39,q40,w43])
       refine Again.go _ ?_ ((ih_spec_l12Draw__ob23_l2 t depth v v37.2.f0 v37.2.f1 (i21+1) o hF) _ rfl _ hq)
       exact(Gh.to3 (by simp) (by first|simp -dsimp[h22,z24,h25,↓e28,h31,h35,h39,q40,w43];done|simp_all))
     ·have q36:¬(0<v33):=auq h35
      rw[if_neg q36]at hF
      have w44:IntKind.i64.wrap ((i21:Int)+1)=(i21:Int)+1:=wrap_in (by omega) (by omega)
      repeat(first|refine chk.ga ?_|simp -dsimp[h22,z24,h25,↓e28,h31,h35,q36,w44])
      refine Again.go _ ?_ ((ih_spec_l12Draw__ob23_l2 t depth v z19 z20 (i21+1) o hF) _ rfl _ hq)
      exact(Gh.to3 (by simp) (by first|simp -dsimp[h22,z24,h25,↓e28,h31,h35,q36,w44];done|simp_all))
    ·have q32:¬(v29=true):=auq h31
     rw[if_neg q32]at hF
     have w45:IntKind.i64.wrap ((i21:Int)+1)=(i21:Int)+1:=wrap_in (by omega) (by omega)
     repeat(first|refine chk.ga ?_|simp -dsimp[h22,z24,h25,↓e28,h31,q32,w45])
     refine Again.go _ ?_ ((ih_spec_l12Draw__ob23_l2 t depth v z19 z20 (i21+1) o hF) _ rfl _ hq)
     exact(Gh.to3 (by simp) (by first|simp -dsimp[h22,z24,h25,↓e28,h31,q32,w45];done|simp_all))
   ·have q26:¬(1<depth):=auq h25
    rw[if_neg q26]at hF
    cases hF
    repeat(first|refine chk.ga ?_|simp -dsimp[h22,z24,h25,q26])
    refine Leave.go ⟨[(0,.ptr 0 0),(1,.arr (List.map Vl.Data.c w)),(2,.own 1 (List.length (α:=Vl.FunType) funs)),(3,.own 2 (List.length (α:=Vl.VarType) vars)),(5,.lit (.int .i64 depth)),(10,.ptr 3 0),(12,.ptr 4 0),(13,.arr (List.map cI v))],[.cells [.arr (List.map cU z19),.lit (.int .i64 z20)],.elems 4 (List.map Vl.FunType.c funs),.elems 3 (List.map Vl.VarType.c vars),.cells [.lit (.int .i64 t.data),.lit (.int .i64 t.index)],.cells [.lit (.int .i64 0),.lit (.int .i64 0),.lit (.int .i64 0),.lit (.slice none 0 0)]]⟩ (Gh.to3 (by simp) (by first|simp -dsimp[h22,z24,h25,q26];done|simp_all)) ?_
    exact hq
  ·have q23:¬(i21<funs.length):=auq h22
   have z24:¬((i21:Int)<(funs.length:Int)):=auz
   rw[if_neg q23]at hF
   cases hF
   repeat(first|refine chk.ga ?_|simp -dsimp[h22,q23,z24])
   refine Leave.go ⟨[(0,.ptr 0 0),(1,.arr (List.map Vl.Data.c w)),(2,.own 1 (List.length (α:=Vl.FunType) funs)),(3,.own 2 (List.length (α:=Vl.VarType) vars)),(5,.lit (.int .i64 depth)),(10,.ptr 3 0),(12,.ptr 4 0),(13,.arr (List.map cI v))],[.cells [.arr (List.map cU z19),.lit (.int .i64 z20)],.elems 4 (List.map Vl.FunType.c funs),.elems 3 (List.map Vl.VarType.c vars),.cells [.lit (.int .i64 t.data),.lit (.int .i64 t.index)],.cells [.lit (.int .i64 0),.lit (.int .i64 0),.lit (.int .i64 0),.lit (.slice none 0 0)]]⟩ (Gh.to3 (by simp) (by first|simp -dsimp[h22,q23,z24];done|simp_all)) ?_
   exact hq
theorem C.f68 (code:List Int)(r:(List Vl.Data)×(List Vl.FunType)×(List Vl.VarType)×Vl.Ty×Vl.Expr)(hF:F.f68 code=some r):PureCall Try.prog B 12 [.arr (List.map cU code)] (.tup [.arr (List.map Vl.Data.c r.1),.arr (List.map Vl.FunType.c r.2.1),.arr (List.map Vl.VarType.c r.2.2.1),.agg [.lit (.int .i64 r.2.2.2.1.data),.lit (.int .i64 r.2.2.2.1.index)],.agg [.lit (.int .i64 r.2.2.2.2.op),.lit (.int .i64 r.2.2.2.2.n),.lit (.int .i64 r.2.2.2.2.ctor),.arr (List.map Vl.Expr.c r.2.2.2.2.kids)]]):=by
 unfold F.f68 at hF
 refine PureCall.enterLe Try.func12 (by kernel_rfl) rfl Try.ntmps12 (by simp) (by simp) ?_
 repeat(first|refine chk.ga ?_|simp -dsimp)
 refine ACall.inl Try.func23 (by kernel_rfl) rfl Try.ntmps23 (by simp) ?_
 repeat(first|refine chk.ga ?_|simp -dsimp)
 refine abr.split (fun h1=> ?_) (fun h1=> ?_)
 ·have q2:(2000<code.length):=auq h1
  have z3:((2000:Int)<(code.length:Int)):=auz
  rw[if_pos q2]at hF
  have hF:=oc hF;obtain⟨c4,hF⟩:=hF
  repeat(first|refine chk.ga ?_|simp -dsimp[h1,z3])
  have hF:=ob hF;obtain⟨v,e5,hF⟩:=hF
  refine((C.spec_l12Scene__o12 B hB1 hB2 (⟨(code.drop 0).take (2000-0),(0:Int)⟩:Vl.T_spec_l17Rd) v e5)).go (pl [2,3,4]) (by simp) (by simp) (plInjL _ (by simp) (by decide)) (by intro i hi hi';simp at hi hi';have hi:i=1∨i=2:=(by omega);rcases hi with rfl|rfl<;>simp[pl]) (by first|simp[h1,z3];done|simp_all) (by first|simp[h1,z3];done|simp_all) ?_
  repeat(first|refine chk.ga ?_|simp -dsimp[h1,z3])
  refine ADraw.effL [(7,11),(8,11),(9,11),(10,11)] 11 [25,26,27] [(0,3),(0,2),(0,2),(0,2),(0,2),(0,2),(0,1),(0,6),(0,6),(0,6),(0,6),(0,6),(0,6)] [1,1,1,1,1,2,1,1,1,1,1,1,1] follows (by kernel_rfl) (by kernel_rfl) (by kernel_rfl) (by kernel_rfl) (by intro d hd;cases hd;rfl) ?_
  repeat(first|refine chk.ga ?_|simp -dsimp[h1,z3])
  have hF:=ob hF;obtain⟨v6,e7,hF⟩:=hF
  refine ECallA.frz ?_ ((C.f54 B hB1 hB2 v.2.2.2.2 [(3:Int),(2:Int),(4:Int),(1:Int)] v6 e7)).ent
  repeat(first|refine chk.ga ?_|simp -dsimp[h1,z3])
  refine((C.f54 B hB1 hB2 v.2.2.2.2 [(3:Int),(2:Int),(4:Int),(1:Int)] v6 e7)).ego 2 rfl (by first|simp[h1,z3];done|simp_all) (by simp) (by first|simp[h1,z3];done|simp_all) ?_
  repeat(first|refine chk.ga ?_|simp -dsimp[h1,z3])
  have hF:=ob hF;obtain⟨v8,e9,hF⟩:=hF
  refine(((CC.spec_l12Draw__ob23 B hB1 hB2 v.1 v.2.1 v.2.2.1).1 v6.2 v.2.2.2.1 v6.1 v8 e9)).ego (pl [2,3,4]) (by simp) (by simp) (plInjL _ (by simp) (by decide)) (by intro i hi hi';simp at hi hi';omega) (by first|simp[h1,z3];done|simp_all) (by first|simp[h1,z3];done|simp_all) ?_
  repeat(first|refine chk.ga ?_|simp -dsimp[h1,z3])
  have hF:=ob hF;obtain⟨v10,e11,hF⟩:=hF
  refine(((CC.f67 B hB1 hB2) v8.2 v8.1 v10 e11)).ego 2 rfl (by first|simp[h1,z3];done|simp_all) (by simp) (by first|simp[h1,z3];done|simp_all) ?_
  repeat(first|refine chk.ga ?_|simp -dsimp[h1,z3])
  have hF:=ob hF;obtain⟨v12,e13,hF⟩:=hF
  refine((C.f1 B hB1 hB2 v10.2 (24:Int) v12 e13)).go 2 rfl (by first|simp[h1,z3];done|simp_all) (by simp) (by first|simp[h1,z3];done|simp_all) ?_
  repeat(first|refine chk.ga ?_|simp -dsimp[h1,z3])
  refine abr.split (fun h14=> ?_) (fun h14=> ?_)
  ·have q15:(v12.1=0):=auq h14
   rw[if_pos q15]at hF
   have hF:=oc hF;obtain⟨c16,hF⟩:=hF
   repeat(first|refine chk.ga ?_|simp -dsimp[h1,z3,h14])
   refine ADraw.eff [] [(0,0),(0,0),(0,0),(0,0),(0,1),(0,0),(0,0),(0,0),(0,2),(0,2)] [1,1,1,1,2,1,1,1,1,1] follows (by kernel_rfl) (by kernel_rfl) (by kernel_rfl) ?_
   cases hF
   repeat(first|refine chk.ga ?_|simp -dsimp[h1,z3,h14])
   all_goals(try first|omega|rfl)
  ·have q15:¬(v12.1=0):=auq h14
   rw[if_neg q15]at hF
   repeat(first|refine chk.ga ?_|simp -dsimp[h1,z3,h14,q15])
   refine abr.split (fun h17=> ?_) (fun h17=> ?_)
   ·have q18:(v12.1=1):=auq h17
    rw[if_pos q18]at hF
    repeat(first|refine chk.ga ?_|simp -dsimp[h1,z3,h14,q15,h17])
    refine ADraw.eff [27] [(0,3),(0,1),(0,4),(0,4),(0,2),(2,2),(0,4),(0,4),(4,4)] [1,1,1,1,2,1,1,1,1] follows (by kernel_rfl) (by kernel_rfl) (by kernel_rfl) ?_
    repeat(first|refine chk.ga ?_|simp -dsimp[h1,z3,h14,q15,h17])
    have hF:=ob hF;obtain⟨v19,e20,hF⟩:=hF
    refine ECallA.frz ?_ ((C.f54 B hB1 hB2 v12.2 [(0:Int),(9:Int),(-1:Int)] v19 e20)).ent
    repeat(first|refine chk.ga ?_|simp -dsimp[h1,z3,h14,q15,h17])
    refine((C.f54 B hB1 hB2 v12.2 [(0:Int),(9:Int),(-1:Int)] v19 e20)).ego 2 rfl (by first|simp[h1,z3,h14,q15,h17];done|simp_all) (by simp) (by first|simp[h1,z3,h14,q15,h17];done|simp_all) ?_
    have hF:=oc hF;obtain⟨c21,hF⟩:=hF
    repeat(first|refine chk.ga ?_|simp -dsimp[h1,z3,h14,q15,h17])
    refine ADraw.eff [] [(0,0),(0,0),(0,0),(0,0),(0,1),(0,0),(0,0),(0,0),(0,2),(0,2)] [1,1,1,1,2,1,1,1,1,1] follows (by kernel_rfl) (by kernel_rfl) (by kernel_rfl) ?_
    cases hF
    repeat(first|refine chk.ga ?_|simp -dsimp[h1,z3,h14,q15,h17])
    all_goals(try first|omega|rfl)
   ·have q18:¬(v12.1=1):=auq h17
    rw[if_neg q18]at hF
    repeat(first|refine chk.ga ?_|simp -dsimp[h1,z3,h14,q15,h17,q18])
    refine ADraw.eff [] [(0,0),(0,0),(0,0),(0,0),(0,1),(0,0),(0,0),(0,0),(0,2),(0,2)] [1,1,1,1,2,1,1,1,1,1] follows (by kernel_rfl) (by kernel_rfl) (by kernel_rfl) ?_
    cases hF
    repeat(first|refine chk.ga ?_|simp -dsimp[h1,z3,h14,q15,h17,q18])
    all_goals(try first|omega|rfl)
 ·have q2:¬(2000<code.length):=auq h1
  have z3:¬((2000:Int)<(code.length:Int)):=auz
  rw[if_neg q2]at hF
  repeat(first|refine chk.ga ?_|simp -dsimp[h1,q2,z3])
  have hF:=ob hF;obtain⟨v22,e23,hF⟩:=hF
  refine((C.spec_l12Scene__o12 B hB1 hB2 (⟨code,(0:Int)⟩:Vl.T_spec_l17Rd) v22 e23)).go (pl [2,3,4]) (by simp) (by simp) (plInjL _ (by simp) (by decide)) (by intro i hi hi';simp at hi hi';have hi:i=1∨i=2:=(by omega);rcases hi with rfl|rfl<;>simp[pl]) (by first|simp[h1,q2,z3];done|simp_all) (by first|simp[h1,q2,z3];done|simp_all) ?_
  repeat(first|refine chk.ga ?_|simp -dsimp[h1,q2,z3])
  refine ADraw.effL [(7,11),(8,11),(9,11),(10,11)] 11 [25,26,27] [(0,3),(0,2),(0,2),(0,2),(0,2),(0,2),(0,1),(0,6),(0,6),(0,6),(0,6),(0,6),(0,6)] [1,1,1,1,1,2,1,1,1,1,1,1,1] follows (by kernel_rfl) (by kernel_rfl) (by kernel_rfl) (by kernel_rfl) (by intro d hd;cases hd;rfl) ?_
  repeat(first|refine chk.ga ?_|simp -dsimp[h1,q2,z3])
  have hF:=ob hF;obtain⟨v24,e25,hF⟩:=hF
  refine ECallA.frz ?_ ((C.f54 B hB1 hB2 v22.2.2.2.2 [(3:Int),(2:Int),(4:Int),(1:Int)] v24 e25)).ent
  repeat(first|refine chk.ga ?_|simp -dsimp[h1,q2,z3])
  refine((C.f54 B hB1 hB2 v22.2.2.2.2 [(3:Int),(2:Int),(4:Int),(1:Int)] v24 e25)).ego 2 rfl (by first|simp[h1,q2,z3];done|simp_all) (by simp) (by first|simp[h1,q2,z3];done|simp_all) ?_
  repeat(first|refine chk.ga ?_|simp -dsimp[h1,q2,z3])
  have hF:=ob hF;obtain⟨v26,e27,hF⟩:=hF
  refine(((CC.spec_l12Draw__ob23 B hB1 hB2 v22.1 v22.2.1 v22.2.2.1).1 v24.2 v22.2.2.2.1 v24.1 v26 e27)).ego (pl [2,3,4]) (by simp) (by simp) (plInjL _ (by simp) (by decide)) (by intro i hi hi';simp at hi hi';omega) (by first|simp[h1,q2,z3];done|simp_all) (by first|simp[h1,q2,z3];done|simp_all) ?_
  repeat(first|refine chk.ga ?_|simp -dsimp[h1,q2,z3])
  have hF:=ob hF;obtain⟨v28,e29,hF⟩:=hF
  refine(((CC.f67 B hB1 hB2) v26.2 v26.1 v28 e29)).ego 2 rfl (by first|simp[h1,q2,z3];done|simp_all) (by simp) (by first|simp[h1,q2,z3];done|simp_all) ?_
  repeat(first|refine chk.ga ?_|simp -dsimp[h1,q2,z3])
  have hF:=ob hF;obtain⟨v30,e31,hF⟩:=hF
  refine((C.f1 B hB1 hB2 v28.2 (24:Int) v30 e31)).go 2 rfl (by first|simp[h1,q2,z3];done|simp_all) (by simp) (by first|simp[h1,q2,z3];done|simp_all) ?_
  repeat(first|refine chk.ga ?_|simp -dsimp[h1,q2,z3])
  refine abr.split (fun h32=> ?_) (fun h32=> ?_)
  ·have q33:(v30.1=0):=auq h32
   rw[if_pos q33]at hF
   have hF:=oc hF;obtain⟨c34,hF⟩:=hF
   repeat(first|refine chk.ga ?_|simp -dsimp[h1,q2,z3,h32])
   refine ADraw.eff [] [(0,0),(0,0),(0,0),(0,0),(0,1),(0,0),(0,0),(0,0),(0,2),(0,2)] [1,1,1,1,2,1,1,1,1,1] follows (by kernel_rfl) (by kernel_rfl) (by kernel_rfl) ?_
   cases hF
   repeat(first|refine chk.ga ?_|simp -dsimp[h1,q2,z3,h32])
   all_goals(try first|omega|rfl)
  ·have q33:¬(v30.1=0):=auq h32
   rw[if_neg q33]at hF
   repeat(first|refine chk.ga ?_|simp -dsimp[h1,q2,z3,h32,q33])
   refine abr.split (fun h35=> ?_) (fun h35=> ?_)
   ·have q36:(v30.1=1):=auq h35
    rw[if_pos q36]at hF
    repeat(first|refine chk.ga ?_|simp -dsimp[h1,q2,z3,h32,q33,h35])
    refine ADraw.eff [27] [(0,3),(0,1),(0,4),(0,4),(0,2),(2,2),(0,4),(0,4),(4,4)] [1,1,1,1,2,1,1,1,1] follows (by kernel_rfl) (by kernel_rfl) (by kernel_rfl) ?_
    repeat(first|refine chk.ga ?_|simp -dsimp[h1,q2,z3,h32,q33,h35])
    have hF:=ob hF;obtain⟨v37,e38,hF⟩:=hF
    refine ECallA.frz ?_ ((C.f54 B hB1 hB2 v30.2 [(0:Int),(9:Int),(-1:Int)] v37 e38)).ent
    repeat(first|refine chk.ga ?_|simp -dsimp[h1,q2,z3,h32,q33,h35])
    refine((C.f54 B hB1 hB2 v30.2 [(0:Int),(9:Int),(-1:Int)] v37 e38)).ego 2 rfl (by first|simp[h1,q2,z3,h32,q33,h35];done|simp_all) (by simp) (by first|simp[h1,q2,z3,h32,q33,h35];done|simp_all) ?_
    have hF:=oc hF;obtain⟨c39,hF⟩:=hF
    repeat(first|refine chk.ga ?_|simp -dsimp[h1,q2,z3,h32,q33,h35])
    refine ADraw.eff [] [(0,0),(0,0),(0,0),(0,0),(0,1),(0,0),(0,0),(0,0),(0,2),(0,2)] [1,1,1,1,2,1,1,1,1,1] follows (by kernel_rfl) (by kernel_rfl) (by kernel_rfl) ?_
    cases hF
    repeat(first|refine chk.ga ?_|simp -dsimp[h1,q2,z3,h32,q33,h35])
    all_goals(try first|omega|rfl)
   ·have q36:¬(v30.1=1):=auq h35
    rw[if_neg q36]at hF
    repeat(first|refine chk.ga ?_|simp -dsimp[h1,q2,z3,h32,q33,h35,q36])
    refine ADraw.eff [] [(0,0),(0,0),(0,0),(0,0),(0,1),(0,0),(0,0),(0,0),(0,2),(0,2)] [1,1,1,1,2,1,1,1,1,1] follows (by kernel_rfl) (by kernel_rfl) (by kernel_rfl) ?_
    cases hF
    repeat(first|refine chk.ga ?_|simp -dsimp[h1,q2,z3,h32,q33,h35,q36])
    all_goals(try first|omega|rfl)
theorem C.f69 (code:List Int)(r:Vl.Expr)(hF:F.f69 code=some r):PureCall Try.prog B 7 [.arr (List.map cU code)] (.agg [.lit (.int .i64 r.op),.lit (.int .i64 r.n),.lit (.int .i64 r.ctor),.arr (List.map Vl.Expr.c r.kids)]):=by
 unfold F.f69 at hF
 refine PureCall.enterLe Try.func7 (by kernel_rfl) rfl Try.ntmps7 (by simp) (by simp) ?_
 repeat(first|refine chk.ga ?_|simp -dsimp)
 have hF:=ob hF;obtain⟨v,e1,hF⟩:=hF
 refine((C.f68 B hB1 hB2 code v e1)).goW (by simp) (by simp) ?_
 cases hF
 repeat(first|refine chk.ga ?_|simp -dsimp)
 all_goals(try first|omega|rfl)
theorem C.f70 (n:Int)(low:Int)(high:Int)(r:Bool)(hF:F.f70 n low high=some r):PureCall Try.prog B 44 [.lit (.int .i64 n),.lit (.int .i64 low),.lit (.int .i64 high)] (.lit (.bool r)):=by
 unfold F.f70 at hF
 refine PureCall.enterLe Try.func44 (by kernel_rfl) rfl Try.ntmps44 (by simp) (by simp) ?_
 repeat(first|refine chk.ga ?_|simp -dsimp)
 refine abr.split (fun h1=> ?_) (fun h1=> ?_)
 ·have q2:(low≤n):=auq h1
  rw[if_pos q2]at hF
  cases hF
  repeat(first|refine chk.ga ?_|simp -dsimp[h1])
  all_goals(try first|omega|rfl)
 ·have q2:¬(low≤n):=auq h1
  rw[if_neg q2]at hF
  cases hF
  repeat(first|refine chk.ga ?_|simp -dsimp[h1,q2])
  all_goals(try first|omega|rfl)
theorem CC.f71  :(∀(e:Vl.Expr) (set':Nat→Bool) (r:Nat→Bool),F.f71 e set'=some r→MutCall Try.prog B 21 (fcB 4 set') [.agg [.lit (.int .i64 e.op),.lit (.int .i64 e.n),.lit (.int .i64 e.ctor),.arr (List.map Vl.Expr.c e.kids)],.ptr 0 0] (.tup []) (fcB 4 r))∧
  (∀(e:Vl.Expr) (set'28:Nat→Bool) (i29:Nat) (o:Nat→Bool),F.f74 e set'28 i29=some o→∀(c:Code),navO [1,1,1,0,0] (bodyOf Try.f21)=some c→∀(Q:Exit→ASt→Prop),(Q (.exit 0) ⟨[],[.cells (fcB 4 o)]⟩)→ALoopU Try.prog B 1 30 (hold c .mk) ⟨[(1,.ptr 0 0),(20,.arr (List.map Vl.Expr.c e.kids)),(21,.lit (.int .i64 (e.kids.length:Int))),(22,.lit (.int .i64 (i29:Int)))],[.cells (fcB 4 set'28)]⟩ (hold Q .mk))∧
  (∀(e:Vl.Expr) (set'16:Nat→Bool) (i17:Nat) (o:Nat→Bool),F.f73 e set'16 i17=some o→∀(c:Code),navO [1,1,1,0,0] (bodyOf Try.f21)=some c→∀(Q:Exit→ASt→Prop),(Q (.exit 0) ⟨[],[.cells (fcB 4 o)]⟩)→ALoopU Try.prog B 1 30 (hold c .mk) ⟨[(1,.ptr 0 0),(20,.arr (List.map Vl.Expr.c e.kids)),(21,.lit (.int .i64 (e.kids.length:Int))),(22,.lit (.int .i64 (i17:Int)))],[.cells (fcB 4 set'16)]⟩ (hold Q .mk))∧
  (∀(e:Vl.Expr) (set'7:Nat→Bool) (i:Nat) (o:Nat→Bool),F.f72 e set'7 i=some o→∀(c:Code),navO [1,1,1,0,0] (bodyOf Try.f21)=some c→∀(Q:Exit→ASt→Prop),(Q (.exit 0) ⟨[],[.cells (fcB 4 o)]⟩)→ALoopU Try.prog B 1 30 (hold c .mk) ⟨[(1,.ptr 0 0),(20,.arr (List.map Vl.Expr.c e.kids)),(21,.lit (.int .i64 (e.kids.length:Int))),(22,.lit (.int .i64 (i:Int)))],[.cells (fcB 4 set'7)]⟩ (hold Q .mk)):=by
 refine F.f71.mutual_partial_correctness 
  _ _ _ _
  ?_ ?_ ?_ ?_
 ·intro _f_f74 _f_f73 _f_f72 ih_f74 ih_f73 ih_f72 e set' r hF
  refine MutCall.enter Try.func21 (by kernel_rfl) rfl Try.ntmps21 (by simp) (by simp) (by simp) (by simp) ?_
  repeat(first|refine chk.ga ?_|simp -dsimp)
  refine abr.split (fun h1=> ?_) (fun h1=> ?_)
  ·have q2:(e.op=5):=auq h1
   rw[if_pos q2]at hF
   repeat(first|refine chk.ga ?_|simp -dsimp[h1])
   have hF:=ob hF;obtain⟨v,e3,hF⟩:=hF
   refine((C.f70 B hB1 hB2 e.n (0:Int) (3:Int) v e3)).goW (by first|simp[h1];done|simp_all) (by simp) ?_
   repeat(first|refine chk.ga ?_|simp -dsimp[h1])
   refine abr.split (fun h4=> ?_) (fun h4=> ?_)
   ·have q5:(v=true):=auq h4
    rw[if_pos q5]at hF
    repeat(first|refine chk.ga ?_|simp -dsimp[h1,h4])
    refine ADraw.eff [] [(0,0),(0,0),(0,0),(0,0),(0,0),(0,1)] [1,1,1,1,1,1] follows (by kernel_rfl) (by kernel_rfl) (by kernel_rfl) ?_
    have hF:=oc hF;obtain⟨c6,hF⟩:=hF
    repeat(first|refine chk.ga ?_|simp -dsimp[h1,h4,c6])
    have hF:=ob hF;obtain⟨o',ho15,hF⟩:=hF
    refine ALoop.goU _ ?_ ((ih_f72 e (updF set' e.n.toNat true) 0 o' ho15) _ rfl _ ?_)
    ·exact(Gh.to3 (by simp) (by first|simp -dsimp[h1,h4,c6];done|simp_all))
    cases hF
    repeat(first|refine chk.ga ?_|simp -dsimp)
    all_goals(try first|omega|rfl)
   ·have q5:¬(v=true):=auq h4
    rw[if_neg q5]at hF
    repeat(first|refine chk.ga ?_|simp -dsimp[h1,h4,q5])
    have hF:=ob hF;obtain⟨o'27,ho26,hF⟩:=hF
    refine ALoop.goU _ ?_ ((ih_f73 e set' 0 o'27 ho26) _ rfl _ ?_)
    ·exact(Gh.to3 (by simp) (by first|simp -dsimp[h1,h4,q5];done|simp_all))
    cases hF
    repeat(first|refine chk.ga ?_|simp -dsimp)
    all_goals(try first|omega|rfl)
  ·have q2:¬(e.op=5):=auq h1
   rw[if_neg q2]at hF
   repeat(first|refine chk.ga ?_|simp -dsimp[h1,q2])
   have hF:=ob hF;obtain⟨o'39,ho38,hF⟩:=hF
   refine ALoop.goU _ ?_ ((ih_f74 e set' 0 o'39 ho38) _ rfl _ ?_)
   ·exact(Gh.to3 (by simp) (by first|simp -dsimp[h1,q2];done|simp_all))
   cases hF
   repeat(first|refine chk.ga ?_|simp -dsimp)
   all_goals(try first|omega|rfl)
 ·intro _f_f71 _f_f74 ih_f71 ih_f74 e set'28 i29 o hF
  intro c hc Q hq
  obtain rfl:c=_:=navEq hc rfl
  refine ALoopU.know fun hk hs=> ?_
  have b20:=hk 20
  simp -dsimp at b20
  clear hk hs
  refine ALoopU.enter ?_
  repeat(first|refine chk.ga ?_|simp -dsimp)
  refine abr.split (fun h30=> ?_) (fun h30=> ?_)
  ·have q31:(i29<e.kids.length):=auq h30
   have z32:((i29:Int)<(e.kids.length:Int)):=auz
   rw[if_pos q31]at hF
   have hF:=ob hF;obtain⟨x33,e34,hF⟩:=hF
   have le34:=lt_of_get e34
   repeat(first|refine chk.ga ?_|simp -dsimp[h30,z32,↓e34])
   have hF:=ob hF;obtain⟨v35,e36,hF⟩:=hF
   refine((ih_f71 x33 set'28 v35 e36)).go 0 rfl (by first|simp[h30,z32,↓e34];done|simp_all) (by simp) (by first|simp[h30,z32,↓e34];done|simp_all) ?_
   have w37:IntKind.i64.wrap ((i29:Int)+1)=(i29:Int)+1:=wrap_in (by omega) (by omega)
   repeat(first|refine chk.ga ?_|simp -dsimp[h30,z32,↓e34,w37])
   refine Again.go _ ?_ ((ih_f74 e v35 (i29+1) o hF) _ rfl _ hq)
   exact(Gh.to3 (by simp) (by first|simp -dsimp[h30,z32,↓e34,w37];done|simp_all))
  ·have q31:¬(i29<e.kids.length):=auq h30
   have z32:¬((i29:Int)<(e.kids.length:Int)):=auz
   rw[if_neg q31]at hF
   cases hF
   repeat(first|refine chk.ga ?_|simp -dsimp[h30,q31,z32])
   refine Leave.go ⟨[],[.cells (fcB 4 set'28)]⟩ (Gh.to3 (by simp) (by first|simp -dsimp[h30,q31,z32];done|simp_all)) ?_
   exact hq
 ·intro _f_f71 _f_f73 ih_f71 ih_f73 e set'16 i17 o hF
  intro c hc Q hq
  obtain rfl:c=_:=navEq hc rfl
  refine ALoopU.know fun hk hs=> ?_
  have b20:=hk 20
  simp -dsimp at b20
  clear hk hs
  refine ALoopU.enter ?_
  repeat(first|refine chk.ga ?_|simp -dsimp)
  refine abr.split (fun h18=> ?_) (fun h18=> ?_)
  ·have q19:(i17<e.kids.length):=auq h18
   have z20:((i17:Int)<(e.kids.length:Int)):=auz
   rw[if_pos q19]at hF
   have hF:=ob hF;obtain⟨x21,e22,hF⟩:=hF
   have le22:=lt_of_get e22
   repeat(first|refine chk.ga ?_|simp -dsimp[h18,z20,↓e22])
   have hF:=ob hF;obtain⟨v23,e24,hF⟩:=hF
   refine((ih_f71 x21 set'16 v23 e24)).go 0 rfl (by first|simp[h18,z20,↓e22];done|simp_all) (by simp) (by first|simp[h18,z20,↓e22];done|simp_all) ?_
   have w25:IntKind.i64.wrap ((i17:Int)+1)=(i17:Int)+1:=wrap_in (by omega) (by omega)
   repeat(first|refine chk.ga ?_|simp -dsimp[h18,z20,↓e22,w25])
   refine Again.go _ ?_ ((ih_f73 e v23 (i17+1) o hF) _ rfl _ hq)
   exact(Gh.to3 (by simp) (by first|simp -dsimp[h18,z20,↓e22,w25];done|simp_all))
  ·have q19:¬(i17<e.kids.length):=auq h18
   have z20:¬((i17:Int)<(e.kids.length:Int)):=auz
   rw[if_neg q19]at hF
   cases hF
   repeat(first|refine chk.ga ?_|simp -dsimp[h18,q19,z20])
   refine Leave.go ⟨[],[.cells (fcB 4 set'16)]⟩ (Gh.to3 (by simp) (by first|simp -dsimp[h18,q19,z20];done|simp_all)) ?_
   exact hq
 ·intro _f_f71 _f_f72 ih_f71 ih_f72 e set'7 i o hF
  intro c hc Q hq
  obtain rfl:c=_:=navEq hc rfl
  refine ALoopU.know fun hk hs=> ?_
  have b20:=hk 20
  simp -dsimp at b20
  clear hk hs
  refine ALoopU.enter ?_
  repeat(first|refine chk.ga ?_|simp -dsimp)
  refine abr.split (fun h8=> ?_) (fun h8=> ?_)
  ·have q9:(i<e.kids.length):=auq h8
   have z10:((i:Int)<(e.kids.length:Int)):=auz
   rw[if_pos q9]at hF
   have hF:=ob hF;obtain⟨x,e11,hF⟩:=hF
   have le11:=lt_of_get e11
   repeat(first|refine chk.ga ?_|simp -dsimp[h8,z10,↓e11])
   have hF:=ob hF;obtain⟨v12,e13,hF⟩:=hF
   refine((ih_f71 x set'7 v12 e13)).go 0 rfl (by first|simp[h8,z10,↓e11];done|simp_all) (by simp) (by first|simp[h8,z10,↓e11];done|simp_all) ?_
   have w14:IntKind.i64.wrap ((i:Int)+1)=(i:Int)+1:=wrap_in (by omega) (by omega)
   repeat(first|refine chk.ga ?_|simp -dsimp[h8,z10,↓e11,w14])
   refine Again.go _ ?_ ((ih_f72 e v12 (i+1) o hF) _ rfl _ hq)
   exact(Gh.to3 (by simp) (by first|simp -dsimp[h8,z10,↓e11,w14];done|simp_all))
  ·have q9:¬(i<e.kids.length):=auq h8
   have z10:¬((i:Int)<(e.kids.length:Int)):=auz
   rw[if_neg q9]at hF
   cases hF
   repeat(first|refine chk.ga ?_|simp -dsimp[h8,q9,z10])
   refine Leave.go ⟨[],[.cells (fcB 4 set'7)]⟩ (Gh.to3 (by simp) (by first|simp -dsimp[h8,q9,z10];done|simp_all)) ?_
   exact hq
theorem CC.f75 (v:Nat→Bool):(∀(i:Nat) (out:List Int) (o:List Int),F.f75 v i out=some o→∀(c:Code),navO [1,1,1,1,0,1,0,0] (bodyOf Try.f8)=some c→∀(Q:Exit→ASt→Prop),(Q (.exit 0) ⟨[(4,.own 2 (List.length (α:=Int) o))],[.dead,.dead,.elems 1 (List.map cI o)]⟩)→ALoopU Try.prog B 0 21 (hold c .mk) ⟨[(4,.own 2 (List.length (α:=Int) out)),(9,.agg (fcB 4 v)),(10,.lit (.int .i64 (i:Int)))],[.dead,.dead,.elems 1 (List.map cI out)]⟩ (hold Q .mk)):=by
 refine F.f75.partial_correctness v
  _
  ?_
 ·intro _f_f75 ih_f75 i out o hF
  intro c hc Q hq
  obtain rfl:c=_:=navEq hc rfl
  refine ALoopU.know fun hk hs=> ?_
  have d2:=hs 2 _ rfl
  simp -dsimp[Blk.bnd]at d2
  clear hk hs
  refine ALoopU.enter ?_
  repeat(first|refine chk.ga ?_|simp -dsimp)
  refine abr.split (fun h2=> ?_) (fun h2=> ?_)
  ·have q3:(i<4):=auq h2
   have z4:((i:Int)<(4:Int)):=auz
   rw[if_pos q3]at hF
   have c5:i<4:=by assumption
   repeat(first|refine chk.ga ?_|simp -dsimp[h2,z4,c5])
   refine abr.split (fun h6=> ?_) (fun h6=> ?_)
   ·have q7:(v i=true):=auq h6
    rw[if_pos q7]at hF
    have hF:=oc hF;obtain⟨c8,hF⟩:=hF
    have hF:=oc hF;obtain⟨c9,hF⟩:=hF
    have w10:IntKind.i64.wrap ((i:Int)+1)=(i:Int)+1:=wrap_in (by omega) (by omega)
    repeat(first|refine chk.ga ?_|simp -dsimp[h2,z4,c5,h6,w10])
    refine Again.go _ ?_ ((ih_f75 (i+1) (out++[(i:Int)]) o hF) _ rfl _ hq)
    exact(Gh.to3 (by simp) (by first|simp -dsimp[h2,z4,c5,h6,w10];done|simp_all))
   ·have q7:¬(v i=true):=auq h6
    rw[if_neg q7]at hF
    have hF:=oc hF;obtain⟨c11,hF⟩:=hF
    have w12:IntKind.i64.wrap ((i:Int)+1)=(i:Int)+1:=wrap_in (by omega) (by omega)
    repeat(first|refine chk.ga ?_|simp -dsimp[h2,z4,c5,h6,q7,w12])
    refine Again.go _ ?_ ((ih_f75 (i+1) out o hF) _ rfl _ hq)
    exact(Gh.to3 (by simp) (by first|simp -dsimp[h2,z4,c5,h6,q7,w12];done|simp_all))
  ·have q3:¬(i<4):=auq h2
   have z4:¬((i:Int)<(4:Int)):=auz
   rw[if_neg q3]at hF
   cases hF
   repeat(first|refine chk.ga ?_|simp -dsimp[h2,q3,z4])
   refine Leave.go ⟨[(4,.own 2 (List.length (α:=Int) out))],[.dead,.dead,.elems 1 (List.map cI out)]⟩ (Gh.to3 (by simp) (by first|simp -dsimp[h2,q3,z4];done|simp_all)) ?_
   exact hq
theorem C.f76 (e:Vl.Expr)(r:List Int)(hF:F.f76 e=some r):PureCall Try.prog B 8 [.agg [.lit (.int .i64 e.op),.lit (.int .i64 e.n),.lit (.int .i64 e.ctor),.arr (List.map Vl.Expr.c e.kids)]] (.arr (List.map cI r)):=by
 unfold F.f76 at hF
 refine PureCall.enterLe Try.func8 (by kernel_rfl) rfl Try.ntmps8 (by simp) (by simp) ?_
 repeat(first|refine chk.ga ?_|simp -dsimp)
 have hF:=ob hF;obtain⟨v,e1,hF⟩:=hF
 refine(((CC.f71 B hB1 hB2).1 e (fun _=>false) v e1)).go 1 rfl (by simp) (by simp) (by simp) ?_
 repeat(first|refine chk.ga ?_|simp -dsimp)
 have hF:=ob hF;obtain⟨o',ho13,hF⟩:=hF
 refine ALoop.goU ⟨[(4,.own 2 (List.length (α:=Int) [])),(9,.agg (fcB 4 v)),(10,.lit (.int .i64 (0:Int)))],[.dead,.dead,.elems 1 (List.map cI [])]⟩ (by refine Gh.trans (Gh.nil 4 1 (by simp -dsimp)) ?_;exact(Gh.to3 (by simp) (by simp -dsimp))) ?_
 refine((CC.f75 B hB1 hB2 v) 0 [] o' ho13) _ rfl _ ?_
 cases hF
 repeat(first|refine chk.ga ?_|simp -dsimp)
 all_goals(try first|omega|rfl)
theorem CC.f77  :(∀(flags:List Bool) (e:Vl.Expr) (r:List Bool),F.f77 flags e=some r→BCall Try.prog B 22 [.elems 1 (List.map cB flags)] [.own 0 (List.length (α:=Bool) flags),.agg [.lit (.int .i64 e.op),.lit (.int .i64 e.n),.lit (.int .i64 e.ctor),.arr (List.map Vl.Expr.c e.kids)]] (.own 0 (List.length (α:=Bool) r)) [.elems 1 (List.map cB r)])∧
  (∀(e:Vl.Expr) (flags41:List Bool) (i42:Nat) (o:List Bool),F.f81 e flags41 i42=some o→∀(c:Code),navO [1,1,0,1,0,0] (bodyOf Try.f22)=some c→∀(Q:Exit→ASt→Prop),(Q (.exit 0) ⟨[(0,.own 0 (List.length (α:=Bool) o))],[.elems 1 (List.map cB o)]⟩)→ALoopU Try.prog B 1 40 (hold c .mk) ⟨[(0,.own 0 (List.length (α:=Bool) flags41)),(3,.ptr 1 0),(5,.lit (.int .i64 (i42:Int)))],[.elems 1 (List.map cB flags41),.cells [.lit (.int .i64 e.op),.lit (.int .i64 e.n),.lit (.int .i64 e.ctor),.arr (List.map Vl.Expr.c e.kids)]]⟩ (hold Q .mk))∧
  (∀(e:Vl.Expr) (flags29:List Bool) (i30:Nat) (o:List Bool),F.f80 e flags29 i30=some o→∀(c:Code),navO [1,1,0,1,0,0] (bodyOf Try.f22)=some c→∀(Q:Exit→ASt→Prop),(Q (.exit 0) ⟨[(0,.own 0 (List.length (α:=Bool) o))],[.elems 1 (List.map cB o)]⟩)→ALoopU Try.prog B 1 40 (hold c .mk) ⟨[(0,.own 0 (List.length (α:=Bool) flags29)),(3,.ptr 1 0),(5,.lit (.int .i64 (i30:Int)))],[.elems 1 (List.map cB flags29),.cells [.lit (.int .i64 e.op),.lit (.int .i64 e.n),.lit (.int .i64 e.ctor),.arr (List.map Vl.Expr.c e.kids)]]⟩ (hold Q .mk))∧
  (∀(e:Vl.Expr) (flags17:List Bool) (i18:Nat) (o:List Bool),F.f79 e flags17 i18=some o→∀(c:Code),navO [1,1,0,1,0,0] (bodyOf Try.f22)=some c→∀(Q:Exit→ASt→Prop),(Q (.exit 0) ⟨[(0,.own 0 (List.length (α:=Bool) o))],[.elems 1 (List.map cB o)]⟩)→ALoopU Try.prog B 1 40 (hold c .mk) ⟨[(0,.own 0 (List.length (α:=Bool) flags17)),(3,.ptr 1 0),(5,.lit (.int .i64 (i18:Int)))],[.elems 1 (List.map cB flags17),.cells [.lit (.int .i64 e.op),.lit (.int .i64 e.n),.lit (.int .i64 e.ctor),.arr (List.map Vl.Expr.c e.kids)]]⟩ (hold Q .mk))∧
  (∀(e:Vl.Expr) (flags8:List Bool) (i:Nat) (o:List Bool),F.f78 e flags8 i=some o→∀(c:Code),navO [1,1,0,1,0,0] (bodyOf Try.f22)=some c→∀(Q:Exit→ASt→Prop),(Q (.exit 0) ⟨[(0,.own 0 (List.length (α:=Bool) o))],[.elems 1 (List.map cB o)]⟩)→ALoopU Try.prog B 1 40 (hold c .mk) ⟨[(0,.own 0 (List.length (α:=Bool) flags8)),(3,.ptr 1 0),(5,.lit (.int .i64 (i:Int)))],[.elems 1 (List.map cB flags8),.cells [.lit (.int .i64 e.op),.lit (.int .i64 e.n),.lit (.int .i64 e.ctor),.arr (List.map Vl.Expr.c e.kids)]]⟩ (hold Q .mk)):=by
 refine F.f77.mutual_partial_correctness 
  _ _ _ _ _
  ?_ ?_ ?_ ?_ ?_
 ·intro _f_f81 _f_f80 _f_f79 _f_f78 ih_f81 ih_f80 ih_f79 ih_f78 flags e r hF
  refine BCall.enter Try.func22 (by kernel_rfl) rfl Try.ntmps22 (by simp) rfl (by simp) (by simp) (by simp) (by simp) (by simp) (Gh.refl _) ?_
  repeat(first|refine chk.ga ?_|simp -dsimp)
  refine abr.split (fun h1=> ?_) (fun h1=> ?_)
  ·have q2:(e.op=5):=auq h1
   rw[if_pos q2]at hF
   repeat(first|refine chk.ga ?_|simp -dsimp[h1])
   refine abr.split (fun h3=> ?_) (fun h3=> ?_)
   ·have q4:(0≤e.n):=auq h3
    rw[if_pos q4]at hF
    repeat(first|refine chk.ga ?_|simp -dsimp[h1,h3])
    refine abr.split (fun h5=> ?_) (fun h5=> ?_)
    ·have q6:(e.n<(flags.length:Int)):=auq h5
     rw[if_pos q6]at hF
     have hF:=ob hF;obtain⟨x,e7a,hF⟩:=hF
     have e7a:=at_some e7a;obtain⟨ne7,e7⟩:=e7a
     have le7:=lt_of_get e7
     repeat(first|refine chk.ga ?_|simp -dsimp[h1,h3,h5,↓e7])
     have hF:=ob hF;obtain⟨o',ho16,hF⟩:=hF
     refine ALoop.goU _ ?_ ((ih_f78 e (flags.set e.n.toNat true) 0 o' ho16) _ rfl _ ?_)
     ·exact(Gh.to3 (by simp) (by first|simp -dsimp[h1,h3,h5,↓e7];done|simp_all))
     cases hF
     repeat(first|refine chk.ga ?_|simp -dsimp)
     all_goals(try first|omega|rfl)
    ·have q6:¬(e.n<(flags.length:Int)):=auq h5
     rw[if_neg q6]at hF
     repeat(first|refine chk.ga ?_|simp -dsimp[h1,h3,h5,q6])
     have hF:=ob hF;obtain⟨o'28,ho27,hF⟩:=hF
     refine ALoop.goU _ ?_ ((ih_f79 e flags 0 o'28 ho27) _ rfl _ ?_)
     ·exact(Gh.to3 (by simp) (by first|simp -dsimp[h1,h3,h5,q6];done|simp_all))
     cases hF
     repeat(first|refine chk.ga ?_|simp -dsimp)
     all_goals(try first|omega|rfl)
   ·have q4:¬(0≤e.n):=auq h3
    rw[if_neg q4]at hF
    repeat(first|refine chk.ga ?_|simp -dsimp[h1,h3,q4])
    have hF:=ob hF;obtain⟨o'40,ho39,hF⟩:=hF
    refine ALoop.goU _ ?_ ((ih_f80 e flags 0 o'40 ho39) _ rfl _ ?_)
    ·exact(Gh.to3 (by simp) (by first|simp -dsimp[h1,h3,q4];done|simp_all))
    cases hF
    repeat(first|refine chk.ga ?_|simp -dsimp)
    all_goals(try first|omega|rfl)
  ·have q2:¬(e.op=5):=auq h1
   rw[if_neg q2]at hF
   repeat(first|refine chk.ga ?_|simp -dsimp[h1,q2])
   have hF:=ob hF;obtain⟨o'52,ho51,hF⟩:=hF
   refine ALoop.goU _ ?_ ((ih_f81 e flags 0 o'52 ho51) _ rfl _ ?_)
   ·exact(Gh.to3 (by simp) (by first|simp -dsimp[h1,q2];done|simp_all))
   cases hF
   repeat(first|refine chk.ga ?_|simp -dsimp)
   all_goals(try first|omega|rfl)
 ·intro _f_f77 _f_f81 ih_f77 ih_f81 e flags41 i42 o hF
  intro c hc Q hq
  obtain rfl:c=_:=navEq hc rfl
  refine ALoopU.know fun hk hs=> ?_
  have d0:=hs 0 _ rfl
  simp -dsimp[Blk.bnd]at d0
  have d1:=hs 1 _ rfl
  simp -dsimp[Blk.bnd]at d1
  clear hk hs
  refine ALoopU.enter ?_
  repeat(first|refine chk.ga ?_|simp -dsimp)
  refine abr.split (fun h43=> ?_) (fun h43=> ?_)
  ·have q44:(i42<e.kids.length):=auq h43
   have z45:((i42:Int)<(e.kids.length:Int)):=auz
   rw[if_pos q44]at hF
   have hF:=ob hF;obtain⟨x46,e47,hF⟩:=hF
   have le47:=lt_of_get e47
   repeat(first|refine chk.ga ?_|simp -dsimp[h43,z45,↓e47])
   have hF:=ob hF;obtain⟨v48,e49,hF⟩:=hF
   refine((ih_f77 flags41 x46 v48 e49)).go (pl [0]) (by simp) (by simp) (plInj _ rfl (by decide)) (by intro i hi hi';simp at hi hi';first|omega|(subst hi';simp[pl])) (by first|simp[h43,z45,↓e47];done|simp_all) (by first|simp[h43,z45,↓e47];done|simp_all) ?_
   have w50:IntKind.i64.wrap ((i42:Int)+1)=(i42:Int)+1:=wrap_in (by omega) (by omega)
   repeat(first|refine chk.ga ?_|simp -dsimp[h43,z45,↓e47,w50])
   refine Again.go _ ?_ ((ih_f81 e v48 (i42+1) o hF) _ rfl _ hq)
   exact(Gh.to3 (by simp) (by first|simp -dsimp[h43,z45,↓e47,w50];done|simp_all))
  ·have q44:¬(i42<e.kids.length):=auq h43
   have z45:¬((i42:Int)<(e.kids.length:Int)):=auz
   rw[if_neg q44]at hF
   cases hF
   repeat(first|refine chk.ga ?_|simp -dsimp[h43,q44,z45])
   refine Leave.go ⟨[(0,.own 0 (List.length (α:=Bool) flags41))],[.elems 1 (List.map cB flags41)]⟩ (Gh.to3 (by simp) (by first|simp -dsimp[h43,q44,z45];done|simp_all)) ?_
   exact hq
 ·intro _f_f77 _f_f80 ih_f77 ih_f80 e flags29 i30 o hF
  intro c hc Q hq
  obtain rfl:c=_:=navEq hc rfl
  refine ALoopU.know fun hk hs=> ?_
  have d0:=hs 0 _ rfl
  simp -dsimp[Blk.bnd]at d0
  have d1:=hs 1 _ rfl
  simp -dsimp[Blk.bnd]at d1
  clear hk hs
  refine ALoopU.enter ?_
  repeat(first|refine chk.ga ?_|simp -dsimp)
  refine abr.split (fun h31=> ?_) (fun h31=> ?_)
  ·have q32:(i30<e.kids.length):=auq h31
   have z33:((i30:Int)<(e.kids.length:Int)):=auz
   rw[if_pos q32]at hF
   have hF:=ob hF;obtain⟨x34,e35,hF⟩:=hF
   have le35:=lt_of_get e35
   repeat(first|refine chk.ga ?_|simp -dsimp[h31,z33,↓e35])
   have hF:=ob hF;obtain⟨v36,e37,hF⟩:=hF
   refine((ih_f77 flags29 x34 v36 e37)).go (pl [0]) (by simp) (by simp) (plInj _ rfl (by decide)) (by intro i hi hi';simp at hi hi';first|omega|(subst hi';simp[pl])) (by first|simp[h31,z33,↓e35];done|simp_all) (by first|simp[h31,z33,↓e35];done|simp_all) ?_
   have w38:IntKind.i64.wrap ((i30:Int)+1)=(i30:Int)+1:=wrap_in (by omega) (by omega)
   repeat(first|refine chk.ga ?_|simp -dsimp[h31,z33,↓e35,w38])
   refine Again.go _ ?_ ((ih_f80 e v36 (i30+1) o hF) _ rfl _ hq)
   exact(Gh.to3 (by simp) (by first|simp -dsimp[h31,z33,↓e35,w38];done|simp_all))
  ·have q32:¬(i30<e.kids.length):=auq h31
   have z33:¬((i30:Int)<(e.kids.length:Int)):=auz
   rw[if_neg q32]at hF
   cases hF
   repeat(first|refine chk.ga ?_|simp -dsimp[h31,q32,z33])
   refine Leave.go ⟨[(0,.own 0 (List.length (α:=Bool) flags29))],[.elems 1 (List.map cB flags29)]⟩ (Gh.to3 (by simp) (by first|simp -dsimp[h31,q32,z33];done|simp_all)) ?_
   exact hq
 ·intro _f_f77 _f_f79 ih_f77 ih_f79 e flags17 i18 o hF
  intro c hc Q hq
  obtain rfl:c=_:=navEq hc rfl
  refine ALoopU.know fun hk hs=> ?_
  have d0:=hs 0 _ rfl
  simp -dsimp[Blk.bnd]at d0
  have d1:=hs 1 _ rfl
  simp -dsimp[Blk.bnd]at d1
  clear hk hs
  refine ALoopU.enter ?_
  repeat(first|refine chk.ga ?_|simp -dsimp)
  refine abr.split (fun h19=> ?_) (fun h19=> ?_)
  ·have q20:(i18<e.kids.length):=auq h19
   have z21:((i18:Int)<(e.kids.length:Int)):=auz
   rw[if_pos q20]at hF
   have hF:=ob hF;obtain⟨x22,e23,hF⟩:=hF
   have le23:=lt_of_get e23
   repeat(first|refine chk.ga ?_|simp -dsimp[h19,z21,↓e23])
   have hF:=ob hF;obtain⟨v24,e25,hF⟩:=hF
   refine((ih_f77 flags17 x22 v24 e25)).go (pl [0]) (by simp) (by simp) (plInj _ rfl (by decide)) (by intro i hi hi';simp at hi hi';first|omega|(subst hi';simp[pl])) (by first|simp[h19,z21,↓e23];done|simp_all) (by first|simp[h19,z21,↓e23];done|simp_all) ?_
   have w26:IntKind.i64.wrap ((i18:Int)+1)=(i18:Int)+1:=wrap_in (by omega) (by omega)
   repeat(first|refine chk.ga ?_|simp -dsimp[h19,z21,↓e23,w26])
   refine Again.go _ ?_ ((ih_f79 e v24 (i18+1) o hF) _ rfl _ hq)
   exact(Gh.to3 (by simp) (by first|simp -dsimp[h19,z21,↓e23,w26];done|simp_all))
  ·have q20:¬(i18<e.kids.length):=auq h19
   have z21:¬((i18:Int)<(e.kids.length:Int)):=auz
   rw[if_neg q20]at hF
   cases hF
   repeat(first|refine chk.ga ?_|simp -dsimp[h19,q20,z21])
   refine Leave.go ⟨[(0,.own 0 (List.length (α:=Bool) flags17))],[.elems 1 (List.map cB flags17)]⟩ (Gh.to3 (by simp) (by first|simp -dsimp[h19,q20,z21];done|simp_all)) ?_
   exact hq
 ·intro _f_f77 _f_f78 ih_f77 ih_f78 e flags8 i o hF
  intro c hc Q hq
  obtain rfl:c=_:=navEq hc rfl
  refine ALoopU.know fun hk hs=> ?_
  have d0:=hs 0 _ rfl
  simp -dsimp[Blk.bnd]at d0
  have d1:=hs 1 _ rfl
  simp -dsimp[Blk.bnd]at d1
  clear hk hs
  refine ALoopU.enter ?_
  repeat(first|refine chk.ga ?_|simp -dsimp)
  refine abr.split (fun h9=> ?_) (fun h9=> ?_)
  ·have q10:(i<e.kids.length):=auq h9
   have z11:((i:Int)<(e.kids.length:Int)):=auz
   rw[if_pos q10]at hF
   have hF:=ob hF;obtain⟨x12,e13,hF⟩:=hF
   have le13:=lt_of_get e13
   repeat(first|refine chk.ga ?_|simp -dsimp[h9,z11,↓e13])
   have hF:=ob hF;obtain⟨v,e14,hF⟩:=hF
   refine((ih_f77 flags8 x12 v e14)).go (pl [0]) (by simp) (by simp) (plInj _ rfl (by decide)) (by intro i hi hi';simp at hi hi';first|omega|(subst hi';simp[pl])) (by first|simp[h9,z11,↓e13];done|simp_all) (by first|simp[h9,z11,↓e13];done|simp_all) ?_
   have w15:IntKind.i64.wrap ((i:Int)+1)=(i:Int)+1:=wrap_in (by omega) (by omega)
   repeat(first|refine chk.ga ?_|simp -dsimp[h9,z11,↓e13,w15])
   refine Again.go _ ?_ ((ih_f78 e v (i+1) o hF) _ rfl _ hq)
   exact(Gh.to3 (by simp) (by first|simp -dsimp[h9,z11,↓e13,w15];done|simp_all))
  ·have q10:¬(i<e.kids.length):=auq h9
   have z11:¬((i:Int)<(e.kids.length:Int)):=auz
   rw[if_neg q10]at hF
   cases hF
   repeat(first|refine chk.ga ?_|simp -dsimp[h9,q10,z11])
   refine Leave.go ⟨[(0,.own 0 (List.length (α:=Bool) flags8))],[.elems 1 (List.map cB flags8)]⟩ (Gh.to3 (by simp) (by first|simp -dsimp[h9,q10,z11];done|simp_all)) ?_
   exact hq
theorem CC.f82 (v:List Bool):(∀(out:List Int) (i:Nat) (o:List Int),F.f82 v out i=some o→∀(c:Code),navO [1,1,1,0,1,0,0] (bodyOf Try.f10)=some c→∀(Q:Exit→ASt→Prop),(Q (.exit 0) ⟨[(3,.own 1 (List.length (α:=Int) o))],[.dead,.elems 1 (List.map cI o)]⟩)→ALoopU Try.prog B 0 25 (hold c .mk) ⟨[(3,.own 1 (List.length (α:=Int) out)),(4,.own 2 (List.length (α:=Bool) v)),(5,.lit (.int .i64 (i:Int)))],[.dead,.elems 1 (List.map cI out),.elems 1 (List.map cB v)]⟩ (hold Q .mk)):=by
 refine F.f82.partial_correctness v
  _
  ?_
 ·intro _f_f82 ih_f82 out i o hF
  intro c hc Q hq
  obtain rfl:c=_:=navEq hc rfl
  refine ALoopU.know fun hk hs=> ?_
  have d1:=hs 1 _ rfl
  simp -dsimp[Blk.bnd]at d1
  have d2:=hs 2 _ rfl
  simp -dsimp[Blk.bnd]at d2
  clear hk hs
  refine ALoopU.enter ?_
  repeat(first|refine chk.ga ?_|simp -dsimp)
  refine abr.split (fun h3=> ?_) (fun h3=> ?_)
  ·have q4:(i<v.length):=auq h3
   have z5:((i:Int)<(v.length:Int)):=auz
   rw[if_pos q4]at hF
   have hF:=ob hF;obtain⟨x,e6,hF⟩:=hF
   have le6:=lt_of_get e6
   repeat(first|refine chk.ga ?_|simp -dsimp[h3,z5,↓e6])
   refine abr.split (fun h7=> ?_) (fun h7=> ?_)
   ·have q8:(x=true):=auq h7
    rw[if_pos q8]at hF
    have hF:=oc hF;obtain⟨c9,hF⟩:=hF
    have w10:IntKind.i64.wrap ((i:Int)+1)=(i:Int)+1:=wrap_in (by omega) (by omega)
    repeat(first|refine chk.ga ?_|simp -dsimp[h3,z5,↓e6,h7,w10])
    refine Again.go _ ?_ ((ih_f82 (out++[(i:Int)]) (i+1) o hF) _ rfl _ hq)
    exact(Gh.to3 (by simp) (by first|simp -dsimp[h3,z5,↓e6,h7,w10];done|simp_all))
   ·have q8:¬(x=true):=auq h7
    rw[if_neg q8]at hF
    have w11:IntKind.i64.wrap ((i:Int)+1)=(i:Int)+1:=wrap_in (by omega) (by omega)
    repeat(first|refine chk.ga ?_|simp -dsimp[h3,z5,↓e6,h7,q8,w11])
    refine Again.go _ ?_ ((ih_f82 out (i+1) o hF) _ rfl _ hq)
    exact(Gh.to3 (by simp) (by first|simp -dsimp[h3,z5,↓e6,h7,q8,w11];done|simp_all))
  ·have q4:¬(i<v.length):=auq h3
   have z5:¬((i:Int)<(v.length:Int)):=auz
   rw[if_neg q4]at hF
   cases hF
   repeat(first|refine chk.ga ?_|simp -dsimp[h3,q4,z5])
   refine Leave.go ⟨[(3,.own 1 (List.length (α:=Int) out))],[.dead,.elems 1 (List.map cI out)]⟩ (Gh.to3 (by simp) (by first|simp -dsimp[h3,q4,z5];done|simp_all)) ?_
   exact hq
theorem C.f83 (e:Vl.Expr)(r:List Int)(hF:F.f83 e=some r):PureCall Try.prog B 10 [.agg [.lit (.int .i64 e.op),.lit (.int .i64 e.n),.lit (.int .i64 e.ctor),.arr (List.map Vl.Expr.c e.kids)]] (.arr (List.map cI r)):=by
 unfold F.f83 at hF
 refine PureCall.enterLe Try.func10 (by kernel_rfl) rfl Try.ntmps10 (by simp) (by simp) ?_
 repeat(first|refine chk.ga ?_|simp -dsimp)
 refine ADraw.eff [22] [(0,2),(0,1),(0,2),(2,2)] [1,2,1,1] follows (by kernel_rfl) (by kernel_rfl) (by kernel_rfl) ?_
 have hF:=oc hF;obtain⟨c1,hF⟩:=hF
 repeat(first|refine chk.ga ?_|simp -dsimp)
 have hF:=ob hF;obtain⟨v,e2,hF⟩:=hF
 refine(((CC.f77 B hB1 hB2).1 (List.replicate 4 false) e v e2)).ego (pl [2]) (by simp) (by simp) (plInj _ rfl (by decide)) (by intro i hi hi';simp at hi hi';first|omega|(subst hi';simp[pl])) (by simp) (by simp) ?_
 repeat(first|refine chk.ga ?_|simp -dsimp)
 have hF:=ob hF;obtain⟨o',ho12,hF⟩:=hF
 refine ALoop.goU _ ?_ (((CC.f82 B hB1 hB2 v) [] 0 o' ho12) _ rfl _ ?_)
 ·exact(Gh.to3 (by simp) (by simp -dsimp))
 cases hF
 repeat(first|refine chk.ga ?_|simp -dsimp)
 all_goals(try first|omega|rfl)
theorem CC.f84 (a:List Int)(b:List Int):(∀(i:Nat) (o:Lo Bool Unit),F.f84 a b i=some o→∀(c:Code),navO [1,1,0,1,0,0] (bodyOf Try.f9)=some c→∀(Q:Exit→ASt→Prop),o.post (fun r=>∀st,Post Try.prog Try.f9 (fun r' _=>r'.le (.lit (.bool r))) .ret st→Q .ret st) (fun s=>Q (.exit 0) ⟨[],[]⟩)→ALoopU Try.prog B 0 26 (hold c .mk) ⟨[(0,.arr (List.map cI a)),(1,.arr (List.map cI b)),(5,.lit (.int .i64 (i:Int)))],[]⟩ (hold Q .mk)):=by
 refine F.f84.partial_correctness a b
  _
  ?_
 ·intro _f_f84 ih_f84 i o hF
  intro c hc Q hq
  obtain rfl:c=_:=navEq hc rfl
  refine ALoopU.know fun hk hs=> ?_
  have b0:=hk 0
  simp -dsimp at b0
  have b1:=hk 1
  simp -dsimp at b1
  clear hk hs
  refine ALoopU.enter ?_
  repeat(first|refine chk.ga ?_|simp -dsimp)
  refine abr.split (fun h4=> ?_) (fun h4=> ?_)
  ·have q5:(i<a.length):=auq h4
   have z6:((i:Int)<(a.length:Int)):=auz
   rw[if_pos q5]at hF
   repeat(first|refine chk.ga ?_|simp -dsimp[h4,z6])
   refine ADraw.simple follows (by kernel_rfl) (by kernel_rfl) ?_
   have hF:=ob hF;obtain⟨x,e7,hF⟩:=hF
   have le7:=lt_of_get e7
   have hF:=ob hF;obtain⟨x8,e9,hF⟩:=hF
   have le9:=lt_of_get e9
   repeat(first|refine chk.ga ?_|simp -dsimp[h4,z6,↓e7,↓e9])
   refine abr.split (fun h10=> ?_) (fun h10=> ?_)
   ·have q11:¬(x=x8):=auq h10
    rw[if_neg q11]at hF
    cases hF
    repeat(first|refine chk.ga ?_|simp -dsimp[h4,z6,↓e7,↓e9,h10,q11])
    refine Leave.go _ (Gh.refl _) (hq _ ?_)
    repeat(first|refine chk.ga ?_|simp -dsimp[h4,z6,↓e7,↓e9,h10,q11])
   ·have q11:(x=x8):=auq h10
    rw[if_pos q11]at hF
    have w12:IntKind.i64.wrap ((i:Int)+1)=(i:Int)+1:=wrap_in (by omega) (by omega)
    repeat(first|refine chk.ga ?_|simp -dsimp[h4,z6,↓e7,↓e9,h10,q11,w12])
    refine Again.go _ ?_ ((ih_f84 (i+1) o hF) _ rfl _ hq)
    exact(Gh.to3 (by simp) (by first|simp -dsimp[h4,z6,↓e7,↓e9,h10,q11,w12];done|simp_all))
  ·have q5:¬(i<a.length):=auq h4
   have z6:¬((i:Int)<(a.length:Int)):=auz
   rw[if_neg q5]at hF
   cases hF
   repeat(first|refine chk.ga ?_|simp -dsimp[h4,q5,z6])
   refine Leave.go ⟨[],[]⟩ (Gh.to3 (by simp) (by first|simp -dsimp[h4,q5,z6];done|simp_all)) ?_
   exact hq
theorem C.f85 (a:List Int)(b:List Int)(r:Bool)(hF:F.f85 a b=some r):PureCall Try.prog B 9 [.arr (List.map cI a),.arr (List.map cI b)] (.lit (.bool r)):=by
 unfold F.f85 at hF
 refine PureCall.enterLe Try.func9 (by kernel_rfl) rfl Try.ntmps9 (by simp) (by simp) ?_
 repeat(first|refine chk.ga ?_|simp -dsimp)
 refine abr.split (fun h1=> ?_) (fun h1=> ?_)
 ·have q2:¬(a.length=b.length):=auq h1
  have z3:¬((a.length:Int)=(b.length:Int)):=auz
  rw[if_neg q2]at hF
  cases hF
  repeat(first|refine chk.ga ?_|simp -dsimp[h1,q2,z3])
  all_goals(try first|omega|rfl)
 ·have q2:(a.length=b.length):=auq h1
  have z3:((a.length:Int)=(b.length:Int)):=auz
  rw[if_pos q2]at hF
  repeat(first|refine chk.ga ?_|simp -dsimp[h1,q2,z3])
  have hF:=ob hF;obtain⟨o',ho13,hF⟩:=hF
  refine ALoop.goU _ ?_ (((CC.f84 B hB1 hB2 a b) 0 o' ho13) _ rfl _ ?_)
  ·exact(Gh.to3 (by simp) (by first|simp -dsimp[h1,q2,z3];done|simp_all))
  rcases o' with r0|sx
  ·dsimp only at hF
   cases hF
   intro st h
   simpa using h
  ·dsimp only at hF
   cases hF
   repeat(first|refine chk.ga ?_|simp -dsimp)
   all_goals(try first|omega|rfl)
theorem CC.f86 (list:List Int)(n:Int):(∀(i:Nat) (o:Lo Bool Unit),F.f86 list n i=some o→∀(c:Code),navO [1,0,1,0,0] (bodyOf Try.f11)=some c→∀(Q:Exit→ASt→Prop),o.post (fun r=>∀st,Post Try.prog Try.f11 (fun r' _=>r'.le (.lit (.bool r))) .ret st→Q .ret st) (fun s=>Q (.exit 0) ⟨[],[]⟩)→ALoopU Try.prog B 0 18 (hold c .mk) ⟨[(0,.arr (List.map cI list)),(1,.lit (.int .i64 n)),(5,.lit (.int .i64 (i:Int)))],[]⟩ (hold Q .mk)):=by
 refine F.f86.partial_correctness list n
  _
  ?_
 ·intro _f_f86 ih_f86 i o hF
  intro c hc Q hq
  obtain rfl:c=_:=navEq hc rfl
  refine ALoopU.know fun hk hs=> ?_
  have b0:=hk 0
  simp -dsimp at b0
  clear hk hs
  refine ALoopU.enter ?_
  repeat(first|refine chk.ga ?_|simp -dsimp)
  refine abr.split (fun h1=> ?_) (fun h1=> ?_)
  ·have q2:(i<list.length):=auq h1
   have z3:((i:Int)<(list.length:Int)):=auz
   rw[if_pos q2]at hF
   have hF:=ob hF;obtain⟨x,e4,hF⟩:=hF
   have le4:=lt_of_get e4
   repeat(first|refine chk.ga ?_|simp -dsimp[h1,z3,↓e4])
   refine abr.split (fun h5=> ?_) (fun h5=> ?_)
   ·have q6:(x=n):=auq h5
    rw[if_pos q6]at hF
    cases hF
    repeat(first|refine chk.ga ?_|simp -dsimp[h1,z3,↓e4,h5])
    refine Leave.go _ (Gh.refl _) (hq _ ?_)
    repeat(first|refine chk.ga ?_|simp -dsimp[h1,z3,↓e4,h5])
   ·have q6:¬(x=n):=auq h5
    rw[if_neg q6]at hF
    have w7:IntKind.i64.wrap ((i:Int)+1)=(i:Int)+1:=wrap_in (by omega) (by omega)
    repeat(first|refine chk.ga ?_|simp -dsimp[h1,z3,↓e4,h5,q6,w7])
    refine Again.go _ ?_ ((ih_f86 (i+1) o hF) _ rfl _ hq)
    exact(Gh.to3 (by simp) (by first|simp -dsimp[h1,z3,↓e4,h5,q6,w7];done|simp_all))
  ·have q2:¬(i<list.length):=auq h1
   have z3:¬((i:Int)<(list.length:Int)):=auz
   rw[if_neg q2]at hF
   cases hF
   repeat(first|refine chk.ga ?_|simp -dsimp[h1,q2,z3])
   refine Leave.go ⟨[],[]⟩ (Gh.to3 (by simp) (by first|simp -dsimp[h1,q2,z3];done|simp_all)) ?_
   exact hq
theorem C.f87 (list:List Int)(n:Int)(r:Bool)(hF:F.f87 list n=some r):PureCall Try.prog B 11 [.arr (List.map cI list),.lit (.int .i64 n)] (.lit (.bool r)):=by
 unfold F.f87 at hF
 refine PureCall.enterLe Try.func11 (by kernel_rfl) rfl Try.ntmps11 (by simp) (by simp) ?_
 repeat(first|refine chk.ga ?_|simp -dsimp)
 have hF:=ob hF;obtain⟨o',ho8,hF⟩:=hF
 refine ALoop.goU _ ?_ (((CC.f86 B hB1 hB2 list n) 0 o' ho8) _ rfl _ ?_)
 ·exact(Gh.to3 (by simp) (by simp -dsimp))
 rcases o' with r0|sx
 ·dsimp only at hF
  cases hF
  intro st h
  simpa using h
 ·dsimp only at hF
  cases hF
  repeat(first|refine chk.ga ?_|simp -dsimp)
  all_goals(try first|omega|rfl)
theorem CC.f88 (v:Vl.Expr)(v5:List Int)(i:Nat)(v17:List Int):(∀(k:Nat) (o:Lo Bool Unit),F.f88 v v5 i v17 k=some o→∀(c:Code),navO [1,1,1,1,1,0,1,0,0,1,0,0,1,1,0,0] (bodyOf Try.f3)=some c→∀(Q:Exit→ASt→Prop),o.post (fun r=>∀st,Post Try.prog Try.f3 (fun r' _=>r'.le (.lit (.bool r))) .ret st→Q .ret st) (fun s=>Q (.exit 2) ⟨[(3,.ptr 0 0),(4,.arr (List.map cI v5)),(5,.lit (.int .i64 (i:Int)))],[.cells [.lit (.int .i64 v.op),.lit (.int .i64 v.n),.lit (.int .i64 v.ctor),.arr (List.map Vl.Expr.c v.kids)]]⟩)→ALoopU Try.prog B 0 65 (hold c .mk) ⟨[(3,.ptr 0 0),(4,.arr (List.map cI v5)),(5,.lit (.int .i64 (i:Int))),(6,.arr (List.map cI v17)),(7,.lit (.int .i64 (k:Int)))],[.cells [.lit (.int .i64 v.op),.lit (.int .i64 v.n),.lit (.int .i64 v.ctor),.arr (List.map Vl.Expr.c v.kids)]]⟩ (hold Q .mk)):=by
 refine F.f88.partial_correctness v v5 i v17
  _
  ?_
 ·intro _f_f88 ih_f88 k o hF
  intro c hc Q hq
  obtain rfl:c=_:=navEq hc rfl
  refine ALoopU.know fun hk hs=> ?_
  have b4:=hk 4
  simp -dsimp at b4
  have b6:=hk 6
  simp -dsimp at b6
  have d0:=hs 0 _ rfl
  simp -dsimp[Blk.bnd]at d0
  clear hk hs
  refine ALoopU.enter ?_
  repeat(first|refine chk.ga ?_|simp -dsimp)
  refine abr.split (fun h19=> ?_) (fun h19=> ?_)
  ·have q20:(k<v17.length):=auq h19
   have z21:((k:Int)<(v17.length:Int)):=auz
   rw[if_pos q20]at hF
   have hF:=ob hF;obtain⟨x22,e23,hF⟩:=hF
   have le23:=lt_of_get e23
   repeat(first|refine chk.ga ?_|simp -dsimp[h19,z21,↓e23])
   have hF:=ob hF;obtain⟨v24,e25,hF⟩:=hF
   refine((C.f87 B hB1 hB2 v5 x22 v24 e25)).goW (by first|simp[h19,z21,↓e23];done|simp_all) (by simp) ?_
   repeat(first|refine chk.ga ?_|simp -dsimp[h19,z21,↓e23])
   refine abr.split (fun h26=> ?_) (fun h26=> ?_)
   ·have q27:¬(v24=true):=auq h26
    rw[if_neg q27]at hF
    cases hF
    repeat(first|refine chk.ga ?_|simp -dsimp[h19,z21,↓e23,h26,q27])
    refine Leave.go _ (Gh.refl _) (hq _ ?_)
    repeat(first|refine chk.ga ?_|simp -dsimp[h19,z21,↓e23,h26,q27])
   ·have q27:(v24=true):=auq h26
    rw[if_pos q27]at hF
    have w28:IntKind.i64.wrap ((k:Int)+1)=(k:Int)+1:=wrap_in (by omega) (by omega)
    repeat(first|refine chk.ga ?_|simp -dsimp[h19,z21,↓e23,h26,q27,w28])
    refine Again.go _ ?_ ((ih_f88 (k+1) o hF) _ rfl _ hq)
    exact(Gh.to3 (by simp) (by first|simp -dsimp[h19,z21,↓e23,h26,q27,w28];done|simp_all))
  ·have q20:¬(k<v17.length):=auq h19
   have z21:¬((k:Int)<(v17.length:Int)):=auz
   rw[if_neg q20]at hF
   cases hF
   repeat(first|refine chk.ga ?_|simp -dsimp[h19,q20,z21])
   refine Leave.go ⟨[(3,.ptr 0 0),(4,.arr (List.map cI v5)),(5,.lit (.int .i64 (i:Int)))],[.cells [.lit (.int .i64 v.op),.lit (.int .i64 v.n),.lit (.int .i64 v.ctor),.arr (List.map Vl.Expr.c v.kids)]]⟩ (Gh.to3 (by simp) (by first|simp -dsimp[h19,q20,z21];done|simp_all)) ?_
   exact hq
theorem CC.f89 (v:Vl.Expr)(v5:List Int):(∀(i:Nat) (o:Lo Bool Unit),F.f89 v v5 i=some o→∀(c:Code),navO [1,1,1,1,1,0,1,0,0] (bodyOf Try.f3)=some c→∀(Q:Exit→ASt→Prop),o.post (fun r=>∀st,Post Try.prog Try.f3 (fun r' _=>r'.le (.lit (.bool r))) .ret st→Q .ret st) (fun s=>Q (.exit 0) ⟨[(3,.ptr 0 0),(4,.arr (List.map cI v5))],[.cells [.lit (.int .i64 v.op),.lit (.int .i64 v.n),.lit (.int .i64 v.ctor),.arr (List.map Vl.Expr.c v.kids)]]⟩)→ALoopU Try.prog B 0 65 (hold c .mk) ⟨[(3,.ptr 0 0),(4,.arr (List.map cI v5)),(5,.lit (.int .i64 (i:Int)))],[.cells [.lit (.int .i64 v.op),.lit (.int .i64 v.n),.lit (.int .i64 v.ctor),.arr (List.map Vl.Expr.c v.kids)]]⟩ (hold Q .mk)):=by
 refine F.f89.partial_correctness v v5
  _
  ?_
 ·intro _f_f89 ih_f89 i o hF
  intro c hc Q hq
  obtain rfl:c=_:=navEq hc rfl
  refine ALoopU.know fun hk hs=> ?_
  have b4:=hk 4
  simp -dsimp at b4
  have d0:=hs 0 _ rfl
  simp -dsimp[Blk.bnd]at d0
  clear hk hs
  refine ALoopU.enter ?_
  repeat(first|refine chk.ga ?_|simp -dsimp)
  refine abr.split (fun h13=> ?_) (fun h13=> ?_)
  ·have q14:(i<v.kids.length):=auq h13
   have z15:((i:Int)<(v.kids.length:Int)):=auz
   rw[if_pos q14]at hF
   have hF:=ob hF;obtain⟨x,e16,hF⟩:=hF
   have le16:=lt_of_get e16
   repeat(first|refine chk.ga ?_|simp -dsimp[h13,z15,↓e16])
   have hF:=ob hF;obtain⟨v17,e18,hF⟩:=hF
   refine((C.f76 B hB1 hB2 x v17 e18)).goW (by first|simp[h13,z15,↓e16];done|simp_all) (by simp) ?_
   repeat(first|refine chk.ga ?_|simp -dsimp[h13,z15,↓e16])
   have hF:=ob hF;obtain⟨o',ho29,hF⟩:=hF
   refine ALoop.goU _ ?_ (((CC.f88 B hB1 hB2 v v5 i v17) 0 o' ho29) _ rfl _ ?_)
   ·exact(Gh.to3 (by simp) (by first|simp -dsimp[h13,z15,↓e16];done|simp_all))
   rcases o' with r0|sx
   ·dsimp only at hF
    cases hF
    intro st h
    simp -dsimp
    refine Leave.go st (Gh.refl _) (hq st h)
   ·dsimp only at hF
    have hF:=oc hF;obtain⟨c30,hF⟩:=hF
    have w31:IntKind.i64.wrap ((i:Int)+1)=(i:Int)+1:=wrap_in (by omega) (by omega)
    repeat(first|refine chk.ga ?_|simp -dsimp[w31])
    refine Again.go _ ?_ ((ih_f89 (i+1) o hF) _ rfl _ hq)
    exact(Gh.to3 (by simp) (by first|simp -dsimp[w31];done|simp_all))
  ·have q14:¬(i<v.kids.length):=auq h13
   have z15:¬((i:Int)<(v.kids.length:Int)):=auz
   rw[if_neg q14]at hF
   cases hF
   repeat(first|refine chk.ga ?_|simp -dsimp[h13,q14,z15])
   refine Leave.go ⟨[(3,.ptr 0 0),(4,.arr (List.map cI v5))],[.cells [.lit (.int .i64 v.op),.lit (.int .i64 v.n),.lit (.int .i64 v.ctor),.arr (List.map Vl.Expr.c v.kids)]]⟩ (Gh.to3 (by simp) (by first|simp -dsimp[h13,q14,z15];done|simp_all)) ?_
   exact hq
theorem C.f90 (code:List Int)(r:Bool)(hF:F.f90 code=some r):PureCall Try.prog B 3 [.arr (List.map cU code)] (.lit (.bool r)):=by
 unfold F.f90 at hF
 refine PureCall.enterLe Try.func3 (by kernel_rfl) rfl Try.ntmps3 (by simp) (by simp) ?_
 repeat(first|refine chk.ga ?_|simp -dsimp)
 refine abr.split (fun h1=> ?_) (fun h1=> ?_)
 ·have q2:(1048576<code.length):=auq h1
  have z3:((1048576:Int)<(code.length:Int)):=auz
  rw[if_pos q2]at hF
  cases hF
  repeat(first|refine chk.ga ?_|simp -dsimp[h1,z3])
  all_goals(try first|omega|rfl)
 ·have q2:¬(1048576<code.length):=auq h1
  have z3:¬((1048576:Int)<(code.length:Int)):=auz
  rw[if_neg q2]at hF
  repeat(first|refine chk.ga ?_|simp -dsimp[h1,q2,z3])
  have hF:=ob hF;obtain⟨v,e4,hF⟩:=hF
  refine((C.f69 B hB1 hB2 code v e4)).goW (by first|simp[h1,q2,z3];done|simp_all) (by simp) ?_
  repeat(first|refine chk.ga ?_|simp -dsimp[h1,q2,z3])
  have hF:=ob hF;obtain⟨v5,e6,hF⟩:=hF
  refine((C.f76 B hB1 hB2 v v5 e6)).goW (by first|simp[h1,q2,z3];done|simp_all) (by simp) ?_
  repeat(first|refine chk.ga ?_|simp -dsimp[h1,q2,z3])
  have hF:=ob hF;obtain⟨v7,e8,hF⟩:=hF
  refine((C.f83 B hB1 hB2 v v7 e8)).goW (by first|simp[h1,q2,z3];done|simp_all) (by simp) ?_
  repeat(first|refine chk.ga ?_|simp -dsimp[h1,q2,z3])
  have hF:=ob hF;obtain⟨v9,e10,hF⟩:=hF
  refine((C.f85 B hB1 hB2 v5 v7 v9 e10)).goW (by first|simp[h1,q2,z3];done|simp_all) (by simp) ?_
  repeat(first|refine chk.ga ?_|simp -dsimp[h1,q2,z3])
  refine abr.split (fun h11=> ?_) (fun h11=> ?_)
  ·have q12:¬(v9=true):=auq h11
   rw[if_neg q12]at hF
   cases hF
   repeat(first|refine chk.ga ?_|simp -dsimp[h1,q2,z3,h11,q12])
   all_goals(try first|omega|rfl)
  ·have q12:(v9=true):=auq h11
   rw[if_pos q12]at hF
   repeat(first|refine chk.ga ?_|simp -dsimp[h1,q2,z3,h11,q12])
   have hF:=ob hF;obtain⟨o'33,ho32,hF⟩:=hF
   refine ALoop.goU _ ?_ (((CC.f89 B hB1 hB2 v v5) 0 o'33 ho32) _ rfl _ ?_)
   ·exact(Gh.to3 (by simp) (by first|simp -dsimp[h1,q2,z3,h11,q12];done|simp_all))
   rcases o'33 with r043|sx34
   ·dsimp only at hF
    cases hF
    intro st h
    simpa using h
   ·dsimp only at hF
    repeat(first|refine chk.ga ?_|simp -dsimp)
    refine abr.split (fun h35=> ?_) (fun h35=> ?_)
    ·have q36:(v.op=5):=auq h35
     rw[if_pos q36]at hF
     repeat(first|refine chk.ga ?_|simp -dsimp[h35])
     refine abr.split (fun h37=> ?_) (fun h37=> ?_)
     ·have q38:¬(v.n<0):=auq h37
      rw[if_neg q38]at hF
      repeat(first|refine chk.ga ?_|simp -dsimp[h35,h37,q38])
      refine abr.split (fun h39=> ?_) (fun h39=> ?_)
      ·have q40:¬(4≤v.n):=auq h39
       rw[if_neg q40]at hF
       repeat(first|refine chk.ga ?_|simp -dsimp[h35,h37,q38,h39,q40])
       have hF:=ob hF;obtain⟨v41,e42,hF⟩:=hF
       refine((C.f87 B hB1 hB2 v5 v.n v41 e42)).goW (by first|simp[h35,h37,q38,h39,q40];done|simp_all) (by simp) ?_
       cases hF
       repeat(first|refine chk.ga ?_|simp -dsimp[h35,h37,q38,h39,q40])
       all_goals(try first|omega|rfl)
      ·have q40:(4≤v.n):=auq h39
       rw[if_pos q40]at hF
       cases hF
       repeat(first|refine chk.ga ?_|simp -dsimp[h35,h37,q38,h39,q40])
       all_goals(try first|omega|rfl)
     ·have q38:(v.n<0):=auq h37
      rw[if_pos q38]at hF
      cases hF
      repeat(first|refine chk.ga ?_|simp -dsimp[h35,h37,q38])
      all_goals(try first|omega|rfl)
    ·have q36:¬(v.op=5):=auq h35
     rw[if_neg q36]at hF
     cases hF
     repeat(first|refine chk.ga ?_|simp -dsimp[h35,q36])
     all_goals(try first|omega|rfl)
end Go.Proofs.Ytemnnldmdlgfpaa
