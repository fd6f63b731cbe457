/- The plain law of ExprOf. -/
import Derived.Test.YtelglbenbnkjmaaExactExprOfB
set_option linter.unusedSimpArgs false
set_option linter.unusedVariables false
set_option maxRecDepth 100000
namespace Go.Vl
open Go Go.RowKit

theorem P.FnExactExprOf (w : List Data) (t : Ty) (v : Value) (how : okL Data.Ok w) (hot : t.Ok) (hov : v.Ok) : F.laws_FnExactExprOf w t v = some true := by
  unfold F.laws_FnExactExprOf
  rw [P.szDataS w how _ (by omega) (by omega), sbind]
  refine iteG (fun _ => rfl) fun h => ?_
  have hw := rem_small h
  have hr := rem_le (l := 1048576) (wtL Data.wt w) (by omega)
  rw [P.szValue v hov _ (by omega) (by omega), sbind]
  refine iteG (fun _ => rfl) fun h2 => ?_
  have hv := rem_small h2
  rw [P.toDataS w (by omega), P.toType t (by simp [Ty.wt]), P.toValue v (by omega)]
  iterate 3 rw [sbind]
  obtain ⟨out, e1, e2, e3⟩ := P.ExprOf_same w (smallW_of (by omega)) t v (by omega)
  have b1 := Data.cntL_le w
  have b2 := Value.cntL_le v.kids
  rw [← Value.wt_eq] at b2
  have b4 := Expr.cntL_le out.1.kids
  rw [← Expr.wt_eq] at b4
  have m1 := Data.mkL_snd mtF w 1 (by omega) (by omega)
  have m2 := Value.mkL_snd v.kids (Data.mkL mtF w 1).2 (by omega) (by omega)
  have m4 := Expr.mkL_snd out.1.kids 1 (by omega) (by omega)
  have n3 : ¬ (Value.mkL v.kids (Data.mkL mtF w 1).2).2 < 0 := by rw [m2]; omega
  have n4 : ¬ (Expr.mkL out.1.kids 1).2 < 0 := by rw [m4]; omega
  have m5 := P.heldExprS out.1.kids 1 (by omega) (by omega)
  simp [e1, e2, P.eqExpr, P.eqValue, P.eqDataS, dec_of, F.laws_markDataS, F.laws_markValueS, F.laws_markExprS, F.laws_heldExpr, m5, n3, n4]
end Go.Vl
