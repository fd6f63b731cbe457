/- The plain law of FormatExpr. -/
import Derived.Test.YtdehlcjhndoclaaGreatDoorExactFormatExprB
set_option linter.unusedSimpArgs false
set_option linter.unusedVariables false
namespace Go.Vl
open Go Go.RowKit
theorem P.FnExactFormatExpr (w : List Data) (fs : List FunType) (vs : List VarType) (t : Ty) (e : Expr) (ho : okL Data.Ok w) (hf : okL FunType.Ok fs) (hv : okL VarType.Ok vs) (_ : t.Ok) (he : e.Ok) : F.laws_FnExactFormatExpr w fs vs t e = some true := by
  unfold F.laws_FnExactFormatExpr
  rw [P.szDataS w ho _ (by omega) (by omega)]
  simp only [Option.bind_eq_bind, Option.bind_some]
  split
  · rfl
  next h1 =>
  have hw := rem_small h1
  have hr := rem_le (l := 1048576) (wtL Data.wt w) (by omega)
  rw [P.szFunTypeS fs hf.1 _ (by omega) (by omega)]
  simp only [Option.bind_some]
  split
  · rfl
  next h2 =>
  have hw2 := rem_small h2
  have hr2 := rem_le (l := rem 1048576 (wtL Data.wt w)) (wtL FunType.wt fs) (by omega)
  rw [P.szVarTypeS vs hv.1 _ (by omega) (by omega)]
  simp only [Option.bind_some]
  split
  · rfl
  next h3 =>
  have hw3 := rem_small h3
  have hr3 := rem_le (l := rem (rem 1048576 (wtL Data.wt w)) (wtL FunType.wt fs)) (wtL VarType.wt vs) (by omega)
  rw [P.szExpr e he _ (by omega) (by omega)]
  simp only [Option.bind_some]
  split
  · rfl
  next h4 =>
  have hw4 := rem_small h4
  rw [P.toDataS w (by omega), P.toFunTypeS fs (by omega), P.toVarTypeS vs (by omega), P.toType t (by simp [Ty.wt]), P.toExpr e (by omega)]
  simp only [Option.bind_some]
  obtain ⟨s, e1, e2⟩ := P.FormatExpr_same w fs vs t e (smallW_of (by omega)) (by omega)
  rw [e1, e2]
  simp [P.eqDataS, P.eqFunTypeS, P.eqVarTypeS, P.eqExpr, dec_of]
end Go.Vl
