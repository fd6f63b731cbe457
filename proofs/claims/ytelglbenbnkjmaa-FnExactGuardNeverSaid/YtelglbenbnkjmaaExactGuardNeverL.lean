/- The plain law of GuardNever. -/
import Derived.Test.YtelglbenbnkjmaaExactGuardNeverB
set_option linter.unusedSimpArgs false
set_option linter.unusedVariables false
set_option maxRecDepth 100000
namespace Go.Vl
open Go Go.RowKit
theorem P.FnExactGuardNever (w : List Data) (t : Ty) (c : Clause) (ho : okL Data.Ok w) (_ : t.Ok) (hc : c.Ok) : F.laws_FnExactGuardNever w t c = some true := by
  unfold F.laws_FnExactGuardNever
  rw [P.szDataS w ho _ (by omega) (by omega)]
  simp only [Option.bind_eq_bind, Option.bind_some]
  split
  · rfl
  next h1 =>
  have hw := rem_small h1
  have hr := rem_le (l := 1048576) (wtL Data.wt w) (by omega)
  rw [P.szClause c hc _ (by omega) (by omega)]
  simp only [Option.bind_some]
  split
  · rfl
  next h2 =>
  have hw2 := rem_small h2
  have hcw : c.pat.wt ≤ c.wt := by unfold Clause.wt; omega
  rw [P.toDataS w (by omega), P.toType t (by simp [Ty.wt]), P.toClause c (by omega)]
  simp only [Option.bind_some]
  obtain ⟨b, e1, e2⟩ := P.GuardNever_same w (smallW_of (by omega)) t c (by omega)
  rw [e1, e2]
  simp [P.eqDataS, P.eqClause, dec_of]
end Go.Vl
