/- The plain law of FormatClauses. -/
import Derived.Test.YtdehlcjhndoclaaGreatDoorExactFormatClausesB
set_option linter.unusedSimpArgs false
set_option linter.unusedVariables false
namespace Go.Vl
open Go Go.RowKit
theorem P.FnExactFormatClauses (w : List Data) (t : Ty) (l : List Clause) (ho : okL Data.Ok w) (_ : t.Ok) (hl : okL Clause.Ok l) : F.laws_FnExactFormatClauses w t l = some true := by
  unfold F.laws_FnExactFormatClauses
  rw [P.szDataS w ho _ (by omega) (by omega)]
  simp only [Option.bind_eq_bind, Option.bind_some]
  split
  · rfl
  next h1 =>
  have hw := rem_small h1
  have hr := rem_le (l := 1048576) (wtL Data.wt w) (by omega)
  rw [P.szClauseS l hl _ (by omega) (by omega)]
  simp only [Option.bind_some]
  split
  · rfl
  next h2 =>
  have hw2 := rem_small h2
  rw [P.toDataS w (by omega), P.toClauseS l (by omega), P.toType t (by simp [Ty.wt])]
  simp only [Option.bind_some]
  obtain ⟨s, e1, e2⟩ := P.FormatClauses_same w t l (smallW_of (by omega)) (fun c hc => by
    have := wtL_mem Clause.wt hc
    have : c.pat.wt ≤ c.wt := by unfold Clause.wt; omega
    omega)
  rw [e1, e2]
  simp [P.eqDataS, P.eqClauseS, dec_of]
end Go.Vl
