/- The plain law of PartialValid. -/
import Derived.Test.YtgjgeeeeafbckaaExactPartialValidPP
set_option linter.unusedSimpArgs false
set_option linter.unusedVariables false
namespace Go.Vl
open Go Go.RowKit

theorem P.FnExactPartialValid (w : List Data) (t : Ty) (v : Value) (ho : okL Data.Ok w) (_ : t.Ok) (hv : v.Ok) : F.laws_FnExactPartialValid w t v = some true := by
  unfold F.laws_FnExactPartialValid
  rw [P.szDataS w ho _ (by omega) (by omega)]
  simp only [Option.bind_eq_bind, Option.bind_some]
  split
  · rfl
  · next h =>
    have hw := rem_small h
    rw [P.szValue v hv _ (by omega) (Int.le_trans (rem_le _ (by omega)) (by omega))]
    simp only [Option.bind_some]
    split
    · rfl
    · next h2 =>
      have hv2 := rem_small h2
      have hr := rem_le (l := 1048576) (wtL Data.wt w) (by omega)
      rw [P.toDataS w (by omega), P.toType t (by simp [Ty.wt]), P.toValue v (by omega)]
      simp only [Option.bind_some]
      rw [P.spec_PartialValid w t v (smallW_of (by omega)) (by omega), P.impl_PartialValid w t v (smallW_of (by omega)) (by omega)]
      simp [P.eqDataS, P.eqValue, dec_of]
end Go.Vl
