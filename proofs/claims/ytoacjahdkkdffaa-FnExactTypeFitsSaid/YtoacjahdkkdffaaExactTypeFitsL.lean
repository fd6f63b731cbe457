/- The plain law of TypeFits. -/
import Derived.Test.YtoacjahdkkdffaaExactTypeFitsW
set_option linter.unusedSimpArgs false
set_option linter.unusedVariables false
namespace Go.Vl
open Go Go.RowKit

theorem P.fits_same (a b : Ty) : F.impl_fits a b = F.spec_l12Fits a b := rfl
theorem P.fits_some (a b : Ty) : ∃ r, F.spec_l12Fits a b = some r := by
  unfold F.spec_l12Fits
  split
  · split
    · exact ⟨_, rfl⟩
    · exact ⟨_, rfl⟩
  · exact ⟨_, rfl⟩
theorem P.TypeFits_same (w : List Data) (a b : Ty) (hw : smallW w) : ∃ r, F.spec_TypeFits w a b = some r ∧ F.impl_TypeFits w a b = some r := by
  unfold F.spec_TypeFits F.impl_TypeFits
  rw [P.spec_TypeValid w a hw, P.spec_TypeValid w b hw, P.impl_TypeValid w a hw, P.impl_typeOk w b hw.1]
  simp only [Option.bind_eq_bind, Option.bind_some]
  obtain ⟨r, hr⟩ := P.fits_some a b
  rw [P.fits_same, hr]
  simp only [Option.bind_some]
  by_cases h : typeValid w a
  · rw [if_pos (dec_of h), if_pos (dec_of h)]
    by_cases hb : typeOk w b
    · rw [if_pos (dec_of ⟨h.1, hb⟩), if_pos (dec_of hb)]; exact ⟨_, rfl, rfl⟩
    · rw [if_neg (by rw [dec_not fun hh => hb hh.2]; simp), if_neg (by rw [dec_not hb]; simp)]; exact ⟨_, rfl, rfl⟩
  · rw [if_neg (by rw [dec_not h]; simp), if_neg (by rw [dec_not h]; simp)]; exact ⟨_, rfl, rfl⟩

theorem P.FnExactTypeFits (w : List Data) (a b : Ty) (ho : okL Data.Ok w) (_ : a.Ok) (_ : b.Ok) : F.laws_FnExactTypeFits w a b = some true := by
  unfold F.laws_FnExactTypeFits
  rw [P.szDataS w ho _ (by omega) (by omega)]
  simp only [Option.bind_eq_bind, Option.bind_some]
  split
  · rfl
  · next h =>
    have hw := rem_small h
    rw [P.toDataS w (by omega), P.toType a (by simp [Ty.wt]), P.toType b (by simp [Ty.wt])]
    simp only [Option.bind_some]
    obtain ⟨r, h1, h2⟩ := P.TypeFits_same w a b (smallW_of (by omega))
    rw [h1, h2]
    simp [P.eqDataS, dec_of]
end Go.Vl
