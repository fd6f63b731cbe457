/- The plain law of FnKnownThree. -/
import Derived.Test.YtipcmoamhapecaaKnownThreeB
set_option linter.unusedSimpArgs false
set_option linter.unusedVariables false
namespace Go.Vl
open Go Go.RowKit
theorem P.FnKnownThree (code : List Int) (hc : bytesOk code) : F.laws_FnKnownThree code = some true := by
  unfold F.laws_FnKnownThree
  split
  · rfl
  obtain ⟨w, t, a, b, e, hw, ⟨d, hd, ha, hb⟩, hwa, hwb⟩ := P.DrawKnownMore code hc
  rw [e]
  simp only [Option.bind_eq_bind, Option.bind_some]
  obtain ⟨r, e1, e2⟩ := P.KnownMore_same w t a b hw hwa hwb
  rw [P.impl_KnownMore w t a b hw hwa hwb] at e2
  cases e2
  have hm := mask_wt [[]] 10 [] b
  rw [e1, P.impl_KnownMore w t a b hw hwa hwb, P.impl_MaskValue w t b _ hw hwb]
  simp only [Option.bind_some, if_true]
  by_cases h : partialOk w t a ∧ partialOk w t b ∧ moreP 10 a b
  · rw [if_pos (dec_of h), if_pos (dec_of h.2.1)]
    simp only [if_true]
    have h1 := mask_partial [[]] h.2.1
    have h2 : moreP 10 b (maskG [[]] 10 [] b) := mask_more 10 t [] b h.2.1.2.1
    rw [P.impl_KnownMore w t b _ hw hwb (by omega), P.impl_KnownMore w t a _ hw hwa (by omega)]
    simp only [Option.bind_some]
    rw [if_pos (dec_of ⟨h.2.1, h1, h2⟩), dec_of ⟨h.1, h1, moreP_trans 10 _ _ _ h.2.2 h2⟩]
  · rw [if_neg (by rw [dec_not h]; simp)]
    simp
end Go.Vl
