/- The plain law of FnMaskValue. -/
import Derived.Test.YtipcmoamhapecaaMaskValueB
set_option linter.unusedSimpArgs false
set_option linter.unusedVariables false
namespace Go.Vl
open Go Go.RowKit
theorem P.FnMaskValue (code : List Int) (hc : bytesOk code) : F.laws_FnMaskValue code = some true := by
  unfold F.laws_FnMaskValue
  split
  · rfl
  obtain ⟨w, t, v, paths, e, hw, hwv⟩ := P.DrawMaskValue code hc
  rw [e]
  simp only [Option.bind_eq_bind, Option.bind_some]
  rw [P.impl_MaskValue w t v paths hw hwv, P.spec_MaskValue w t v paths hw hwv]
  simp only [Option.bind_some, if_true]
  have same : ∀ x : Value, F.impl_ValueSame x x = some true := fun x => by rw [P.impl_ValueSame _ x x (Nat.le_refl _), dec_of rfl]
  rw [same]
  simp only [Option.bind_some, if_true]
  by_cases h : partialOk w t v
  · rw [if_pos (dec_of h)]
    simp only [if_true]
    have hm := mask_wt paths 10 [] v
    have h1 := mask_partial paths h
    have h2 : moreP 10 v (maskG paths 10 [] v) := mask_more 10 t [] v h.2.1
    rw [P.impl_MaskValue w t _ paths hw (by omega), P.impl_PartialValid w t _ hw (by omega), P.impl_KnownMore w t v _ hw hwv (by omega), if_pos (dec_of h1), mask_twice]
    simp only [Option.bind_some, if_true]
    rw [if_pos (dec_of h1), if_pos (dec_of ⟨h, h1, h2⟩), same]; simp
  · rw [if_neg (by rw [dec_not h]; simp)]
end Go.Vl
