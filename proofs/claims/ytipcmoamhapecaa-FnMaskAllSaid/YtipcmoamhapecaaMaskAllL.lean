/- The plain law of FnMaskAll. -/
import Derived.Test.YtipcmoamhapecaaMaskAllB
set_option linter.unusedSimpArgs false
set_option linter.unusedVariables false
namespace Go.Vl
open Go Go.RowKit
theorem P.FnMaskAll (code : List Int) (hc : bytesOk code) : F.laws_FnMaskAll code = some true := by
  unfold F.laws_FnMaskAll
  split
  · rfl
  obtain ⟨w, t, v, paths, e, hw, hwv⟩ := P.DrawMaskValue code hc
  rw [e]
  simp only [Option.bind_eq_bind, Option.bind_some]
  rw [P.impl_MaskValue w t v paths hw hwv, P.spec_MaskValue w t v paths hw hwv, P.impl_MaskValue w t v [] hw hwv]
  simp only [Option.bind_some, if_true]
  have same : ∀ x : Value, F.impl_ValueSame x x = some true := fun x => by rw [P.impl_ValueSame _ x x (Nat.le_refl _), dec_of rfl]
  rw [same]
  simp only [Option.bind_some, if_true]
  by_cases h : partialOk w t v
  · rw [if_pos (dec_of h), if_pos (dec_of h)]
    have hn : maskG [] 10 [] v = ⟨-2, 0, []⟩ := by rw [maskG, if_neg (by simp)]
    rw [hn]
    simp only [if_true, List.length_nil]
    have h1 := mask_partial paths h
    rw [P.ptHole w true 10 t _ h1.2.1]
    simp only [Option.bind_some]
    by_cases hh : holed 10 (maskG paths 10 [] v)
    · rw [if_pos (dec_of hh)]
    · rw [if_neg (by rw [dec_not hh]; simp), mask_whole 10 [] v hh (by simp) w t h.2.1, same]
      rfl
  · rw [if_neg (by rw [dec_not h]; simp)]
end Go.Vl
