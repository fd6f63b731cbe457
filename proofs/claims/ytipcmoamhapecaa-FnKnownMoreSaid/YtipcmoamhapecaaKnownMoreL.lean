/- The plain law of FnKnownMore. -/
import Derived.Test.YtipcmoamhapecaaKnownMoreB
set_option linter.unusedSimpArgs false
set_option linter.unusedVariables false
namespace Go.Vl
open Go Go.RowKit
theorem P.FnKnownMore (code : List Int) (hc : bytesOk code) : F.laws_FnKnownMore code = some true := by
  unfold F.laws_FnKnownMore
  split
  · rfl
  obtain ⟨w, t, a, b, e, hw, ⟨d, hd, ha, hb⟩, hwa, hwb⟩ := P.DrawKnownMore code hc
  rw [e]
  simp only [Option.bind_eq_bind, Option.bind_some]
  obtain ⟨r, e1, e2⟩ := P.KnownMore_same w t a b hw hwa hwb
  rw [e1]
  rw [P.impl_KnownMore w t a b hw hwa hwb] at e2 ⊢
  cases e2
  rw [P.impl_KnownMore w t a a hw hwa hwa, P.impl_KnownMore w t b a hw hwb hwa, P.impl_PartialValid w t a hw hwa, P.impl_ValueSame _ a b (Nat.le_refl _)]
  simp only [Option.bind_some, if_true]
  have e3 : dec (partialOk w t a ∧ partialOk w t a ∧ moreP 10 a a) = dec (partialOk w t a) := dec_congr ⟨fun h => h.1, fun h => ⟨h, h, moreP_refl 10 t a h.2.1⟩⟩
  rw [if_pos e3]
  split
  · next h =>
    have h := dec_iff.1 h
    congr 1
    have : dec (partialOk w t b ∧ partialOk w t a ∧ moreP 10 b a) = dec (a = b) := dec_congr ⟨fun h' => moreP_anti 10 t t a b h.1.2.1 h.2.1.2.1 h.2.2 h'.2.2, fun e => by subst e; exact ⟨h.1, h.1, moreP_refl 10 t a h.1.2.1⟩⟩
    rw [this]; simp
  · rfl
end Go.Vl
