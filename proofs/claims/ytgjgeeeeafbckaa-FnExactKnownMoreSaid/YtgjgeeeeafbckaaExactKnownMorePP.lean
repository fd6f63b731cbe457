/- The plain law of partial values: the program's test is the reference's. -/
import Derived.Test.YtgjgeeeeafbckaaExactKnownMoreV
set_option linter.unusedSimpArgs false
set_option linter.unusedVariables false
namespace Go.Vl
open Go Go.RowKit

/-- A partial value of a type. -/
def partialOk (w : List Data) (t : Ty) (v : Value) : Prop := typeValid w t ∧ pv w true 10 t v ∧ 1 + v.wt ≤ 60
theorem P.spec_PartialValid (w : List Data) (t : Ty) (v : Value) (hw : smallW w) (hv : v.wt ≤ 1048576) : F.spec_PartialValid w t v = some (dec (partialOk w t v)) := by
  unfold F.spec_PartialValid
  rw [P.spec_TypeValid w t hw]
  simp only [Option.bind_eq_bind, Option.bind_some]
  by_cases h : typeValid w t
  · rw [if_pos (dec_of h)]
    unfold F.spec_l10Is
    have := P.spec_l10Fits w h.1 10 t v (tOk_of h.2.1) (by omega)
    have e : F.spec_l10Fits w t v 10 = some (dec (pv w true 10 t v)) := this
    rw [e]
    simp only [Option.bind_eq_bind, Option.bind_some]
    by_cases hp : pv w true 10 t v
    · rw [if_pos (dec_of hp)]
      obtain ⟨c, h1, h2, h3, h4, h5⟩ := P.spec_count v hv 60 (by omega)
      have h1' : F.spec_l2Count v 60 = some (c : Int) := h1
      rw [h1']
      simp only [Option.bind_some]
      rw [← dec_eq]; congr 1
      refine dec_congr ⟨fun hc => ⟨h, hp, ?_⟩, fun hh => ?_⟩
      · apply Classical.byContradiction; intro hn; have := h5 (by omega); omega
      · have := h4 hh.2.2; have := hh.2.2; omega
    · rw [if_neg (by rw [dec_not hp]; simp)]
      simp only [Option.bind_some]
      rw [dec_not fun hh => hp hh.2.1]
  · rw [if_neg (by rw [dec_not h]; simp), dec_not fun hh => h hh.1]
theorem P.impl_PartialValid (w : List Data) (t : Ty) (v : Value) (hw : smallW w) (hv : v.wt ≤ 1048576) : F.impl_PartialValid w t v = some (dec (partialOk w t v)) := by
  unfold F.impl_PartialValid
  rw [P.impl_TypeValid w t hw]
  simp only [Option.bind_eq_bind, Option.bind_some]
  by_cases h : typeValid w t
  · rw [if_pos (dec_of h)]
    obtain ⟨b, c, h1, h2, _⟩ := P.valueScan w h.1 true 10 t v 0 (by omega) (tOk_of h.2.1) (by omega)
    have h1' : F.impl_valueScan w t v 1 true 0 = some (b, (c : Int)) := h1
    rw [h1']
    simp only [Option.bind_some]
    congr 1
    cases b with
    | true => rw [dec_of ⟨h, (h2.1 rfl).1, by have := (h2.1 rfl).2; omega⟩]
    | false => rw [dec_not fun hh => by have := h2.2 ⟨hh.2.1, by have := hh.2.2; omega⟩; cases this]
  · rw [if_neg (by rw [dec_not h]; simp), dec_not fun hh => h hh.1]
end Go.Vl
