/- The plain law of FnTypeFitsThree. -/
import Derived.Test.YtoacjahdkkdffaaTypeFitsThreeB
set_option linter.unusedSimpArgs false
set_option linter.unusedVariables false
namespace Go.Vl
open Go Go.RowKit

theorem P.FnTypeFitsThree (code : List Int) (hc : bytesOk code) : F.laws_FnTypeFitsThree code = some true := by
  unfold F.laws_FnTypeFitsThree
  split
  · rfl
  obtain ⟨w, a, b, e, hw⟩ := P.DrawTypeFits code hc
  rw [e]
  simp only [Option.bind_eq_bind, Option.bind_some]
  have hs := worlds_small hw
  rw [P.impl_TypeFits w a b hs, P.spec_TypeFits w a b hs, P.impl_TypeFits w b a hs]
  simp only [Option.bind_some, if_true, decide_true]
  by_cases h : typeValid w a ∧ typeOk w b ∧ fitsP a b
  · rw [if_pos (dec_of h)]
    obtain ⟨h1, h2, h3⟩ := h
    by_cases hi : b.index = 0
    · rw [if_pos hi, if_pos h3.1]
      by_cases h' : typeValid w b ∧ typeOk w a ∧ fitsP b a
      · rw [if_pos (dec_of h')]
        congr 1
        refine dec_of ⟨h3.1, ?_⟩
        rcases h'.2.2.2 with q | q
        · show a.index = b.index; omega
        · exact q.symm
      · rw [if_neg (by rw [dec_not h']; simp)]
    · have he : eq2 (a.data, a.index) (b.data, b.index) := ⟨h3.1, h3.2.resolve_left hi⟩
      rw [if_neg hi, if_pos (dec_of he), if_pos h3.1, dec_of he]
      split <;> rfl
  · rw [if_neg (by rw [dec_not h]; simp)]
end Go.Vl
