/- The plain law of FnTypeFits. -/
import Derived.Test.YtoacjahdkkdffaaTypeFitsB
set_option linter.unusedSimpArgs false
set_option linter.unusedVariables false
namespace Go.Vl
open Go Go.RowKit

theorem P.ptAll (a b : List Int) (h : ∀ x, x ∈ a → x ∈ b) : ∀ (m k : Nat), a.length - k = m → F.laws_FnTypeFits_l1 a b k = some (.go ()) := by
  intro m
  induction m with
  | zero => intro k hm; rw [F.laws_FnTypeFits_l1, if_neg (by omega)]
  | succ m ih =>
    intro k hm
    have hk : k < a.length := by omega
    rw [F.laws_FnTypeFits_l1, if_pos hk, List.getElem?_eq_getElem hk]
    simp only [Option.bind_eq_bind, Option.bind_some]
    rw [P.laws_ptIn]
    simp only [Option.bind_some]
    rw [if_pos (dec_of (h _ (List.getElem_mem hk)))]
    exact ih (k + 1) (by omega)

theorem selC_sub {i j : Int} (h : j = 0 ∨ i = j) {x : Int} : ∀ {k : Nat} {l : List Ctor}, x ∈ selC i k l → x ∈ selC j k l
  | k, [], hx => by simp [selC] at hx
  | k, c :: r, hx => by
    simp only [selC, List.mem_append] at hx ⊢
    rcases hx with hx | hx
    · left
      split at hx
      · next hf =>
        have hf := dec_iff.1 hf
        rw [if_pos (dec_of ?_)]
        · exact hx
        · rcases h with rfl | rfl
          · exact .inl rfl
          · exact hf
      · cases hx
    · exact .inr (selC_sub h hx)

theorem P.FnTypeFits (code : List Int) (hc : bytesOk code) : F.laws_FnTypeFits code = some true := by
  unfold F.laws_FnTypeFits
  split
  · rfl
  obtain ⟨w, a, b, e, hw⟩ := P.DrawTypeFits code hc
  rw [e]
  simp only [Option.bind_eq_bind, Option.bind_some]
  have hs := worlds_small hw
  have self : dec (typeValid w a ∧ typeOk w a ∧ fitsP a a) = dec (typeValid w a) := dec_congr ⟨fun h => h.1, fun h => ⟨h, h.2, rfl, .inr rfl⟩⟩
  rw [P.impl_TypeFits w a b hs, P.spec_TypeFits w a b hs, P.impl_TypeFits w a a hs, P.impl_TypeValid w a hs, self]
  simp only [Option.bind_some, if_true, decide_true]
  by_cases h : typeValid w a ∧ typeOk w b ∧ fitsP a b
  · rw [if_pos (dec_of h)]
    obtain ⟨h1, h2, h3⟩ := h
    unfold F.impl_CtorsOf
    rw [P.impl_TypeValid w a hs, P.impl_TypeValid w b hs]
    simp only [Option.bind_eq_bind, Option.bind_some]
    rw [if_pos (dec_of h1), if_pos (dec_of (show typeValid w b from ⟨h1.1, h2⟩)), P.impl_ctorsOf w h1.1 a (tOk_of h1.2.1), P.impl_ctorsOf w h1.1 b (tOk_of h2.1)]
    simp only [Option.bind_some]
    rw [P.ptAll _ _ (fun x hx => ?_) _ 0 rfl]
    · rfl
    · unfold ctorList at hx ⊢
      have hd : dataOf w a = dataOf w b := by unfold dataOf; rw [h3.1]
      rw [h3.1] at hx
      split at hx
      · cases hx
      · next hn =>
        rw [if_neg hn, ← hd]
        exact selC_sub (h3.2.imp id id) hx
  · rw [if_neg (by rw [dec_not h]; simp)]
end Go.Vl
