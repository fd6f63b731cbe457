/- Plain laws that this one rests on (printed by gen_l.py). -/
import Derived.Test.YtfalapoojmlbpaaExactCallsOfP
import Derived.Test.YtfalapoojmlbpaaVlQ
set_option linter.unusedSimpArgs false
set_option linter.unusedVariables false
set_option maxRecDepth 100000
namespace Go.Vl
open Go Go.RowKit

theorem foldEx {α σ τ : Type} {a : List α} {R : σ → τ → Prop} {f : σ → α → Option σ} {g : τ → α → Option τ} {L : σ → Nat → Option σ} {M : τ → Nat → Option τ}
    (hL : ∀ s i, L s i = if i < a.length then a[i]? >>= fun x => f s x >>= fun v => L v (i + 1) else some s) (hM : ∀ s i, M s i = if i < a.length then a[i]? >>= fun x => g s x >>= fun v => M v (i + 1) else some s)
    (h : ∀ x, x ∈ a → ∀ s t, R s t → ∃ s' t', f s x = some s' ∧ g t x = some t' ∧ R s' t') : ∀ (n i : Nat) (s : σ) (t : τ), a.length - i = n → R s t → ∃ s' t', L s i = some s' ∧ M t i = some t' ∧ R s' t' := by
  intro n
  induction n with
  | zero =>
    intro i s t hn hR
    exact ⟨s, t, by rw [hL, if_neg (by omega)], by rw [hM, if_neg (by omega)], hR⟩
  | succ n ih =>
    intro i s t hn hR
    have hi : i < a.length := by omega
    obtain ⟨s1, t1, h1, h2, h3⟩ := h a[i] (List.getElem_mem hi) s t hR
    obtain ⟨s2, t2, h4, h5, h6⟩ := ih (i + 1) s1 t1 (by omega) h3
    refine ⟨s2, t2, ?_, ?_, h6⟩
    · rw [hL, if_pos hi, List.getElem?_eq_getElem hi]; simp [h1, h4]
    · rw [hM, if_pos hi, List.getElem?_eq_getElem hi]; simp [h2, h5]
/-- The set numbers of a function and of a list of flags. -/
theorem setEx {n : Nat} {S : Nat → Bool} {L : List Int → Nat → Option (List Int)} {M : Nat → List Int → Option (List Int)} (hn : n ≤ 1000)
    (hL : ∀ out i, L out i = if i < ((List.range n).map S).length then ((List.range n).map S)[i]? >>= fun x => if x = true then (if out.length + 1 ≤ 67108864 then L (out ++ [(i : Int)]) (i + 1) else none) else L out (i + 1) else some out)
    (hM : ∀ i out, M i out = if i < n then (if S i = true then (if out.length + 1 ≤ 67108864 then (if i + 1 ≤ 9223372036854775807 then M (i + 1) (out ++ [(i : Int)]) else none) else none) else (if i + 1 ≤ 9223372036854775807 then M (i + 1) out else none)) else some out) :
    ∀ (k i : Nat) (out : List Int), n - i = k → out.length ≤ i → i ≤ n → ∃ r, L out i = some r ∧ M i out = some r ∧ r.length ≤ n := by
  intro k
  induction k with
  | zero =>
    intro i out hk ho hi
    exact ⟨out, by rw [hL, if_neg (by simp; omega)], by rw [hM, if_neg (by omega)], by omega⟩
  | succ k ih =>
    intro i out hk ho hi
    have hlt : i < n := by omega
    have hg : ((List.range n).map S)[i]? = some (S i) := by rw [List.getElem?_map, List.getElem?_range hlt]; rfl
    rw [hL, hM, if_pos (by simpa using hlt), if_pos hlt, hg]
    simp only [Option.bind_eq_bind, Option.bind_some]
    by_cases hs : S i = true
    · rw [if_pos hs, if_pos hs, if_pos (by omega), if_pos (by omega), if_pos (by omega)]
      exact ih (i + 1) (out ++ [(i : Int)]) (by omega) (by simp; omega) (by omega)
    · rw [if_neg hs, if_neg hs, if_pos (by omega)]
      exact ih (i + 1) out (by omega) (by omega) (by omega)
theorem flags_upd {n i : Nat} {S : Nat → Bool} (h : i < n) : ((List.range n).map S).set i true = (List.range n).map (updF S i true) := by
  refine List.ext_getElem? fun k => ?_
  rw [List.getElem?_set]
  simp only [List.length_map, List.length_range, List.getElem?_map]
  by_cases hk : k < n
  · rw [List.getElem?_range hk]
    by_cases e : i = k
    · subst e; simp [updF, h]
    · rw [if_neg e]; simp [updF, Ne.symm e]
  · rw [List.getElem?_eq_none (by simpa using hk)]
    rw [if_neg (by omega)]; rfl
end Go.Vl
