/- Plain laws that this one rests on (printed by gen_l.py). -/
import Derived.Test.YtoacjahdkkdffaaExactTreeLeavesP
import Derived.Test.YtoacjahdkkdffaaVlQ
set_option linter.unusedSimpArgs false
set_option linter.unusedVariables false
set_option maxRecDepth 100000
namespace Go.Vl
open Go Go.RowKit

/-- The set numbers of a function and of a list of flags. -/
theorem setEx {n : Nat} {S : Nat → Bool} {L : List Int → Nat → Option (List Int)} {M : Nat → List Int → Option (List Int)} (hn : n ≤ 1000)
    (hL : ∀ out i, L out i = if i < ((List.range n).map S).length then ((List.range n).map S)[i]? >>= fun x => if x = true then (if out.length + 1 ≤ 67108864 then L (out ++ [(i : Int)]) (i + 1) else none) else L out (i + 1) else some out)
    (hM : ∀ i out, M i out = if i < n then (if S i = true then (if out.length + 1 ≤ 67108864 then (if i + 1 ≤ 9223372036854775807 then M (i + 1) (out ++ [(i : Int)]) else none) else none) else (if i + 1 ≤ 9223372036854775807 then M (i + 1) out else none)) else some out) :
    ∀ (k i : Nat) (out : List Int), n - i = k → out.length ≤ i → i ≤ n → ∃ r, L out i = some r ∧ M i out = some r ∧ r.length ≤ n := by
  intro k
  induction k with
  | zero =>
    intro i out hk ho hi
    exact ⟨out, by rw [hL, if_neg (by simp; omega)], by rw [hM, if_neg (by omega)], by omega⟩
  | succ k ih =>
    intro i out hk ho hi
    have hlt : i < n := by omega
    have hg : ((List.range n).map S)[i]? = some (S i) := by rw [List.getElem?_map, List.getElem?_range hlt]; rfl
    rw [hL, hM, if_pos (by simpa using hlt), if_pos hlt, hg]
    simp only [Option.bind_eq_bind, Option.bind_some]
    by_cases hs : S i = true
    · rw [if_pos hs, if_pos hs, if_pos (by omega), if_pos (by omega), if_pos (by omega)]
      exact ih (i + 1) (out ++ [(i : Int)]) (by omega) (by simp; omega) (by omega)
    · rw [if_neg hs, if_neg hs, if_pos (by omega)]
      exact ih (i + 1) out (by omega) (by omega) (by omega)
theorem flags_upd {n i : Nat} {S : Nat → Bool} (h : i < n) : ((List.range n).map S).set i true = (List.range n).map (updF S i true) := by
  refine List.ext_getElem? fun k => ?_
  rw [List.getElem?_set]
  simp only [List.length_map, List.length_range, List.getElem?_map]
  by_cases hk : k < n
  · rw [List.getElem?_range hk]
    by_cases e : i = k
    · subst e; simp [updF, h]
    · rw [if_neg e]; simp [updF, Ne.symm e]
  · rw [List.getElem?_eq_none (by simpa using hk)]
    rw [if_neg (by omega)]; rfl
/-- A loop that folds. -/
theorem loopFold {α σ : Type} {a : List α} {f : σ → α → Option σ} {L : σ → Nat → Option σ}
    (hL : ∀ s i, L s i = if i < a.length then a[i]? >>= fun x => f s x >>= fun v => L v (i + 1) else some s) : ∀ (n i : Nat) (s : σ), a.length - i = n → L s i = (a.drop i).foldlM f s := by
  intro n
  induction n with
  | zero => intro i s hn; rw [hL, if_neg (by omega), List.drop_of_length_le (by omega)]; rfl
  | succ n ih =>
    intro i s hn
    have hi : i < a.length := by omega
    rw [hL, if_pos hi, List.getElem?_eq_getElem hi, List.drop_eq_getElem_cons hi, List.foldlM_cons]
    simp only [Option.bind_eq_bind, Option.bind_some]
    congr 1
    funext v
    exact ih (i + 1) v (by omega)
theorem foldR {α σ τ : Type} {R : σ → τ → Prop} {f : σ → α → Option σ} {g : τ → α → Option τ} : ∀ {l : List α} (_ : ∀ x, x ∈ l → ∀ s t, R s t → ∃ s' t', f s x = some s' ∧ g t x = some t' ∧ R s' t') {s : σ} {t : τ}, R s t → ∃ s' t', l.foldlM f s = some s' ∧ l.foldlM g t = some t' ∧ R s' t'
  | [], _, s, t, hR => ⟨s, t, rfl, rfl, hR⟩
  | x :: r, h, s, t, hR => by
    obtain ⟨s1, t1, h1, h2, h3⟩ := h x (by simp) s t hR
    obtain ⟨s2, t2, h4, h5, h6⟩ := foldR (l := r) (fun y hy => h y (List.mem_cons_of_mem _ hy)) h3
    exact ⟨s2, t2, by simp [List.foldlM_cons, h1, h4], by simp [List.foldlM_cons, h2, h5], h6⟩
end Go.Vl
