/- The value-level layer, part 29: plain loops. -/
import Derived.Test.YtoacjahdkkdffaaVlP
set_option linter.unusedSimpArgs false
set_option linter.unusedVariables false
namespace Go.Vl
open Go Go.RowKit

theorem appLoop {α β : Type} {a : List α} {g : α → β} {f : α → Option β} {L : List β → Nat → Option (List β)}
    (hL : ∀ out i, L out i = if i < a.length then a[i]? >>= fun x => f x >>= fun v => if out.length + 1 ≤ 67108864 then L (out ++ [v]) (i + 1) else none else some out)
    (hf : ∀ x, x ∈ a → f x = some (g x)) : ∀ (m i : Nat) (out : List β), a.length - i = m → out.length + m ≤ 67108864 → L out i = some (out ++ (a.drop i).map g) := by
  intro m
  induction m with
  | zero =>
    intro i out hm h0
    rw [hL, if_neg (by omega), List.drop_eq_nil_of_le (by omega)]; simp
  | succ m ih =>
    intro i out hm h0
    have hi : i < a.length := by omega
    rw [hL, if_pos hi, List.getElem?_eq_getElem hi, List.drop_eq_getElem_cons hi]
    simp only [List.map_cons, Option.bind_eq_bind, Option.bind_some]
    rw [hf _ (List.getElem_mem hi)]
    simp only [Option.bind_some]
    rw [if_pos (by omega), ih (i + 1) _ (by omega) (by simp; omega)]
    simp
theorem appLoop0 {α β : Type} {a : List α} {g : α → β} {L : List β → Nat → Option (List β)}
    (hL : ∀ out i, L out i = if i < a.length then a[i]? >>= fun x => if out.length + 1 ≤ 67108864 then L (out ++ [g x]) (i + 1) else none else some out) :
    ∀ (m i : Nat) (out : List β), a.length - i = m → out.length + m ≤ 67108864 → L out i = some (out ++ (a.drop i).map g) := by
  refine appLoop (f := fun x => some (g x)) (fun out i => ?_) (fun x _ => rfl)
  rw [hL]; simp
theorem rem_small {l : Int} {n : Nat} (h : ¬ rem l n < 0) : (n : Int) ≤ l := by simp only [rem] at h; split at h <;> omega
end Go.Vl
