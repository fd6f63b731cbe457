/- The value-level layer, part 23: bounds on what a value holds. -/
import Derived.Test.YtelglbenbnkjmaaVlLaw
set_option linter.unusedSimpArgs false
set_option linter.unusedVariables false
namespace Go.Vl
open Go Go.RowKit

/-- Every frozen slice inside is as p asks. -/
inductive Fits (p : List (List AV) → Prop) : AV → Prop
  | lit (v : Value) : Fits p (.lit v)
  | junk : Fits p .junk
  | arr (es : List (List AV)) (h : p es) (hx : ∀ e, e ∈ es → ∀ x, x ∈ e → Fits p x) : Fits p (.arr es)
  | rptr (e : List AV) (off : Nat) (hx : ∀ x, x ∈ e → Fits p x) : Fits p (.rptr e off)
  | agg (cs : List AV) (hx : ∀ x, x ∈ cs → Fits p x) : Fits p (.agg cs)
  | tup (cs : List AV) (hx : ∀ x, x ∈ cs → Fits p x) : Fits p (.tup cs)

def small (B : Nat) (es : List (List AV)) : Prop := es.length ≤ B

theorem Conc.rebound {B B' : Nat} {W : Nat → Prop} {w : World} {m : Map} {x : AV} {v : Value} (h : Conc B W w m x v) : Fits (small B') x → Conc B' W w m x v := by
  induction h with
  | lit v => intro _; exact .lit v
  | junk v => intro _; exact .junk v
  | arr es b off sz cap ys hB hsz hWb hb hcap hc hx ih =>
    intro hf
    cases hf with
    | arr _ h1 h2 =>
      cases es with
      | nil => exact .arrNil _ _
      | cons e0 r =>
        exact .arr _ b off sz cap ys h1 hsz hWb hb hcap hc (fun i e k x hi hk => ih i e k x hi hk (h2 e (List.mem_of_getElem? hi) x (List.mem_of_getElem? hk)))
  | arrNil a cap => intro _; exact .arrNil a cap
  | rptr e off b o ys hWb hb hc hx ih =>
    intro hf
    cases hf with
    | rptr _ _ h2 => exact .rptr e off b o ys hWb hb hc (fun k x hk => ih k x hk (h2 x (List.mem_of_getElem? hk)))
  | agg cs us hlen hx ih =>
    intro hf
    cases hf with
    | agg _ h2 => exact .agg cs us hlen fun i x hi => ih i x hi (h2 x (List.mem_of_getElem? hi))
  | tup cs us hlen hx ih =>
    intro hf
    cases hf with
    | tup _ h2 => exact .tup cs us hlen fun i x hi => ih i x hi (h2 x (List.mem_of_getElem? hi))
  | _ => intro hf; cases hf

theorem Conc.raise {B B' : Nat} (hB' : B ≤ B') {W : Nat → Prop} {w : World} {m : Map} {x : AV} {v : Value} (h : Conc B W w m x v) : Conc B' W w m x v := by
  induction h with
  | lit v => exact .lit v
  | junk v => exact .junk v
  | arr es b off sz cap ys hB hsz hWb hb hcap hc hx ih => exact .arr es b off sz cap ys (by omega) hsz hWb hb hcap hc ih
  | arrNil a cap => exact .arrNil a cap
  | rptr e off b o ys hWb hb hc hx ih => exact .rptr e off b o ys hWb hb hc ih
  | ownOther l n v hl h => exact .ownOther l n v hl h
  | ownNil l a hl h => exact .ownNil l a hl h
  | ownArr l b sz len cap ccs ty hl h hh hcap hlen => exact .ownArr l b sz len cap ccs ty hl h hh hcap hlen
  | ptrOther l off v hl h => exact .ptrOther l off v hl h
  | ptrBox l off b hl h => exact .ptrBox l off b hl h
  | eptrOther l n i off v hl h => exact .eptrOther l n i off v hl h
  | eptrArr l n i off b sz hl h => exact .eptrArr l n i off b sz hl h
  | agg cs us hlen hx ih => exact .agg cs us hlen ih
  | tup cs us hlen hx ih => exact .tup cs us hlen ih
  | fn f xs ys us vs h1 h2 hx hy ihx ihy => exact .fn f xs ys us vs h1 h2 ihx ihy

/-- A call proved under a small bound holds under a great one, where its arguments are small. -/
theorem PureCall.rebound {P : Program} {B B' : Nat} (hB : B' ≤ B) {f : FuncId} {args : List AV} {r : AV} (hargs : ∀ x, x ∈ args → Fits (small B') x) (h : PureCall P B' f args r) : PureCall P B f args r := by
  refine ⟨h.1, h.2.1, fun av w vs hav hv => ?_⟩
  refine (h.2.2 av w vs hav ⟨hv.1, fun i x hi => (hv.2 i x hi).rebound (hargs x (List.mem_of_getElem? hi))⟩).mono ?_
  rintro e w' ⟨u, rfl, hc, hb⟩
  exact ⟨u, rfl, hc.raise hB, hb⟩

/-- What is left of l. -/
def rem (l : Int) (n : Nat) : Int := if n ≤ l then l - n else -1

theorem rem_neg {l : Int} {n : Nat} (h : ¬ (n : Int) ≤ l) : rem l n = -1 := by simp [rem, h]
theorem rem_pos {l : Int} {n : Nat} (h : (n : Int) ≤ l) : rem l n = l - n := by simp [rem, h]


/-- The first k of xs, then z's. -/
def fillL {α : Type} (xs : List α) (k : Nat) (z : α) : List α := xs.take k ++ List.replicate (xs.length - k) z
theorem fillL_zero {α : Type} (xs : List α) (z : α) : fillL xs 0 z = List.replicate xs.length z := by simp [fillL]
theorem fillL_all {α : Type} (xs : List α) (z : α) : fillL xs xs.length z = xs := by simp [fillL]
theorem fillL_len {α : Type} (xs : List α) (k : Nat) (z : α) (h : k ≤ xs.length) : (fillL xs k z).length = xs.length := by simp [fillL]; omega
theorem fillL_set {α : Type} (xs : List α) (k : Nat) (z : α) (h : k < xs.length) : (fillL xs k z).set k xs[k] = fillL xs (k + 1) z := by
  unfold fillL
  rw [List.set_append_right _ _ (by simp; omega)]
  have e : k - (xs.take k).length = 0 := by simp; omega
  rw [e]
  obtain ⟨m, hm⟩ : ∃ m, xs.length - k = m + 1 := ⟨xs.length - k - 1, by omega⟩
  have hm2 : xs.length - (k + 1) = m := by omega
  have ht : xs.take (k + 1) = xs.take k ++ [xs[k]] := by rw [List.take_add_one, List.getElem?_eq_getElem h]; rfl
  rw [hm, hm2, List.replicate_succ, List.set_cons_zero, ht]
  simp only [List.append_assoc, List.singleton_append]
theorem fillL_get {α : Type} (xs : List α) (k : Nat) (z : α) (h : k < xs.length) (hh : k < (fillL xs k z).length) : (fillL xs k z)[k] = z := by
  have h2 : k < (xs.take k ++ List.replicate (xs.length - k) z).length := hh
  show (xs.take k ++ List.replicate (xs.length - k) z)[k]'h2 = z
  rw [List.getElem_append_right (by simp; omega)]
  simp
theorem fillL_mem {α : Type} {xs : List α} {k : Nat} {z y : α} (h : y ∈ fillL xs k z) : y ∈ xs ∨ y = z := by
  unfold fillL at h
  rcases List.mem_append.1 h with h | h
  · exact .inl (List.mem_of_mem_take h)
  · exact .inr (List.eq_of_mem_replicate h)
end Go.Vl
