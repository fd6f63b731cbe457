/- The plain law of NodesValid. -/
import Derived.Test.YtfalapoojmlbpaaExactNodesValidP
import Derived.Test.YtfalapoojmlbpaaVlQ
set_option linter.unusedSimpArgs false
set_option linter.unusedVariables false
namespace Go.Vl
open Go Go.RowKit

structure nodeOk (i : Nat) (x : Node) : Prop where
  op0 : 0 ≤ x.op
  op2 : x.op ≤ 2
  els0 : -1 ≤ x.els
  els1 : x.els < i
  len : x.edges.length ≤ 10
  edges : ∀ j (h : j < x.edges.length), 0 ≤ x.edges[j].to ∧ x.edges[j].to < i

theorem P.spec_l2 (list : List Node) (i : Nat) (x : Node) : F.spec_NodesValid_l2 list i x 0 = some (if dec (∀ j (h : j < x.edges.length), 0 ≤ j → (0 ≤ x.edges[j].to ∧ x.edges[j].to < i)) = true then .go () else .ret false) := by
  refine allLoop (a := x.edges) (Q := fun _ e => 0 ≤ e.to ∧ e.to < i) (L := F.spec_NodesValid_l2 list i x) (fun k hk => ?_) (fun k hk hq => ?_) (fun k hk hq => ?_) _ 0 rfl
  · rw [F.spec_NodesValid_l2, if_neg hk]
  · rw [F.spec_NodesValid_l2, if_pos hk, List.getElem?_eq_getElem hk]
    simp only [Option.bind_eq_bind, Option.bind_some]
    rw [if_neg (by omega), if_neg (by omega)]
  · rw [F.spec_NodesValid_l2, if_pos hk, List.getElem?_eq_getElem hk]
    simp only [Option.bind_eq_bind, Option.bind_some]
    by_cases h : x.edges[k].to < 0
    · rw [if_pos h]
    · rw [if_neg h, if_pos (by omega)]

theorem P.spec_NodesValid (list : List Node) : F.spec_NodesValid list = some (dec (1 ≤ list.length ∧ list.length ≤ 300 ∧ ∀ j (h : j < list.length), nodeOk j list[j])) := by
  unfold F.spec_NodesValid
  by_cases h0 : list.length = 0
  · rw [if_pos h0, dec_not (by omega)]
  rw [if_neg h0]
  by_cases h1 : 300 < list.length
  · rw [if_pos h1, dec_not (by omega)]
  rw [if_neg h1]
  have key : F.spec_NodesValid_l1 list ((0 : Nat) : Int) = some (if dec (∀ j (h : j < list.length), 0 ≤ j → nodeOk j list[j]) = true then .go () else .ret false) := by
    refine allLoop (a := list) (Q := nodeOk) (L := fun k => F.spec_NodesValid_l1 list (k : Int)) (fun k hk => ?_) (fun k hk hq => ?_) (fun k hk hq => ?_) _ 0 rfl
    · show F.spec_NodesValid_l1 list (k : Int) = _
      rw [F.spec_NodesValid_l1, if_neg (by omega)]
    · show F.spec_NodesValid_l1 list (k : Int) = F.spec_NodesValid_l1 list ((k + 1 : Nat) : Int)
      rw [F.spec_NodesValid_l1, if_pos (by omega), at_lt hk]
      have := hq.op0; have := hq.op2; have := hq.els0; have := hq.els1; have := hq.len
      simp only [Option.bind_eq_bind, Option.bind_some, F.spec_l8None]
      rw [if_neg (by omega), if_neg (by omega), if_neg (by omega), if_neg (by omega), if_neg (by omega), P.spec_l2, if_pos (dec_of fun j h _ => hq.edges j h), wrap_in (by omega) (by omega)]
      rfl
    · show F.spec_NodesValid_l1 list (k : Int) = _
      rw [F.spec_NodesValid_l1, if_pos (by omega), at_lt hk]
      simp only [Option.bind_eq_bind, Option.bind_some, F.spec_l8None]
      by_cases a1 : list[k].op < 0
      · rw [if_pos a1]
      rw [if_neg a1]
      by_cases a2 : 2 < list[k].op
      · rw [if_pos a2]
      rw [if_neg a2]
      by_cases a3 : list[k].els < -1
      · rw [if_pos a3]
      rw [if_neg a3]
      by_cases a4 : (k : Int) ≤ list[k].els
      · rw [if_pos a4]
      rw [if_neg a4]
      by_cases a5 : 10 < list[k].edges.length
      · rw [if_pos a5]
      rw [if_neg a5, P.spec_l2, if_neg (by
        rw [dec_not fun hh => hq ⟨by omega, by omega, by omega, by omega, by omega, fun j h => hh j h (by omega)⟩]; simp)]
      rfl
  rw [show (0 : Int) = ((0 : Nat) : Int) from rfl, key]
  simp only [Option.bind_eq_bind, Option.bind_some]
  by_cases hall : ∀ j (h : j < list.length), 0 ≤ j → nodeOk j list[j]
  · rw [if_pos (dec_of hall), dec_of ⟨by omega, by omega, fun j h => hall j h (by omega)⟩]
  · rw [if_neg (by rw [dec_not hall]; simp), dec_not fun hh => hall fun j h _ => hh.2.2 j h]

theorem P.within (n low high : Int) : F.impl_within n low high = some (decide (low ≤ n ∧ n ≤ high)) := by
  unfold F.impl_within
  by_cases h : low ≤ n <;> simp [h]
theorem P.closure (e : Edge) (i : Nat) (hi : i ≤ 67108864) : F.impl_NodesValid_1 e i = some (!decide (0 ≤ e.to ∧ e.to < (i : Int))) := by
  unfold F.impl_NodesValid_1
  rw [P.within, wrap_in (by omega) (by omega)]
  simp only [Option.bind_eq_bind, Option.bind_some]
  congr 2
  exact decide_eq_decide.2 (by omega)
theorem P.index (s : List Edge) (i : Nat) (hi : i ≤ 67108864) (hs : s.length ≤ 67108864) : ∀ (m k : Nat), s.length - k = m → ∃ r, F.slices_IndexFunc_Edge__impl_NodesValid_1_l1 s i k = some r ∧
    match r with | .ret j => 0 ≤ j ∧ ∃ l, ∃ h : l < s.length, k ≤ l ∧ ¬ (0 ≤ s[l].to ∧ s[l].to < i) | .go _ => ∀ l (h : l < s.length), k ≤ l → (0 ≤ s[l].to ∧ s[l].to < i) := by
  intro m
  induction m with
  | zero =>
    intro k hm
    rw [F.slices_IndexFunc_Edge__impl_NodesValid_1_l1, if_neg (by omega)]
    exact ⟨_, rfl, fun l h hl => by omega⟩
  | succ m ih =>
    intro k hm
    have hk : k < s.length := by omega
    rw [F.slices_IndexFunc_Edge__impl_NodesValid_1_l1, if_pos hk, List.getElem?_eq_getElem hk]
    simp only [Option.bind_eq_bind, Option.bind_some]
    rw [P.closure _ _ hi]
    simp only [Option.bind_some]
    by_cases h : 0 ≤ s[k].to ∧ s[k].to < i
    · rw [if_neg (by simp [h])]
      obtain ⟨r, hr, hx⟩ := ih (k + 1) (by omega)
      refine ⟨r, hr, ?_⟩
      cases r with
      | ret j => obtain ⟨h1, l, h2, h3, h4⟩ := hx; exact ⟨h1, l, h2, by omega, h4⟩
      | go _ =>
        intro l hl hkl
        by_cases e : k = l
        · subst e; exact h
        · exact hx l hl (by omega)
    · rw [if_pos (by rw [decide_eq_false h]; rfl)]
      exact ⟨_, rfl, by omega, k, hk, Nat.le_refl _, h⟩
theorem P.contains (s : List Edge) (i : Nat) (hi : i ≤ 67108864) (hs : s.length ≤ 67108864) : F.slices_ContainsFunc_Edge__impl_NodesValid_1 s i = some (!dec (∀ l (h : l < s.length), 0 ≤ s[l].to ∧ s[l].to < i)) := by
  unfold F.slices_ContainsFunc_Edge__impl_NodesValid_1 F.slices_IndexFunc_Edge__impl_NodesValid_1
  obtain ⟨r, hr, hx⟩ := P.index s i hi hs _ 0 rfl
  rw [hr]
  cases r with
  | ret j =>
    obtain ⟨h1, l, h2, _, h4⟩ := hx
    simp only [Option.bind_eq_bind, Option.bind_some]
    rw [dec_not fun hh => h4 (hh l h2)]
    simp [h1]
  | go _ =>
    simp only [Option.bind_eq_bind, Option.bind_some]
    rw [dec_of fun l h => hx l h (by omega)]
    simp

theorem P.impl_NodesValid (list : List Node) (hl : list.length ≤ 1048576) : F.impl_NodesValid list = some (dec (1 ≤ list.length ∧ list.length ≤ 300 ∧ ∀ j (h : j < list.length), nodeOk j list[j])) := by
  unfold F.impl_NodesValid
  have key : F.impl_NodesValid_l1 list 0 = some (if dec (∀ j (h : j < list.length), 0 ≤ j → nodeOk j list[j]) = true then .go () else .ret false) := by
    refine allLoop (a := list) (Q := nodeOk) (L := F.impl_NodesValid_l1 list) (fun k hk => ?_) (fun k hk hq => ?_) (fun k hk hq => ?_) _ 0 rfl
    · rw [F.impl_NodesValid_l1, if_neg (by omega)]
    · rw [F.impl_NodesValid_l1, if_pos (by omega), List.getElem?_eq_getElem hk]
      have := hq.op0; have := hq.op2; have := hq.els0; have := hq.els1; have := hq.len
      simp only [Option.bind_eq_bind, Option.bind_some, P.within]
      rw [if_pos (by simp; omega), if_neg (by omega), wrap_in (by omega) (by omega), if_pos (by simp; omega), P.contains _ _ (by omega) (by omega), dec_of hq.edges]
      simp
    · rw [F.impl_NodesValid_l1, if_pos (by omega), List.getElem?_eq_getElem hk]
      simp only [Option.bind_eq_bind, Option.bind_some, P.within]
      by_cases a1 : 0 ≤ list[k].op ∧ list[k].op ≤ 2
      · rw [if_pos (by simp; omega)]
        by_cases a5 : 10 < list[k].edges.length
        · rw [if_pos a5]
        rw [if_neg a5, wrap_in (by omega) (by omega)]
        by_cases a3 : -1 ≤ list[k].els ∧ list[k].els ≤ (k : Int) - 1
        · rw [if_pos (by simp; omega), P.contains _ _ (by omega) (by omega), dec_not fun hh => hq ⟨a1.1, a1.2, a3.1, by omega, by omega, hh⟩]
          simp
        · rw [if_neg (by simp; omega)]
      · rw [if_neg (by simp; omega)]
  rw [key]
  simp only [Option.bind_eq_bind, Option.bind_some]
  by_cases hall : ∀ j (h : j < list.length), 0 ≤ j → nodeOk j list[j]
  · rw [if_pos (dec_of hall)]
    simp only [P.within, Option.bind_some, ← dec_eq]
    congr 1
    exact dec_congr ⟨fun h => ⟨by omega, by omega, fun j hj => hall j hj (by omega)⟩, fun h => by omega⟩
  · rw [if_neg (by rw [dec_not hall]; simp), dec_not fun hh => hall fun j h _ => hh.2.2 j h]

theorem P.FnExactNodesValid (x : List Node) (ho : okL Node.Ok x) : F.laws_FnExactNodesValid x = some true := by
  unfold F.laws_FnExactNodesValid
  rw [P.szNodeS x ho _ (by omega) (by omega)]
  simp only [Option.bind_eq_bind, Option.bind_some]
  split
  · rfl
  · next h =>
    have hw := rem_small h
    have hl := wtL_len Node.wt x
    rw [P.toNodeS x (by omega)]
    simp only [Option.bind_some]
    rw [P.spec_NodesValid x, P.impl_NodesValid x (by omega)]
    simp [P.eqNodeS, dec_of]
end Go.Vl
