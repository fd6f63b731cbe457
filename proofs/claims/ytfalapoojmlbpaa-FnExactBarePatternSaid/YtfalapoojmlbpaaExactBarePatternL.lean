/- The plain law of BarePattern. -/
import Derived.Test.YtfalapoojmlbpaaExactBarePatternP
import Derived.Test.YtfalapoojmlbpaaVlQ
set_option linter.unusedSimpArgs false
set_option linter.unusedVariables false
namespace Go.Vl
open Go Go.RowKit

/-- A pattern without its variables. -/
def Pattern.bare : Pattern → Pattern
  | ⟨op, ctor, n, m, var, kids⟩ =>
    if op = 2 then ⟨1, 0, 0, 0, 0, []⟩
    else if op = 6 then match kids.map fun k => Pattern.bare k with
      | [] => ⟨op, ctor, n, m, var, []⟩
      | k :: _ => k
    else ⟨op, ctor, n, m, var, kids.map fun k => Pattern.bare k⟩
theorem Pattern.bare_eq (p : Pattern) : p.bare = if p.op = 2 then ⟨1, 0, 0, 0, 0, []⟩ else if p.op = 6 then (match p.kids.map Pattern.bare with
      | [] => ⟨p.op, p.ctor, p.n, p.m, p.var, []⟩
      | k :: _ => k) else ⟨p.op, p.ctor, p.n, p.m, p.var, p.kids.map Pattern.bare⟩ := by cases p; rw [Pattern.bare]
theorem wtL_map_le {α β : Type} {f : α → β} {w : α → Nat} {v : β → Nat} : ∀ {l : List α}, (∀ x, x ∈ l → v (f x) ≤ w x) → wtL v (l.map f) ≤ wtL w l
  | [], _ => by simp
  | a :: r, h => by
    have h1 := h a (by simp)
    have h2 := wtL_map_le (l := r) fun x hx => h x (List.mem_cons_of_mem _ hx)
    simp only [List.map_cons, wtL_cons]; omega
theorem Pattern.bare_wt (p : Pattern) : p.bare.wt ≤ p.wt := by
  induction p using Pattern.ind with
  | _ p ih =>
    rw [Pattern.bare_eq]
    split
    · rw [Pattern.wt_eq]; simp
    · split
      · cases hk : p.kids with
        | nil => simp only [List.map_nil]; rw [Pattern.wt_eq]; simp
        | cons k r =>
          simp only [List.map_cons]
          have := ih k (by rw [hk]; simp)
          rw [Pattern.wt_eq p, hk]
          simp only [wtL_cons]; omega
      · rw [Pattern.wt_eq, Pattern.wt_eq p]
        exact wtL_map_le fun x hx => ih x hx

theorem P.BarePattern_same (p : Pattern) (hw : p.wt ≤ 1048576) : F.spec_BarePattern p = some p.bare ∧ F.impl_BarePattern p = some p.bare := by
  induction p using Pattern.ind with
  | _ p ih =>
    have hwk := hw
    rw [Pattern.wt_eq] at hwk
    have hlen := wtL_len Pattern.wt p.kids
    have ihk : ∀ k, k ∈ p.kids → F.spec_BarePattern k = some k.bare ∧ F.impl_BarePattern k = some k.bare := fun k hk => ih k hk (by have := wtL_mem Pattern.wt hk; omega)
    have L1 : F.spec_BarePattern_l1 p [] 0 = some (p.kids.map Pattern.bare) := by
      have := appLoop (L := F.spec_BarePattern_l1 p) (a := p.kids) (g := Pattern.bare) (f := F.spec_BarePattern) (fun out i => by rw [F.spec_BarePattern_l1]) (fun x hx => (ihk x hx).1) _ 0 [] rfl (by simp; omega)
      simpa using this
    have L2 : F.spec_BarePattern_l2 p [] 0 = some (p.kids.map Pattern.bare) := by
      have := appLoop (L := F.spec_BarePattern_l2 p) (a := p.kids) (g := Pattern.bare) (f := F.spec_BarePattern) (fun out i => by rw [F.spec_BarePattern_l2]) (fun x hx => (ihk x hx).1) _ 0 [] rfl (by simp; omega)
      simpa using this
    have L3 : F.impl_BarePattern_l1 p [] 0 = some (p.kids.map Pattern.bare) := by
      have := appLoop (L := F.impl_BarePattern_l1 p) (a := p.kids) (g := Pattern.bare) (f := F.impl_BarePattern) (fun out i => by rw [F.impl_BarePattern_l1]) (fun x hx => (ihk x hx).2) _ 0 [] rfl (by simp; omega)
      simpa using this
    have L4 : F.impl_BarePattern_l2 p [] 0 = some (p.kids.map Pattern.bare) := by
      have := appLoop (L := F.impl_BarePattern_l2 p) (a := p.kids) (g := Pattern.bare) (f := F.impl_BarePattern) (fun out i => by rw [F.impl_BarePattern_l2]) (fun x hx => (ihk x hx).2) _ 0 [] rfl (by simp; omega)
      simpa using this
    rw [Pattern.bare_eq]
    unfold F.spec_BarePattern F.impl_BarePattern
    simp only [L1, L2, L3, L4, F.impl_anyPattern, Option.bind_eq_bind, Option.bind_some]
    by_cases h2 : p.op = 2
    · simp [h2]
    · rw [if_neg h2, if_neg h2, if_neg h2]
      by_cases h6 : p.op = 6
      · rw [if_pos h6, if_pos h6, if_pos h6]
        cases hk : p.kids with
        | nil => simp
        | cons k r =>
          have := ihk k (by rw [hk]; simp)
          simp [this.1, this.2]
      · rw [if_neg h6, if_neg h6, if_neg h6]
        exact ⟨rfl, rfl⟩

theorem P.FnExactBarePattern (p : Pattern) (ho : p.Ok) : F.laws_FnExactBarePattern p = some true := by
  unfold F.laws_FnExactBarePattern
  rw [P.szPattern p ho _ (by omega) (by omega)]
  simp only [Option.bind_eq_bind, Option.bind_some]
  split
  · rfl
  · next h =>
    have hw := rem_small h
    rw [P.toPattern p (by omega)]
    simp only [Option.bind_some]
    obtain ⟨h1, h2⟩ := P.BarePattern_same p (by omega)
    have hb := Pattern.bare_wt p
    have hm := Pattern.cntL_le p.kids
    rw [← Pattern.wt_eq] at hm
    have hm2 := Pattern.cntL_le p.bare.kids
    rw [← Pattern.wt_eq] at hm2
    have m1 := Pattern.mkL_snd p.kids 1 (by omega) (by omega)
    have m2 := Pattern.mkL_snd p.bare.kids 1 (by omega) (by omega)
    have m3 := P.heldPatternS p.bare.kids 1 (by omega) (by omega)
    have n1 : ¬ (Pattern.mkL p.kids 1).2 < 0 := by rw [m1]; omega
    have n2 : ¬ (Pattern.mkL p.bare.kids 1).2 < 0 := by rw [m2]; omega
    simp [h1, h2, P.eqPattern, dec_of, F.laws_markPatternS, F.laws_heldPattern, m3, n1, n2]
end Go.Vl
