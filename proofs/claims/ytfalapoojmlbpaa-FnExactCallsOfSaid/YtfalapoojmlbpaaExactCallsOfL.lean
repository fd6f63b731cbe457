/- The plain law of CallsOf. -/
import Derived.Test.YtfalapoojmlbpaaExactCallsOfB
set_option linter.unusedSimpArgs false
set_option linter.unusedVariables false
namespace Go.Vl
open Go Go.RowKit

theorem P.within_0_3 (n : Int) : F.impl_within n 0 3 = some (decide (0 ≤ n ∧ n ≤ 3)) := by
  unfold F.impl_within
  by_cases h : 0 ≤ n
  · simp [h]
  · simp [h]

theorem P.calls_same (e : Expr) : ∀ S : Nat → Bool, ∃ S', F.impl_calls e S = some S' ∧ F.spec_l12Calls ((List.range 4).map S) e = some ((List.range 4).map S') := by
  induction e using Expr.ind with
  | _ e ih =>
    intro S
    have lp : ∀ S : Nat → Bool, ∃ S', F.impl_calls_l1 e S 0 = some S' ∧ F.spec_l12Calls_l1 e ((List.range 4).map S) 0 = some ((List.range 4).map S') := by
      intro S
      obtain ⟨s', t', h1, h2, h3⟩ := foldEx (R := fun s t => t = (List.range 4).map s) (f := fun s x => F.impl_calls x s) (g := fun t x => F.spec_l12Calls t x) (L := F.impl_calls_l1 e) (M := F.spec_l12Calls_l1 e) (a := e.kids)
        (fun s i => by rw [F.impl_calls_l1]) (fun s i => by rw [F.spec_l12Calls_l1]) (fun x hx s t hR => by
          subst hR
          obtain ⟨S', h1, h2⟩ := ih x hx s
          exact ⟨S', _, h1, h2, rfl⟩) _ 0 S _ rfl rfl
      subst h3
      exact ⟨s', h1, h2⟩
    have i2 : ∀ S i, F.impl_calls_l2 e S i = F.impl_calls_l1 e S i := by
      intro S i
      induction hn : e.kids.length - i generalizing S i with
      | zero => rw [F.impl_calls_l2, F.impl_calls_l1, if_neg (by omega), if_neg (by omega)]
      | succ n ihn => rw [F.impl_calls_l2, F.impl_calls_l1]; simp only [fun v => ihn v (i + 1) (by omega)]
    have i3 : ∀ S i, F.impl_calls_l3 e S i = F.impl_calls_l1 e S i := by
      intro S i
      induction hn : e.kids.length - i generalizing S i with
      | zero => rw [F.impl_calls_l3, F.impl_calls_l1, if_neg (by omega), if_neg (by omega)]
      | succ n ihn => rw [F.impl_calls_l3, F.impl_calls_l1]; simp only [fun v => ihn v (i + 1) (by omega)]
    have s2 : ∀ S i, F.spec_l12Calls_l2 e S i = F.spec_l12Calls_l1 e S i := by
      intro S i
      induction hn : e.kids.length - i generalizing S i with
      | zero => rw [F.spec_l12Calls_l2, F.spec_l12Calls_l1, if_neg (by omega), if_neg (by omega)]
      | succ n ihn => rw [F.spec_l12Calls_l2, F.spec_l12Calls_l1]; simp only [fun v => ihn v (i + 1) (by omega)]
    have s3 : ∀ S i, F.spec_l12Calls_l3 e S i = F.spec_l12Calls_l1 e S i := by
      intro S i
      induction hn : e.kids.length - i generalizing S i with
      | zero => rw [F.spec_l12Calls_l3, F.spec_l12Calls_l1, if_neg (by omega), if_neg (by omega)]
      | succ n ihn => rw [F.spec_l12Calls_l3, F.spec_l12Calls_l1]; simp only [fun v => ihn v (i + 1) (by omega)]
    have s4 : ∀ S i, F.spec_l12Calls_l4 e S i = F.spec_l12Calls_l1 e S i := by
      intro S i
      induction hn : e.kids.length - i generalizing S i with
      | zero => rw [F.spec_l12Calls_l4, F.spec_l12Calls_l1, if_neg (by omega), if_neg (by omega)]
      | succ n ihn => rw [F.spec_l12Calls_l4, F.spec_l12Calls_l1]; simp only [fun v => ihn v (i + 1) (by omega)]
    unfold F.impl_calls F.spec_l12Calls
    simp only [i2, i3, s2, s3, s4, P.within_0_3, Option.bind_eq_bind, Option.bind_some, List.length_map, List.length_range]
    by_cases ho : e.op = 5
    · rw [if_pos ho, if_pos ho]
      by_cases h0 : 0 ≤ e.n
      · rw [if_pos h0]
        by_cases h3 : e.n ≤ 3
        · have hlt : e.n.toNat < 4 := by omega
          have hn : (e.n.toNat : Int) = e.n := by omega
          have hat : at? ((List.range 4).map S) e.n = some (S e.n.toNat) := by
            rw [← hn, at_nat, List.getElem?_map, List.getElem?_range (by simpa using hlt)]; simp; congr 1; omega
          rw [if_pos (by simp; omega), if_pos ⟨h0, hlt⟩, if_pos (by simp; omega), hat]
          simp only [Option.bind_some]
          rw [flags_upd hlt]
          obtain ⟨S', h1, h2⟩ := lp (updF S e.n.toNat true)
          rw [h1, h2]
          exact ⟨S', rfl, rfl⟩
        · rw [if_neg (by simp; omega), if_neg (by simp; omega)]
          obtain ⟨S', h1, h2⟩ := lp S
          rw [h1, h2]
          exact ⟨S', rfl, rfl⟩
      · rw [if_neg (by simp; omega), if_neg h0]
        obtain ⟨S', h1, h2⟩ := lp S
        rw [h1, h2]
        exact ⟨S', rfl, rfl⟩
    · rw [if_neg ho, if_neg ho]
      obtain ⟨S', h1, h2⟩ := lp S
      rw [h1, h2]
      exact ⟨S', rfl, rfl⟩

theorem P.CallsOf_same (e : Expr) : ∃ g, F.spec_CallsOf e = some g ∧ F.impl_CallsOf e = some g ∧ g.length ≤ 4 := by
  unfold F.spec_CallsOf F.impl_CallsOf
  rw [if_pos (by decide)]
  have e0 : List.replicate 4 false = (List.range 4).map (fun _ => false) := rfl
  obtain ⟨S, h1, h2⟩ := P.calls_same e (fun _ => false)
  rw [e0, h2, h1]
  simp only [Option.bind_eq_bind, Option.bind_some]
  obtain ⟨r, h3, h4, h5⟩ := setEx (n := 4) (S := S) (L := F.spec_CallsOf_l1 ((List.range 4).map S)) (M := F.impl_CallsOf_l1 S) (by omega)
    (fun out i => by rw [F.spec_CallsOf_l1]) (fun i out => by rw [F.impl_CallsOf_l1]) 4 0 [] rfl (by simp) (by omega)
  exact ⟨r, by rw [h3]; rfl, by rw [h4]; rfl, h5⟩

theorem P.FnExactCallsOf (e : Expr) (ho : e.Ok) : F.laws_FnExactCallsOf e = some true := by
  unfold F.laws_FnExactCallsOf
  rw [P.szExpr e ho _ (by omega) (by omega)]
  simp only [Option.bind_eq_bind, Option.bind_some]
  split
  · rfl
  · next h =>
    have hw := rem_small h
    rw [P.toExpr e (by omega)]
    simp only [Option.bind_some]
    obtain ⟨g, h1, h2, h3⟩ := P.CallsOf_same e
    have hm := Expr.cntL_le e.kids
    rw [← Expr.wt_eq] at hm
    have m1 := Expr.mkL_snd e.kids 1 (by omega) (by omega)
    have hc : cntI g ≤ 4 := h3
    have m2 := mkI_snd g 1 (by omega) (by omega)
    have m3 := P.heldIntS g 1 (by omega) (by omega)
    have n1 : ¬ (Expr.mkL e.kids 1).2 < 0 := by rw [m1]; omega
    have n2 : ¬ (mkI g 1).2 < 0 := by rw [m2]; omega
    simp [h1, h2, P.eqIntS, P.eqExpr, dec_of, F.laws_markExprS, F.laws_markIntS, m3, n1, n2]
end Go.Vl
