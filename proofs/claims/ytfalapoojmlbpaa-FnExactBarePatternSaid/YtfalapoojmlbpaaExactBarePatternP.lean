/- The plain lemmas of the counting, copying and comparing functions (printed by gen_p.py). -/
import Derived.Test.YtfalapoojmlbpaaExactBarePatternF
import Derived.Test.YtfalapoojmlbpaaVlP
set_option linter.unusedSimpArgs false
set_option linter.unusedVariables false
namespace Go.Vl
open Go Go.RowKit

theorem P.szPatternS_of (a : List Pattern) (ho : a.length ≤ maxLen) (hf : ∀ x, x ∈ a → ∀ l : Int, 0 ≤ l → l ≤ 1048576 → F.laws_szPattern x l = some (rem l (Pattern.wt x))) (l : Int) (h0 : 0 ≤ l) (h1 : l ≤ 1048576) : F.laws_szPatternS a l = some (rem l (wtL Pattern.wt a)) := by
  have hm : (a.length : Int) ≤ 9223372036854775807 := by have : a.length ≤ 9223372036854775807 := ho; omega
  unfold F.laws_szPatternS
  rw [wrap_in (n := l - a.length) (by omega) (by omega), wtL_eq]
  by_cases h : l - a.length < 0
  · rw [if_pos h]; simp only [rem]; split
    · omega
    · rfl
  · have h2 : ¬ rem l a.length < 0 := by rw [← rem_sub _ h]; exact h
    rw [if_neg h, rem_sub _ h, szLoop (L := F.laws_szPatternS_l1 a) (fun l i => by rw [F.laws_szPatternS_l1]) hf _ 0 _ rfl (by omega) (Int.le_trans (rem_le _ h0) h1), rem_rem _ _ h2]
    simp only [List.drop_zero, Option.bind_eq_bind, Option.bind_some]
    split
    · next h3 =>
      split at h3
      · next h4 => cases h3; congr 1; simp only [rem] at h4 ⊢; split at h4 <;> split <;> omega
      · cases h3
    · next h3 =>
      split at h3
      · cases h3
      · cases h3; rfl

theorem P.szPattern (x : Pattern) (ho : x.Ok) (l : Int) (h0 : 0 ≤ l) (h1 : l ≤ 1048576) : F.laws_szPattern x l = some (rem l x.wt) := by
  induction x using Pattern.ind generalizing l with
  | _ x ih =>
  unfold F.laws_szPattern
  rw [P.szPatternS_of x.kids ho.kids.1 (fun k hk l h0 h1 => ih k hk (ho.kids.2 k hk) l h0 h1) _ h0 h1]
  simp only [Option.bind_eq_bind, Option.bind_some]
  by_cases h1n : rem l (wtL Pattern.wt x.kids) < 0
  · rw [if_pos h1n]; congr 1; rw [Pattern.wt_eq]; simp only [rem] at h1n ⊢; split at h1n <;> split <;> omega
  rw [if_neg h1n]
  rw [Pattern.wt_eq]

theorem P.szPatternS (a : List Pattern) (ho : okL Pattern.Ok a) (l : Int) (h0 : 0 ≤ l) (h1 : l ≤ 1048576) : F.laws_szPatternS a l = some (rem l (wtL Pattern.wt a)) :=
  P.szPatternS_of a ho.1 (fun x hx => P.szPattern x (ho.2 x hx)) l h0 h1

theorem P.toPatternS_of (a : List Pattern) (hl : a.length ≤ 67108864) (hf : ∀ x, x ∈ a → F.laws_toPattern x = some x) : F.laws_toPatternS a = some a := by
  unfold F.laws_toPatternS
  rw [if_pos hl, toLoop (a := a) (L := F.laws_toPatternS_l1 a) (fun out i => by rw [F.laws_toPatternS_l1]) hf _ 0 (List.replicate a.length Pattern.z) rfl (by simp) rfl]
  rfl

theorem P.toPattern (x : Pattern) (hw : x.wt ≤ 67108864) : F.laws_toPattern x = some x := by
  induction x using Pattern.ind with
  | _ x ih =>
  unfold F.laws_toPattern
  have hw2 := hw; rw [Pattern.wt_eq] at hw2
  rw [P.toPatternS_of x.kids (by have := wtL_len Pattern.wt x.kids; omega) (fun k hk => ih k hk (by have := wtL_mem Pattern.wt hk; omega))]
  simp only [Option.bind_eq_bind, Option.bind_some]
  all_goals (cases x; rfl)

theorem P.toPatternS (a : List Pattern) (hw : wtL Pattern.wt a ≤ 67108864) : F.laws_toPatternS a = some a :=
  P.toPatternS_of a (by have := wtL_len Pattern.wt a; omega) (fun x hx => P.toPattern x (by have := wtL_mem Pattern.wt hx; omega))

theorem P.eqPatternS_of (a : List Pattern) (hf : ∀ x, x ∈ a → ∀ y, F.laws_eqPattern x y = some (dec (x = y))) (b : List Pattern) : F.laws_eqPatternS a b = some (dec (a = b)) := by
  unfold F.laws_eqPatternS
  by_cases h : a.length = b.length
  · rw [if_pos h, eqLoop (L := F.laws_eqPatternS_l1 a b) (fun i => by rw [F.laws_eqPatternS_l1]) hf h _ 0 rfl]
    by_cases e : a = b
    · simp [e, dec_of]
    · simp [e, dec_not]
  · rw [if_neg h, dec_not]
    intro e; rw [e] at h; exact h rfl

theorem P.eqPattern (x y : Pattern) : F.laws_eqPattern x y = some (dec (x = y)) := by
  induction x using Pattern.ind generalizing y with
  | _ x ih =>
  unfold F.laws_eqPattern
  simp only [P.eqPatternS_of x.kids (fun k hk y => ih k hk y), Option.bind_eq_bind, Option.bind_some, dec_iff]
  cases x; cases y
  simp only [Pattern.mk.injEq]
  repeat' split
  all_goals first | (rw [dec_of]; simp_all [dec_iff, dec_false_iff]; done) | (rw [dec_not]; simp_all [dec_iff, dec_false_iff]; done)

theorem P.eqPatternS (a b : List Pattern) : F.laws_eqPatternS a b = some (dec (a = b)) :=
  P.eqPatternS_of a (fun x _ y => P.eqPattern x y) b

-- held
theorem P.heldPatternS_A : ∀ m : Nat, (∀ (r D : List Pattern) (k : Int), SizeOf.sizeOf r < m → 0 ≤ k → k + (Pattern.cntL r : Int) ≤ 9223372036854775807 → F.laws_heldPatternS_l1 (D ++ (Pattern.mkL r k).1) k D.length = some (.go (Pattern.mkL r k).2)) := by
  intro m
  induction m with
  | zero => exact fun r D k h => absurd h (Nat.not_lt_zero _)
  | succ m ih =>
    intro r D k hm h0 h
    induction r generalizing D k with
    | nil => rw [F.laws_heldPatternS_l1, if_neg (by simp [Pattern.mkL])]; simp [Pattern.mkL]
    | cons x r ihr =>
      have hr : SizeOf.sizeOf r < m + 1 := by simp at hm; omega
      simp only [Pattern.cntL] at h
      have hE : (Pattern.mkE x k).2 = k + (Pattern.cnt x : Int) := by
        have h2 := Pattern.mkL_snd [x] k h0 (by simp only [Pattern.cntL]; omega)
        simpa [Pattern.mkL, Pattern.cntL] using h2
      obtain ⟨A, hA⟩ : ∃ A, A = (D ++ [(Pattern.mkE x k).1]) ++ (Pattern.mkL r (Pattern.mkE x k).2).1 := ⟨_, rfl⟩
      have h1 : D ++ (Pattern.mkL (x :: r) k).1 = A := by rw [hA]; simp [Pattern.mkL]
      have hlt : D.length < A.length := by rw [hA]; simp
      have hget : A[D.length]? = some (Pattern.mkE x k).1 := by rw [hA]; simp
      have ihr2 := ihr (D ++ [(Pattern.mkE x k).1]) (Pattern.mkE x k).2 hr (by rw [hE]; omega) (by rw [hE]; omega)
      rw [← hA] at ihr2
      simp only [List.length_append, List.length_cons, List.length_nil, Nat.zero_add] at ihr2
      have e2 : (Pattern.mkL (x :: r) k).2 = (Pattern.mkL r (Pattern.mkE x k).2).2 := by rw [Pattern.mkL]
      rw [e2, h1, F.laws_heldPatternS_l1, if_pos hlt, hget]
      simp only [Option.bind_eq_bind, Option.bind_some]
      generalize hk2 : (Pattern.mkE x k).2 = k2 at ihr2 hE ⊢
      clear hA h1 hget e2 ihr
      obtain ⟨op, ctor, n, m, var, kids⟩ := x
      simp only [Pattern.cnt] at h hE
      simp only [Pattern.mkE] at hk2 ⊢
      have w1 : IntKind.i64.wrap (k + 1) = k + 1 := wrap_in (by omega) (by omega)
      rw [if_pos (by first | rfl | trivial)]
      have w2 : IntKind.i64.wrap (k + 1 + 1) = k + 1 + 1 := wrap_in (by omega) (by omega)
      rw [if_pos (by first | rfl | trivial)]
      have w3 : IntKind.i64.wrap (k + 1 + 1 + 1) = k + 1 + 1 + 1 := wrap_in (by omega) (by omega)
      rw [if_pos (by first | rfl | trivial)]
      have w4 : IntKind.i64.wrap (k + 1 + 1 + 1 + 1) = k + 1 + 1 + 1 + 1 := wrap_in (by omega) (by omega)
      rw [if_pos (by first | rfl | trivial)]
      have w5 : IntKind.i64.wrap (k + 1 + 1 + 1 + 1 + 1) = k + 1 + 1 + 1 + 1 + 1 := wrap_in (by omega) (by omega)
      rw [if_pos (by first | rfl | trivial)]
      have rw6 : IntKind.i64.wrap ((IntKind.i64.wrap ((IntKind.i64.wrap ((IntKind.i64.wrap ((IntKind.i64.wrap (k + 1)) + 1)) + 1)) + 1)) + 1) = k + 1 + 1 + 1 + 1 + 1 := by simp only [w1, w2, w3, w4, w5]
      have qw6 : F.laws_heldPatternS (Pattern.mkL kids (IntKind.i64.wrap ((IntKind.i64.wrap ((IntKind.i64.wrap ((IntKind.i64.wrap ((IntKind.i64.wrap (k + 1)) + 1)) + 1)) + 1)) + 1))).1 (IntKind.i64.wrap ((IntKind.i64.wrap ((IntKind.i64.wrap ((IntKind.i64.wrap ((IntKind.i64.wrap (k + 1)) + 1)) + 1)) + 1)) + 1)) = some (Pattern.mkL kids (IntKind.i64.wrap ((IntKind.i64.wrap ((IntKind.i64.wrap ((IntKind.i64.wrap ((IntKind.i64.wrap (k + 1)) + 1)) + 1)) + 1)) + 1))).2 := by
        have h3 := ih kids [] (IntKind.i64.wrap ((IntKind.i64.wrap ((IntKind.i64.wrap ((IntKind.i64.wrap ((IntKind.i64.wrap (k + 1)) + 1)) + 1)) + 1)) + 1)) (by simp at hm; omega) (by rw [rw6]; omega) (by rw [rw6]; omega)
        simp only [List.nil_append, List.length_nil] at h3
        rw [F.laws_heldPatternS, h3]; rfl
      have w6 : (Pattern.mkL kids (k + 1 + 1 + 1 + 1 + 1)).2 = k + 1 + 1 + 1 + 1 + 1 + (Pattern.cntL kids : Int) := Pattern.mkL_snd _ _ (by omega) (by omega)
      rw [qw6]
      simp only [Option.bind_some]
      rw [if_neg (by rw [rw6, w6]; omega)]
      rw [hk2]
      exact ihr2

theorem P.heldPatternS_l1 (r D : List Pattern) (k : Int) (h0 : 0 ≤ k) (h : k + (Pattern.cntL r : Int) ≤ 9223372036854775807) : F.laws_heldPatternS_l1 (D ++ (Pattern.mkL r k).1) k D.length = some (.go (Pattern.mkL r k).2) := (P.heldPatternS_A (SizeOf.sizeOf r + 1)) r D k (Nat.lt_succ_self _) h0 h

theorem P.heldPatternS (l : List Pattern) (k : Int) (h0 : 0 ≤ k) (h : k + (Pattern.cntL l : Int) ≤ 9223372036854775807) : F.laws_heldPatternS (Pattern.mkL l k).1 k = some (Pattern.mkL l k).2 := by
  unfold F.laws_heldPatternS
  have := P.heldPatternS_l1 l [] k h0 h
  simp only [List.nil_append, List.length_nil] at this
  rw [this]
  rfl
end Go.Vl
