/- The plain lemmas of the counting, copying and comparing functions (printed by gen_p.py). -/
import Derived.Test.YtfalapoojmlbpaaExactCallsOfF
import Derived.Test.YtfalapoojmlbpaaVlP
set_option linter.unusedSimpArgs false
set_option linter.unusedVariables false
namespace Go.Vl
open Go Go.RowKit

theorem P.szExprS_of (a : List Expr) (ho : a.length ≤ maxLen) (hf : ∀ x, x ∈ a → ∀ l : Int, 0 ≤ l → l ≤ 1048576 → F.laws_szExpr x l = some (rem l (Expr.wt x))) (l : Int) (h0 : 0 ≤ l) (h1 : l ≤ 1048576) : F.laws_szExprS a l = some (rem l (wtL Expr.wt a)) := by
  have hm : (a.length : Int) ≤ 9223372036854775807 := by have : a.length ≤ 9223372036854775807 := ho; omega
  unfold F.laws_szExprS
  rw [wrap_in (n := l - a.length) (by omega) (by omega), wtL_eq]
  by_cases h : l - a.length < 0
  · rw [if_pos h]; simp only [rem]; split
    · omega
    · rfl
  · have h2 : ¬ rem l a.length < 0 := by rw [← rem_sub _ h]; exact h
    rw [if_neg h, rem_sub _ h, szLoop (L := F.laws_szExprS_l1 a) (fun l i => by rw [F.laws_szExprS_l1]) hf _ 0 _ rfl (by omega) (Int.le_trans (rem_le _ h0) h1), rem_rem _ _ h2]
    simp only [List.drop_zero, Option.bind_eq_bind, Option.bind_some]
    split
    · next h3 =>
      split at h3
      · next h4 => cases h3; congr 1; simp only [rem] at h4 ⊢; split at h4 <;> split <;> omega
      · cases h3
    · next h3 =>
      split at h3
      · cases h3
      · cases h3; rfl

theorem P.szExpr (x : Expr) (ho : x.Ok) (l : Int) (h0 : 0 ≤ l) (h1 : l ≤ 1048576) : F.laws_szExpr x l = some (rem l x.wt) := by
  induction x using Expr.ind generalizing l with
  | _ x ih =>
  unfold F.laws_szExpr
  rw [P.szExprS_of x.kids ho.kids.1 (fun k hk l h0 h1 => ih k hk (ho.kids.2 k hk) l h0 h1) _ h0 h1]
  simp only [Option.bind_eq_bind, Option.bind_some]
  by_cases h1n : rem l (wtL Expr.wt x.kids) < 0
  · rw [if_pos h1n]; congr 1; rw [Expr.wt_eq]; simp only [rem] at h1n ⊢; split at h1n <;> split <;> omega
  rw [if_neg h1n]
  rw [Expr.wt_eq]

theorem P.szExprS (a : List Expr) (ho : okL Expr.Ok a) (l : Int) (h0 : 0 ≤ l) (h1 : l ≤ 1048576) : F.laws_szExprS a l = some (rem l (wtL Expr.wt a)) :=
  P.szExprS_of a ho.1 (fun x hx => P.szExpr x (ho.2 x hx)) l h0 h1

theorem P.toExprS_of (a : List Expr) (hl : a.length ≤ 67108864) (hf : ∀ x, x ∈ a → F.laws_toExpr x = some x) : F.laws_toExprS a = some a := by
  unfold F.laws_toExprS
  rw [if_pos hl, toLoop (a := a) (L := F.laws_toExprS_l1 a) (fun out i => by rw [F.laws_toExprS_l1]) hf _ 0 (List.replicate a.length Expr.z) rfl (by simp) rfl]
  rfl

theorem P.toExpr (x : Expr) (hw : x.wt ≤ 67108864) : F.laws_toExpr x = some x := by
  induction x using Expr.ind with
  | _ x ih =>
  unfold F.laws_toExpr
  have hw2 := hw; rw [Expr.wt_eq] at hw2
  rw [P.toExprS_of x.kids (by have := wtL_len Expr.wt x.kids; omega) (fun k hk => ih k hk (by have := wtL_mem Expr.wt hk; omega))]
  simp only [Option.bind_eq_bind, Option.bind_some]
  all_goals (cases x; rfl)

theorem P.toExprS (a : List Expr) (hw : wtL Expr.wt a ≤ 67108864) : F.laws_toExprS a = some a :=
  P.toExprS_of a (by have := wtL_len Expr.wt a; omega) (fun x hx => P.toExpr x (by have := wtL_mem Expr.wt hx; omega))

theorem P.eqIntS (a : List Int) (b : List Int) : F.laws_eqIntS a b = some (dec (a = b)) := by
  unfold F.laws_eqIntS
  by_cases h : a.length = b.length
  · rw [if_pos h, eqLoop0 (L := F.laws_eqIntS_l1 a b) (fun i => by rw [F.laws_eqIntS_l1]) h _ 0 rfl]
    by_cases e : a = b
    · simp [e, dec_of]
    · simp [e, dec_not]
  · rw [if_neg h, dec_not]
    intro e; rw [e] at h; exact h rfl

theorem P.eqExprS_of (a : List Expr) (hf : ∀ x, x ∈ a → ∀ y, F.laws_eqExpr x y = some (dec (x = y))) (b : List Expr) : F.laws_eqExprS a b = some (dec (a = b)) := by
  unfold F.laws_eqExprS
  by_cases h : a.length = b.length
  · rw [if_pos h, eqLoop (L := F.laws_eqExprS_l1 a b) (fun i => by rw [F.laws_eqExprS_l1]) hf h _ 0 rfl]
    by_cases e : a = b
    · simp [e, dec_of]
    · simp [e, dec_not]
  · rw [if_neg h, dec_not]
    intro e; rw [e] at h; exact h rfl

theorem P.eqExpr (x y : Expr) : F.laws_eqExpr x y = some (dec (x = y)) := by
  induction x using Expr.ind generalizing y with
  | _ x ih =>
  unfold F.laws_eqExpr
  simp only [P.eqExprS_of x.kids (fun k hk y => ih k hk y), Option.bind_eq_bind, Option.bind_some, dec_iff]
  cases x; cases y
  simp only [Expr.mk.injEq]
  repeat' split
  all_goals first | (rw [dec_of]; simp_all [dec_iff, dec_false_iff]; done) | (rw [dec_not]; simp_all [dec_iff, dec_false_iff]; done)

theorem P.eqExprS (a b : List Expr) : F.laws_eqExprS a b = some (dec (a = b)) :=
  P.eqExprS_of a (fun x _ y => P.eqExpr x y) b

-- held
theorem P.heldIntS_l1 : ∀ (r D : List Int) (k : Int), 0 ≤ k → k + (cntI r : Int) ≤ 9223372036854775807 → F.laws_heldIntS_l1 (D ++ (mkI r k).1) k D.length = some (.go (mkI r k).2)
  | [], D, k, _, _ => by
    rw [F.laws_heldIntS_l1, if_neg (by simp [mkI])]; rfl
  | x :: r, D, k, h0, h => by
    simp only [cntI, List.length_cons] at h
    obtain ⟨A, hA⟩ : ∃ A, A = (D ++ [k]) ++ (mkI r (IntKind.i64.wrap (k + 1))).1 := ⟨_, rfl⟩
    have h1 : D ++ (mkI (x :: r) k).1 = A := by rw [hA]; simp [mkI]
    have hlt : D.length < A.length := by rw [hA]; simp
    have hget : A[D.length]? = some k := by rw [hA]; simp
    have w : IntKind.i64.wrap (k + 1) = k + 1 := wrap_in (by omega) (by omega)
    have ihr := P.heldIntS_l1 r (D ++ [k]) (IntKind.i64.wrap (k + 1)) (by rw [w]; omega) (by rw [w]; simp only [cntI]; omega)
    rw [← hA] at ihr
    simp only [List.length_append, List.length_cons, List.length_nil, Nat.zero_add] at ihr
    rw [h1, F.laws_heldIntS_l1, if_pos hlt, hget]
    simp only [Option.bind_eq_bind, Option.bind_some, if_true]
    exact ihr

theorem P.heldIntS (l : List Int) (k : Int) (h0 : 0 ≤ k) (h : k + (cntI l : Int) ≤ 9223372036854775807) : F.laws_heldIntS (mkI l k).1 k = some (mkI l k).2 := by
  unfold F.laws_heldIntS
  have := P.heldIntS_l1 l [] k h0 h
  simp only [List.nil_append, List.length_nil] at this
  rw [this]
  rfl
end Go.Vl
