/- The plain lemmas of the counting, copying and comparing functions (printed by gen_p.py). -/
import Derived.Test.YtoacjahdkkdffaaExactTreeLeavesF
import Derived.Test.YtoacjahdkkdffaaVlP
set_option linter.unusedSimpArgs false
set_option linter.unusedVariables false
namespace Go.Vl
open Go Go.RowKit

theorem P.szIntS (a : List Int) (ho : a.length ≤ maxLen) (l : Int) (h0 : 0 ≤ l) (h1 : l ≤ 1048576) : F.laws_szIntS a l = some (rem l (wtL (fun _ => 0) a)) := by
  have hm : (a.length : Int) ≤ 9223372036854775807 := by have : a.length ≤ 9223372036854775807 := ho; omega
  have hw : wtL (fun _ => 0) a = a.length := wtL_zero (fun _ => rfl) a
  unfold F.laws_szIntS
  rw [wrap_in (n := l - a.length) (by omega) (by omega), hw]
  by_cases h : l - a.length < 0
  · rw [if_pos h]; simp only [rem]; split
    · omega
    · rfl
  · rw [if_neg h, rem_sub _ h]

theorem P.szPathBind (x : PathBind) (ho : x.Ok) (l : Int) (h0 : 0 ≤ l) (h1 : l ≤ 1048576) : F.laws_szPathBind x l = some (rem l x.wt) := by
  unfold F.laws_szPathBind
  rw [P.szIntS x.path ho.path.1 _ h0 h1]
  simp only [Option.bind_eq_bind, Option.bind_some]
  by_cases h1n : rem l (wtL (fun _ => 0) x.path) < 0
  · rw [if_pos h1n]; congr 1; unfold PathBind.wt; simp only [rem] at h1n ⊢; split at h1n <;> split <;> omega
  rw [if_neg h1n]
  rfl

theorem P.szPathBindS_of (a : List PathBind) (ho : a.length ≤ maxLen) (hf : ∀ x, x ∈ a → ∀ l : Int, 0 ≤ l → l ≤ 1048576 → F.laws_szPathBind x l = some (rem l (PathBind.wt x))) (l : Int) (h0 : 0 ≤ l) (h1 : l ≤ 1048576) : F.laws_szPathBindS a l = some (rem l (wtL PathBind.wt a)) := by
  have hm : (a.length : Int) ≤ 9223372036854775807 := by have : a.length ≤ 9223372036854775807 := ho; omega
  unfold F.laws_szPathBindS
  rw [wrap_in (n := l - a.length) (by omega) (by omega), wtL_eq]
  by_cases h : l - a.length < 0
  · rw [if_pos h]; simp only [rem]; split
    · omega
    · rfl
  · have h2 : ¬ rem l a.length < 0 := by rw [← rem_sub _ h]; exact h
    rw [if_neg h, rem_sub _ h, szLoop (L := F.laws_szPathBindS_l1 a) (fun l i => by rw [F.laws_szPathBindS_l1]) hf _ 0 _ rfl (by omega) (Int.le_trans (rem_le _ h0) h1), rem_rem _ _ h2]
    simp only [List.drop_zero, Option.bind_eq_bind, Option.bind_some]
    split
    · next h3 =>
      split at h3
      · next h4 => cases h3; congr 1; simp only [rem] at h4 ⊢; split at h4 <;> split <;> omega
      · cases h3
    · next h3 =>
      split at h3
      · cases h3
      · cases h3; rfl

theorem P.szPathBindS (a : List PathBind) (ho : okL PathBind.Ok a) (l : Int) (h0 : 0 ≤ l) (h1 : l ≤ 1048576) : F.laws_szPathBindS a l = some (rem l (wtL PathBind.wt a)) :=
  P.szPathBindS_of a ho.1 (fun x hx => P.szPathBind x (ho.2 x hx)) l h0 h1

theorem P.szBranchS_of (a : List Branch) (ho : a.length ≤ maxLen) (hf : ∀ x, x ∈ a → ∀ l : Int, 0 ≤ l → l ≤ 1048576 → F.laws_szBranch x l = some (rem l (Branch.wt x))) (l : Int) (h0 : 0 ≤ l) (h1 : l ≤ 1048576) : F.laws_szBranchS a l = some (rem l (wtL Branch.wt a)) := by
  have hm : (a.length : Int) ≤ 9223372036854775807 := by have : a.length ≤ 9223372036854775807 := ho; omega
  unfold F.laws_szBranchS
  rw [wrap_in (n := l - a.length) (by omega) (by omega), wtL_eq]
  by_cases h : l - a.length < 0
  · rw [if_pos h]; simp only [rem]; split
    · omega
    · rfl
  · have h2 : ¬ rem l a.length < 0 := by rw [← rem_sub _ h]; exact h
    rw [if_neg h, rem_sub _ h, szLoop (L := F.laws_szBranchS_l1 a) (fun l i => by rw [F.laws_szBranchS_l1]) hf _ 0 _ rfl (by omega) (Int.le_trans (rem_le _ h0) h1), rem_rem _ _ h2]
    simp only [List.drop_zero, Option.bind_eq_bind, Option.bind_some]
    split
    · next h3 =>
      split at h3
      · next h4 => cases h3; congr 1; simp only [rem] at h4 ⊢; split at h4 <;> split <;> omega
      · cases h3
    · next h3 =>
      split at h3
      · cases h3
      · cases h3; rfl

theorem P.szTreeS_of (a : List Tree) (ho : a.length ≤ maxLen) (hf : ∀ x, x ∈ a → ∀ l : Int, 0 ≤ l → l ≤ 1048576 → F.laws_szTree x l = some (rem l (Tree.wt x))) (l : Int) (h0 : 0 ≤ l) (h1 : l ≤ 1048576) : F.laws_szTreeS a l = some (rem l (wtL Tree.wt a)) := by
  have hm : (a.length : Int) ≤ 9223372036854775807 := by have : a.length ≤ 9223372036854775807 := ho; omega
  unfold F.laws_szTreeS
  rw [wrap_in (n := l - a.length) (by omega) (by omega), wtL_eq]
  by_cases h : l - a.length < 0
  · rw [if_pos h]; simp only [rem]; split
    · omega
    · rfl
  · have h2 : ¬ rem l a.length < 0 := by rw [← rem_sub _ h]; exact h
    rw [if_neg h, rem_sub _ h, szLoop (L := F.laws_szTreeS_l1 a) (fun l i => by rw [F.laws_szTreeS_l1]) hf _ 0 _ rfl (by omega) (Int.le_trans (rem_le _ h0) h1), rem_rem _ _ h2]
    simp only [List.drop_zero, Option.bind_eq_bind, Option.bind_some]
    split
    · next h3 =>
      split at h3
      · next h4 => cases h3; congr 1; simp only [rem] at h4 ⊢; split at h4 <;> split <;> omega
      · cases h3
    · next h3 =>
      split at h3
      · cases h3
      · cases h3; rfl

theorem P.szTree (x : Tree) (ho : x.Ok) (l : Int) (h0 : 0 ≤ l) (h1 : l ≤ 1048576) : F.laws_szTree x l = some (rem l x.wt) := by
  induction x using Tree.ind generalizing l with
  | _ x ihb ihe =>
  unfold F.laws_szTree
  rw [P.szPathBindS x.binds ho.binds _ h0 h1]
  simp only [Option.bind_eq_bind, Option.bind_some]
  by_cases h1n : rem l (wtL PathBind.wt x.binds) < 0
  · rw [if_pos h1n]; congr 1; rw [Tree.wt_eq]; simp only [rem] at h1n ⊢; split at h1n <;> split <;> omega
  rw [if_neg h1n]
  rw [P.szIntS x.path ho.path.1 _ (by omega) (Int.le_trans (rem_le _ h0) h1)]
  simp only [Option.bind_eq_bind, Option.bind_some]
  rw [rem_rem _ _ h1n]
  by_cases h2n : rem l (wtL PathBind.wt x.binds + wtL (fun _ => 0) x.path) < 0
  · rw [if_pos h2n]; congr 1; rw [Tree.wt_eq]; simp only [rem] at h2n ⊢; split at h2n <;> split <;> omega
  rw [if_neg h2n]
  rw [P.szBranchS_of x.branches ho.branches.1 (fun b hb l h0 h1 => by unfold F.laws_szBranch; rw [ihb b hb (ho.branches.2 b hb).tree l h0 h1]; simp only [Option.bind_eq_bind, Option.bind_some, szEnd, rem_fix]; rfl) _ (by omega) (Int.le_trans (rem_le _ h0) h1)]
  simp only [Option.bind_eq_bind, Option.bind_some]
  rw [rem_rem _ _ h2n]
  by_cases h3n : rem l (wtL PathBind.wt x.binds + wtL (fun _ => 0) x.path + wtL Branch.wt x.branches) < 0
  · rw [if_pos h3n]; congr 1; rw [Tree.wt_eq]; simp only [rem] at h3n ⊢; split at h3n <;> split <;> omega
  rw [if_neg h3n]
  rw [P.szTreeS_of x.els ho.els.1 (fun k hk l h0 h1 => ihe k hk (ho.els.2 k hk) l h0 h1) _ (by omega) (Int.le_trans (rem_le _ h0) h1)]
  simp only [Option.bind_eq_bind, Option.bind_some]
  rw [rem_rem _ _ h3n]
  by_cases h4n : rem l (wtL PathBind.wt x.binds + wtL (fun _ => 0) x.path + wtL Branch.wt x.branches + wtL Tree.wt x.els) < 0
  · rw [if_pos h4n]; congr 1; rw [Tree.wt_eq]; simp only [rem] at h4n ⊢; split at h4n <;> split <;> omega
  rw [if_neg h4n]
  rw [Tree.wt_eq]

theorem P.szBranchS (a : List Branch) (ho : okL Branch.Ok a) (l : Int) (h0 : 0 ≤ l) (h1 : l ≤ 1048576) : F.laws_szBranchS a l = some (rem l (wtL Branch.wt a)) :=
  P.szBranchS_of a ho.1 (fun b hb l h0 h1 => by unfold F.laws_szBranch; rw [P.szTree b.tree (ho.2 b hb).tree l h0 h1]; simp only [Option.bind_eq_bind, Option.bind_some, szEnd, rem_fix]; rfl) l h0 h1

theorem P.szTreeS (a : List Tree) (ho : okL Tree.Ok a) (l : Int) (h0 : 0 ≤ l) (h1 : l ≤ 1048576) : F.laws_szTreeS a l = some (rem l (wtL Tree.wt a)) :=
  P.szTreeS_of a ho.1 (fun x hx => P.szTree x (ho.2 x hx)) l h0 h1

theorem P.toIntS (a : List Int) (hl : a.length ≤ 67108864) : F.laws_toIntS a = some a := by
  unfold F.laws_toIntS
  rw [if_pos hl, toLoop0 (a := a) (L := F.laws_toIntS_l1 a) (fun out i => by rw [F.laws_toIntS_l1]) _ 0 (List.replicate a.length (0 : Int)) rfl (by simp) rfl]
  rfl

theorem P.toPathBind (x : PathBind) (hw : x.wt ≤ 67108864) : F.laws_toPathBind x = some x := by
  unfold F.laws_toPathBind
  have hw2 := hw; unfold PathBind.wt at hw2
  rw [P.toIntS x.path (by have := wtL_len (fun _ : Int => 0) x.path; omega)]
  simp only [Option.bind_eq_bind, Option.bind_some]
  all_goals (cases x; rfl)

theorem P.toPathBindS_of (a : List PathBind) (hl : a.length ≤ 67108864) (hf : ∀ x, x ∈ a → F.laws_toPathBind x = some x) : F.laws_toPathBindS a = some a := by
  unfold F.laws_toPathBindS
  rw [if_pos hl, toLoop (a := a) (L := F.laws_toPathBindS_l1 a) (fun out i => by rw [F.laws_toPathBindS_l1]) hf _ 0 (List.replicate a.length PathBind.z) rfl (by simp) rfl]
  rfl

theorem P.toPathBindS (a : List PathBind) (hw : wtL PathBind.wt a ≤ 67108864) : F.laws_toPathBindS a = some a :=
  P.toPathBindS_of a (by have := wtL_len PathBind.wt a; omega) (fun x hx => P.toPathBind x (by have := wtL_mem PathBind.wt hx; omega))

theorem P.toBranchS_of (a : List Branch) (hl : a.length ≤ 67108864) (hf : ∀ x, x ∈ a → F.laws_toBranch x = some x) : F.laws_toBranchS a = some a := by
  unfold F.laws_toBranchS
  rw [if_pos hl, toLoop (a := a) (L := F.laws_toBranchS_l1 a) (fun out i => by rw [F.laws_toBranchS_l1]) hf _ 0 (List.replicate a.length Branch.z) rfl (by simp) rfl]
  rfl

theorem P.toTreeS_of (a : List Tree) (hl : a.length ≤ 67108864) (hf : ∀ x, x ∈ a → F.laws_toTree x = some x) : F.laws_toTreeS a = some a := by
  unfold F.laws_toTreeS
  rw [if_pos hl, toLoop (a := a) (L := F.laws_toTreeS_l1 a) (fun out i => by rw [F.laws_toTreeS_l1]) hf _ 0 (List.replicate a.length Tree.z) rfl (by simp) rfl]
  rfl

theorem P.toTree (x : Tree) (hw : x.wt ≤ 67108864) : F.laws_toTree x = some x := by
  induction x using Tree.ind with
  | _ x ihb ihe =>
  unfold F.laws_toTree
  have hw2 := hw; rw [Tree.wt_eq] at hw2
  rw [P.toPathBindS x.binds (by omega)]
  simp only [Option.bind_eq_bind, Option.bind_some]
  rw [P.toIntS x.path (by have := wtL_len (fun _ : Int => 0) x.path; omega)]
  simp only [Option.bind_eq_bind, Option.bind_some]
  rw [P.toBranchS_of x.branches (by have := wtL_len Branch.wt x.branches; omega) (fun b hb => by unfold F.laws_toBranch; rw [ihb b hb (by have := wtL_mem Branch.wt hb; have : Branch.wt b = b.tree.wt := rfl; omega)]; rfl)]
  simp only [Option.bind_eq_bind, Option.bind_some]
  rw [P.toTreeS_of x.els (by have := wtL_len Tree.wt x.els; omega) (fun k hk => ihe k hk (by have := wtL_mem Tree.wt hk; omega))]
  simp only [Option.bind_eq_bind, Option.bind_some]
  all_goals (cases x; rfl)

theorem P.toBranchS (a : List Branch) (hw : wtL Branch.wt a ≤ 67108864) : F.laws_toBranchS a = some a :=
  P.toBranchS_of a (by have := wtL_len Branch.wt a; omega) (fun b hb => by unfold F.laws_toBranch; rw [P.toTree b.tree (by have := wtL_mem Branch.wt hb; have : Branch.wt b = b.tree.wt := rfl; omega)]; rfl)

theorem P.toTreeS (a : List Tree) (hw : wtL Tree.wt a ≤ 67108864) : F.laws_toTreeS a = some a :=
  P.toTreeS_of a (by have := wtL_len Tree.wt a; omega) (fun x hx => P.toTree x (by have := wtL_mem Tree.wt hx; omega))

theorem P.eqIntS (a : List Int) (b : List Int) : F.laws_eqIntS a b = some (dec (a = b)) := by
  unfold F.laws_eqIntS
  by_cases h : a.length = b.length
  · rw [if_pos h, eqLoop0 (L := F.laws_eqIntS_l1 a b) (fun i => by rw [F.laws_eqIntS_l1]) h _ 0 rfl]
    by_cases e : a = b
    · simp [e, dec_of]
    · simp [e, dec_not]
  · rw [if_neg h, dec_not]
    intro e; rw [e] at h; exact h rfl

theorem P.eqPathBind (x y : PathBind) : F.laws_eqPathBind x y = some (dec (x = y)) := by
  unfold F.laws_eqPathBind
  simp only [P.eqIntS, Option.bind_eq_bind, Option.bind_some, dec_iff]
  cases x; cases y
  simp only [PathBind.mk.injEq]
  repeat' split
  all_goals first | (rw [dec_of]; simp_all [dec_iff, dec_false_iff]; done) | (rw [dec_not]; simp_all [dec_iff, dec_false_iff]; done)

theorem P.eqPathBindS_of (a : List PathBind) (hf : ∀ x, x ∈ a → ∀ y, F.laws_eqPathBind x y = some (dec (x = y))) (b : List PathBind) : F.laws_eqPathBindS a b = some (dec (a = b)) := by
  unfold F.laws_eqPathBindS
  by_cases h : a.length = b.length
  · rw [if_pos h, eqLoop (L := F.laws_eqPathBindS_l1 a b) (fun i => by rw [F.laws_eqPathBindS_l1]) hf h _ 0 rfl]
    by_cases e : a = b
    · simp [e, dec_of]
    · simp [e, dec_not]
  · rw [if_neg h, dec_not]
    intro e; rw [e] at h; exact h rfl

theorem P.eqPathBindS (a b : List PathBind) : F.laws_eqPathBindS a b = some (dec (a = b)) :=
  P.eqPathBindS_of a (fun x _ y => P.eqPathBind x y) b

theorem P.eqBranchS_of (a : List Branch) (hf : ∀ x, x ∈ a → ∀ y, F.laws_eqBranch x y = some (dec (x = y))) (b : List Branch) : F.laws_eqBranchS a b = some (dec (a = b)) := by
  unfold F.laws_eqBranchS
  by_cases h : a.length = b.length
  · rw [if_pos h, eqLoop (L := F.laws_eqBranchS_l1 a b) (fun i => by rw [F.laws_eqBranchS_l1]) hf h _ 0 rfl]
    by_cases e : a = b
    · simp [e, dec_of]
    · simp [e, dec_not]
  · rw [if_neg h, dec_not]
    intro e; rw [e] at h; exact h rfl

theorem P.eqTreeS_of (a : List Tree) (hf : ∀ x, x ∈ a → ∀ y, F.laws_eqTree x y = some (dec (x = y))) (b : List Tree) : F.laws_eqTreeS a b = some (dec (a = b)) := by
  unfold F.laws_eqTreeS
  by_cases h : a.length = b.length
  · rw [if_pos h, eqLoop (L := F.laws_eqTreeS_l1 a b) (fun i => by rw [F.laws_eqTreeS_l1]) hf h _ 0 rfl]
    by_cases e : a = b
    · simp [e, dec_of]
    · simp [e, dec_not]
  · rw [if_neg h, dec_not]
    intro e; rw [e] at h; exact h rfl

theorem P.eqBranch_of (x : Branch) (h : ∀ y, F.laws_eqTree x.tree y = some (dec (x.tree = y))) (y : Branch) : F.laws_eqBranch x y = some (dec (x = y)) := by
  unfold F.laws_eqBranch
  simp only [h, Option.bind_eq_bind, Option.bind_some, dec_iff]
  cases x; cases y
  simp only [BranchOf.mk.injEq]
  repeat' split
  all_goals first | (rw [dec_of]; simp_all [dec_iff, dec_false_iff]; done) | (rw [dec_not]; simp_all [dec_iff, dec_false_iff]; done)
theorem P.eqTree (x y : Tree) : F.laws_eqTree x y = some (dec (x = y)) := by
  induction x using Tree.ind generalizing y with
  | _ x ihb ihe =>
  unfold F.laws_eqTree
  simp only [P.eqPathBindS, P.eqIntS, P.eqBranchS_of x.branches (fun b hb c => P.eqBranch_of b (ihb b hb) c), P.eqTreeS_of x.els (fun k hk y => ihe k hk y), Option.bind_eq_bind, Option.bind_some, dec_iff]
  cases x; cases y
  simp only [Tree.mk.injEq]
  repeat' split
  all_goals first | (rw [dec_of]; simp_all [dec_iff, dec_false_iff]; done) | (rw [dec_not]; simp_all [dec_iff, dec_false_iff]; done)
theorem P.eqBranch (x y : Branch) : F.laws_eqBranch x y = some (dec (x = y)) := P.eqBranch_of x (P.eqTree x.tree) y

theorem P.eqBranchS (a b : List Branch) : F.laws_eqBranchS a b = some (dec (a = b)) :=
  P.eqBranchS_of a (fun x _ y => P.eqBranch x y) b

theorem P.eqTreeS (a b : List Tree) : F.laws_eqTreeS a b = some (dec (a = b)) :=
  P.eqTreeS_of a (fun x _ y => P.eqTree x y) b

-- held
theorem P.heldIntS_l1 : ∀ (r D : List Int) (k : Int), 0 ≤ k → k + (cntI r : Int) ≤ 9223372036854775807 → F.laws_heldIntS_l1 (D ++ (mkI r k).1) k D.length = some (.go (mkI r k).2)
  | [], D, k, _, _ => by
    rw [F.laws_heldIntS_l1, if_neg (by simp [mkI])]; rfl
  | x :: r, D, k, h0, h => by
    simp only [cntI, List.length_cons] at h
    obtain ⟨A, hA⟩ : ∃ A, A = (D ++ [k]) ++ (mkI r (IntKind.i64.wrap (k + 1))).1 := ⟨_, rfl⟩
    have h1 : D ++ (mkI (x :: r) k).1 = A := by rw [hA]; simp [mkI]
    have hlt : D.length < A.length := by rw [hA]; simp
    have hget : A[D.length]? = some k := by rw [hA]; simp
    have w : IntKind.i64.wrap (k + 1) = k + 1 := wrap_in (by omega) (by omega)
    have ihr := P.heldIntS_l1 r (D ++ [k]) (IntKind.i64.wrap (k + 1)) (by rw [w]; omega) (by rw [w]; simp only [cntI]; omega)
    rw [← hA] at ihr
    simp only [List.length_append, List.length_cons, List.length_nil, Nat.zero_add] at ihr
    rw [h1, F.laws_heldIntS_l1, if_pos hlt, hget]
    simp only [Option.bind_eq_bind, Option.bind_some, if_true]
    exact ihr

theorem P.heldIntS (l : List Int) (k : Int) (h0 : 0 ≤ k) (h : k + (cntI l : Int) ≤ 9223372036854775807) : F.laws_heldIntS (mkI l k).1 k = some (mkI l k).2 := by
  unfold F.laws_heldIntS
  have := P.heldIntS_l1 l [] k h0 h
  simp only [List.nil_append, List.length_nil] at this
  rw [this]
  rfl
end Go.Vl
