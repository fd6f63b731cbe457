/- The plain lemmas of the counting, copying and comparing functions (printed by gen_p.py). -/
import Derived.Test.YtdehlcjhndoclaaGreatDoorExactFormatClausesF
import Derived.Test.YtdehlcjhndoclaaGreatDoorVlP
set_option linter.unusedSimpArgs false
set_option linter.unusedVariables false
namespace Go.Vl
open Go Go.RowKit

theorem P.szTypeS (a : List Ty) (ho : a.length ≤ maxLen) (l : Int) (h0 : 0 ≤ l) (h1 : l ≤ 1048576) : F.laws_szTypeS a l = some (rem l (wtL Ty.wt a)) := by
  have hm : (a.length : Int) ≤ 9223372036854775807 := by have : a.length ≤ 9223372036854775807 := ho; omega
  have hw : wtL Ty.wt a = a.length := wtL_zero (fun _ => rfl) a
  unfold F.laws_szTypeS
  rw [wrap_in (n := l - a.length) (by omega) (by omega), hw]
  by_cases h : l - a.length < 0
  · rw [if_pos h]; simp only [rem]; split
    · omega
    · rfl
  · rw [if_neg h, rem_sub _ h]

theorem P.szCtor (x : Ctor) (ho : x.Ok) (l : Int) (h0 : 0 ≤ l) (h1 : l ≤ 1048576) : F.laws_szCtor x l = some (rem l x.wt) := by
  unfold F.laws_szCtor
  have s1 : (x.name.size : Int) ≤ 9223372036854775807 := by have : x.name.size ≤ 9223372036854775807 := ho.name; omega
  rw [wrap_in (n := l - x.name.size) (by omega) (by omega)]
  by_cases g1 : l - x.name.size < 0
  · rw [if_pos g1]; congr 1; unfold Ctor.wt; simp only [rem] at g1 ⊢; split <;> omega
  have h1n : ¬ rem l (x.name.size) < 0 := by simp only [rem] at *; split <;> omega
  rw [if_neg g1, rem_sub _ g1]
  rw [P.szTypeS x.args ho.args.1 _ (by omega) (Int.le_trans (rem_le _ h0) h1)]
  simp only [Option.bind_eq_bind, Option.bind_some]
  rw [rem_rem _ _ h1n]
  by_cases h2n : rem l (x.name.size + wtL Ty.wt x.args) < 0
  · rw [if_pos h2n]; congr 1; unfold Ctor.wt; simp only [rem] at h2n ⊢; split at h2n <;> split <;> omega
  rw [if_neg h2n]
  rfl

theorem P.szCtorS_of (a : List Ctor) (ho : a.length ≤ maxLen) (hf : ∀ x, x ∈ a → ∀ l : Int, 0 ≤ l → l ≤ 1048576 → F.laws_szCtor x l = some (rem l (Ctor.wt x))) (l : Int) (h0 : 0 ≤ l) (h1 : l ≤ 1048576) : F.laws_szCtorS a l = some (rem l (wtL Ctor.wt a)) := by
  have hm : (a.length : Int) ≤ 9223372036854775807 := by have : a.length ≤ 9223372036854775807 := ho; omega
  unfold F.laws_szCtorS
  rw [wrap_in (n := l - a.length) (by omega) (by omega), wtL_eq]
  by_cases h : l - a.length < 0
  · rw [if_pos h]; simp only [rem]; split
    · omega
    · rfl
  · have h2 : ¬ rem l a.length < 0 := by rw [← rem_sub _ h]; exact h
    rw [if_neg h, rem_sub _ h, szLoop (L := F.laws_szCtorS_l1 a) (fun l i => by rw [F.laws_szCtorS_l1]) hf _ 0 _ rfl (by omega) (Int.le_trans (rem_le _ h0) h1), rem_rem _ _ h2]
    simp only [List.drop_zero, Option.bind_eq_bind, Option.bind_some]
    split
    · next h3 =>
      split at h3
      · next h4 => cases h3; congr 1; simp only [rem] at h4 ⊢; split at h4 <;> split <;> omega
      · cases h3
    · next h3 =>
      split at h3
      · cases h3
      · cases h3; rfl

theorem P.szCtorS (a : List Ctor) (ho : okL Ctor.Ok a) (l : Int) (h0 : 0 ≤ l) (h1 : l ≤ 1048576) : F.laws_szCtorS a l = some (rem l (wtL Ctor.wt a)) :=
  P.szCtorS_of a ho.1 (fun x hx => P.szCtor x (ho.2 x hx)) l h0 h1

theorem P.szData (x : Data) (ho : x.Ok) (l : Int) (h0 : 0 ≤ l) (h1 : l ≤ 1048576) : F.laws_szData x l = some (rem l x.wt) := by
  unfold F.laws_szData
  have s1 : (x.name.size : Int) ≤ 9223372036854775807 := by have : x.name.size ≤ 9223372036854775807 := ho.name; omega
  rw [wrap_in (n := l - x.name.size) (by omega) (by omega)]
  by_cases g1 : l - x.name.size < 0
  · rw [if_pos g1]; congr 1; unfold Data.wt; simp only [rem] at g1 ⊢; split <;> omega
  have h1n : ¬ rem l (x.name.size) < 0 := by simp only [rem] at *; split <;> omega
  rw [if_neg g1, rem_sub _ g1]
  rw [P.szCtorS x.ctors ho.ctors _ (by omega) (Int.le_trans (rem_le _ h0) h1)]
  simp only [Option.bind_eq_bind, Option.bind_some]
  rw [rem_rem _ _ h1n]
  by_cases h2n : rem l (x.name.size + wtL Ctor.wt x.ctors) < 0
  · rw [if_pos h2n]; congr 1; unfold Data.wt; simp only [rem] at h2n ⊢; split at h2n <;> split <;> omega
  rw [if_neg h2n]
  rfl

theorem P.szDataS_of (a : List Data) (ho : a.length ≤ maxLen) (hf : ∀ x, x ∈ a → ∀ l : Int, 0 ≤ l → l ≤ 1048576 → F.laws_szData x l = some (rem l (Data.wt x))) (l : Int) (h0 : 0 ≤ l) (h1 : l ≤ 1048576) : F.laws_szDataS a l = some (rem l (wtL Data.wt a)) := by
  have hm : (a.length : Int) ≤ 9223372036854775807 := by have : a.length ≤ 9223372036854775807 := ho; omega
  unfold F.laws_szDataS
  rw [wrap_in (n := l - a.length) (by omega) (by omega), wtL_eq]
  by_cases h : l - a.length < 0
  · rw [if_pos h]; simp only [rem]; split
    · omega
    · rfl
  · have h2 : ¬ rem l a.length < 0 := by rw [← rem_sub _ h]; exact h
    rw [if_neg h, rem_sub _ h, szLoop (L := F.laws_szDataS_l1 a) (fun l i => by rw [F.laws_szDataS_l1]) hf _ 0 _ rfl (by omega) (Int.le_trans (rem_le _ h0) h1), rem_rem _ _ h2]
    simp only [List.drop_zero, Option.bind_eq_bind, Option.bind_some]
    split
    · next h3 =>
      split at h3
      · next h4 => cases h3; congr 1; simp only [rem] at h4 ⊢; split at h4 <;> split <;> omega
      · cases h3
    · next h3 =>
      split at h3
      · cases h3
      · cases h3; rfl

theorem P.szDataS (a : List Data) (ho : okL Data.Ok a) (l : Int) (h0 : 0 ≤ l) (h1 : l ≤ 1048576) : F.laws_szDataS a l = some (rem l (wtL Data.wt a)) :=
  P.szDataS_of a ho.1 (fun x hx => P.szData x (ho.2 x hx)) l h0 h1

theorem P.szPatternS_of (a : List Pattern) (ho : a.length ≤ maxLen) (hf : ∀ x, x ∈ a → ∀ l : Int, 0 ≤ l → l ≤ 1048576 → F.laws_szPattern x l = some (rem l (Pattern.wt x))) (l : Int) (h0 : 0 ≤ l) (h1 : l ≤ 1048576) : F.laws_szPatternS a l = some (rem l (wtL Pattern.wt a)) := by
  have hm : (a.length : Int) ≤ 9223372036854775807 := by have : a.length ≤ 9223372036854775807 := ho; omega
  unfold F.laws_szPatternS
  rw [wrap_in (n := l - a.length) (by omega) (by omega), wtL_eq]
  by_cases h : l - a.length < 0
  · rw [if_pos h]; simp only [rem]; split
    · omega
    · rfl
  · have h2 : ¬ rem l a.length < 0 := by rw [← rem_sub _ h]; exact h
    rw [if_neg h, rem_sub _ h, szLoop (L := F.laws_szPatternS_l1 a) (fun l i => by rw [F.laws_szPatternS_l1]) hf _ 0 _ rfl (by omega) (Int.le_trans (rem_le _ h0) h1), rem_rem _ _ h2]
    simp only [List.drop_zero, Option.bind_eq_bind, Option.bind_some]
    split
    · next h3 =>
      split at h3
      · next h4 => cases h3; congr 1; simp only [rem] at h4 ⊢; split at h4 <;> split <;> omega
      · cases h3
    · next h3 =>
      split at h3
      · cases h3
      · cases h3; rfl

theorem P.szPattern (x : Pattern) (ho : x.Ok) (l : Int) (h0 : 0 ≤ l) (h1 : l ≤ 1048576) : F.laws_szPattern x l = some (rem l x.wt) := by
  induction x using Pattern.ind generalizing l with
  | _ x ih =>
  unfold F.laws_szPattern
  rw [P.szPatternS_of x.kids ho.kids.1 (fun k hk l h0 h1 => ih k hk (ho.kids.2 k hk) l h0 h1) _ h0 h1]
  simp only [Option.bind_eq_bind, Option.bind_some]
  by_cases h1n : rem l (wtL Pattern.wt x.kids) < 0
  · rw [if_pos h1n]; congr 1; rw [Pattern.wt_eq]; simp only [rem] at h1n ⊢; split at h1n <;> split <;> omega
  rw [if_neg h1n]
  rw [Pattern.wt_eq]

theorem P.szPatternS (a : List Pattern) (ho : okL Pattern.Ok a) (l : Int) (h0 : 0 ≤ l) (h1 : l ≤ 1048576) : F.laws_szPatternS a l = some (rem l (wtL Pattern.wt a)) :=
  P.szPatternS_of a ho.1 (fun x hx => P.szPattern x (ho.2 x hx)) l h0 h1

theorem P.szClause (x : Clause) (ho : x.Ok) (l : Int) (h0 : 0 ≤ l) (h1 : l ≤ 1048576) : F.laws_szClause x l = some (rem l x.wt) := by
  unfold F.laws_szClause
  rw [P.szPattern x.pat ho.pat _ h0 h1]
  simp only [Option.bind_eq_bind, Option.bind_some]
  by_cases h1n : rem l (Pattern.wt x.pat) < 0
  · rw [if_pos h1n]; congr 1; unfold Clause.wt; simp only [rem] at h1n ⊢; split at h1n <;> split <;> omega
  rw [if_neg h1n]
  rfl

theorem P.szClauseS_of (a : List Clause) (ho : a.length ≤ maxLen) (hf : ∀ x, x ∈ a → ∀ l : Int, 0 ≤ l → l ≤ 1048576 → F.laws_szClause x l = some (rem l (Clause.wt x))) (l : Int) (h0 : 0 ≤ l) (h1 : l ≤ 1048576) : F.laws_szClauseS a l = some (rem l (wtL Clause.wt a)) := by
  have hm : (a.length : Int) ≤ 9223372036854775807 := by have : a.length ≤ 9223372036854775807 := ho; omega
  unfold F.laws_szClauseS
  rw [wrap_in (n := l - a.length) (by omega) (by omega), wtL_eq]
  by_cases h : l - a.length < 0
  · rw [if_pos h]; simp only [rem]; split
    · omega
    · rfl
  · have h2 : ¬ rem l a.length < 0 := by rw [← rem_sub _ h]; exact h
    rw [if_neg h, rem_sub _ h, szLoop (L := F.laws_szClauseS_l1 a) (fun l i => by rw [F.laws_szClauseS_l1]) hf _ 0 _ rfl (by omega) (Int.le_trans (rem_le _ h0) h1), rem_rem _ _ h2]
    simp only [List.drop_zero, Option.bind_eq_bind, Option.bind_some]
    split
    · next h3 =>
      split at h3
      · next h4 => cases h3; congr 1; simp only [rem] at h4 ⊢; split at h4 <;> split <;> omega
      · cases h3
    · next h3 =>
      split at h3
      · cases h3
      · cases h3; rfl

theorem P.szClauseS (a : List Clause) (ho : okL Clause.Ok a) (l : Int) (h0 : 0 ≤ l) (h1 : l ≤ 1048576) : F.laws_szClauseS a l = some (rem l (wtL Clause.wt a)) :=
  P.szClauseS_of a ho.1 (fun x hx => P.szClause x (ho.2 x hx)) l h0 h1

theorem P.toType (x : Ty) (hw : x.wt ≤ 67108864) : F.laws_toType x = some x := by
  rfl

theorem P.toTypeS_of (a : List Ty) (hl : a.length ≤ 67108864) (hf : ∀ x, x ∈ a → F.laws_toType x = some x) : F.laws_toTypeS a = some a := by
  unfold F.laws_toTypeS
  rw [if_pos hl, toLoop (a := a) (L := F.laws_toTypeS_l1 a) (fun out i => by rw [F.laws_toTypeS_l1]) hf _ 0 (List.replicate a.length Ty.z) rfl (by simp) rfl]
  rfl

theorem P.toTypeS (a : List Ty) (hw : wtL Ty.wt a ≤ 67108864) : F.laws_toTypeS a = some a :=
  P.toTypeS_of a (by have := wtL_len Ty.wt a; omega) (fun x hx => P.toType x (by have := wtL_mem Ty.wt hx; omega))

theorem P.toCtor (x : Ctor) (hw : x.wt ≤ 67108864) : F.laws_toCtor x = some x := by
  unfold F.laws_toCtor
  have hw2 := hw; unfold Ctor.wt at hw2
  rw [P.toTypeS x.args (by omega)]
  simp only [Option.bind_eq_bind, Option.bind_some]
  all_goals (cases x; rfl)

theorem P.toCtorS_of (a : List Ctor) (hl : a.length ≤ 67108864) (hf : ∀ x, x ∈ a → F.laws_toCtor x = some x) : F.laws_toCtorS a = some a := by
  unfold F.laws_toCtorS
  rw [if_pos hl, toLoop (a := a) (L := F.laws_toCtorS_l1 a) (fun out i => by rw [F.laws_toCtorS_l1]) hf _ 0 (List.replicate a.length Ctor.z) rfl (by simp) rfl]
  rfl

theorem P.toCtorS (a : List Ctor) (hw : wtL Ctor.wt a ≤ 67108864) : F.laws_toCtorS a = some a :=
  P.toCtorS_of a (by have := wtL_len Ctor.wt a; omega) (fun x hx => P.toCtor x (by have := wtL_mem Ctor.wt hx; omega))

theorem P.toData (x : Data) (hw : x.wt ≤ 67108864) : F.laws_toData x = some x := by
  unfold F.laws_toData
  have hw2 := hw; unfold Data.wt at hw2
  rw [P.toCtorS x.ctors (by omega)]
  simp only [Option.bind_eq_bind, Option.bind_some]
  all_goals (cases x; rfl)

theorem P.toDataS_of (a : List Data) (hl : a.length ≤ 67108864) (hf : ∀ x, x ∈ a → F.laws_toData x = some x) : F.laws_toDataS a = some a := by
  unfold F.laws_toDataS
  rw [if_pos hl, toLoop (a := a) (L := F.laws_toDataS_l1 a) (fun out i => by rw [F.laws_toDataS_l1]) hf _ 0 (List.replicate a.length Data.z) rfl (by simp) rfl]
  rfl

theorem P.toDataS (a : List Data) (hw : wtL Data.wt a ≤ 67108864) : F.laws_toDataS a = some a :=
  P.toDataS_of a (by have := wtL_len Data.wt a; omega) (fun x hx => P.toData x (by have := wtL_mem Data.wt hx; omega))

theorem P.toPatternS_of (a : List Pattern) (hl : a.length ≤ 67108864) (hf : ∀ x, x ∈ a → F.laws_toPattern x = some x) : F.laws_toPatternS a = some a := by
  unfold F.laws_toPatternS
  rw [if_pos hl, toLoop (a := a) (L := F.laws_toPatternS_l1 a) (fun out i => by rw [F.laws_toPatternS_l1]) hf _ 0 (List.replicate a.length Pattern.z) rfl (by simp) rfl]
  rfl

theorem P.toPattern (x : Pattern) (hw : x.wt ≤ 67108864) : F.laws_toPattern x = some x := by
  induction x using Pattern.ind with
  | _ x ih =>
  unfold F.laws_toPattern
  have hw2 := hw; rw [Pattern.wt_eq] at hw2
  rw [P.toPatternS_of x.kids (by have := wtL_len Pattern.wt x.kids; omega) (fun k hk => ih k hk (by have := wtL_mem Pattern.wt hk; omega))]
  simp only [Option.bind_eq_bind, Option.bind_some]
  all_goals (cases x; rfl)

theorem P.toPatternS (a : List Pattern) (hw : wtL Pattern.wt a ≤ 67108864) : F.laws_toPatternS a = some a :=
  P.toPatternS_of a (by have := wtL_len Pattern.wt a; omega) (fun x hx => P.toPattern x (by have := wtL_mem Pattern.wt hx; omega))

theorem P.toGuard (x : Guard) (hw : x.wt ≤ 67108864) : F.laws_toGuard x = some x := by
  rfl

theorem P.toClause (x : Clause) (hw : x.wt ≤ 67108864) : F.laws_toClause x = some x := by
  unfold F.laws_toClause
  have hw2 := hw; unfold Clause.wt at hw2
  rw [P.toPattern x.pat (by omega)]
  simp only [Option.bind_eq_bind, Option.bind_some]
  rw [P.toGuard x.guard (by simp [Guard.wt])]
  simp only [Option.bind_eq_bind, Option.bind_some]
  all_goals (cases x; rfl)

theorem P.toClauseS_of (a : List Clause) (hl : a.length ≤ 67108864) (hf : ∀ x, x ∈ a → F.laws_toClause x = some x) : F.laws_toClauseS a = some a := by
  unfold F.laws_toClauseS
  rw [if_pos hl, toLoop (a := a) (L := F.laws_toClauseS_l1 a) (fun out i => by rw [F.laws_toClauseS_l1]) hf _ 0 (List.replicate a.length Clause.z) rfl (by simp) rfl]
  rfl

theorem P.toClauseS (a : List Clause) (hw : wtL Clause.wt a ≤ 67108864) : F.laws_toClauseS a = some a :=
  P.toClauseS_of a (by have := wtL_len Clause.wt a; omega) (fun x hx => P.toClause x (by have := wtL_mem Clause.wt hx; omega))

theorem P.eqType (x y : Ty) : F.laws_eqType x y = some (dec (x = y)) := by
  unfold F.laws_eqType
  cases x; cases y
  simp only [Ty.mk.injEq]
  repeat' split
  all_goals first | (rw [dec_of]; simp_all [dec_iff, dec_false_iff]; done) | (rw [dec_not]; simp_all [dec_iff, dec_false_iff]; done)

theorem P.eqTypeS_of (a : List Ty) (hf : ∀ x, x ∈ a → ∀ y, F.laws_eqType x y = some (dec (x = y))) (b : List Ty) : F.laws_eqTypeS a b = some (dec (a = b)) := by
  unfold F.laws_eqTypeS
  by_cases h : a.length = b.length
  · rw [if_pos h, eqLoop (L := F.laws_eqTypeS_l1 a b) (fun i => by rw [F.laws_eqTypeS_l1]) hf h _ 0 rfl]
    by_cases e : a = b
    · simp [e, dec_of]
    · simp [e, dec_not]
  · rw [if_neg h, dec_not]
    intro e; rw [e] at h; exact h rfl

theorem P.eqTypeS (a b : List Ty) : F.laws_eqTypeS a b = some (dec (a = b)) :=
  P.eqTypeS_of a (fun x _ y => P.eqType x y) b

theorem P.eqCtor (x y : Ctor) : F.laws_eqCtor x y = some (dec (x = y)) := by
  unfold F.laws_eqCtor
  simp only [bytes_eq, P.eqTypeS, Option.bind_eq_bind, Option.bind_some, dec_iff]
  cases x; cases y
  simp only [Ctor.mk.injEq]
  repeat' split
  all_goals first | (rw [dec_of]; simp_all [dec_iff, dec_false_iff]; done) | (rw [dec_not]; simp_all [dec_iff, dec_false_iff]; done)

theorem P.eqCtorS_of (a : List Ctor) (hf : ∀ x, x ∈ a → ∀ y, F.laws_eqCtor x y = some (dec (x = y))) (b : List Ctor) : F.laws_eqCtorS a b = some (dec (a = b)) := by
  unfold F.laws_eqCtorS
  by_cases h : a.length = b.length
  · rw [if_pos h, eqLoop (L := F.laws_eqCtorS_l1 a b) (fun i => by rw [F.laws_eqCtorS_l1]) hf h _ 0 rfl]
    by_cases e : a = b
    · simp [e, dec_of]
    · simp [e, dec_not]
  · rw [if_neg h, dec_not]
    intro e; rw [e] at h; exact h rfl

theorem P.eqCtorS (a b : List Ctor) : F.laws_eqCtorS a b = some (dec (a = b)) :=
  P.eqCtorS_of a (fun x _ y => P.eqCtor x y) b

theorem P.eqData (x y : Data) : F.laws_eqData x y = some (dec (x = y)) := by
  unfold F.laws_eqData
  simp only [bytes_eq, P.eqCtorS, Option.bind_eq_bind, Option.bind_some, dec_iff]
  cases x; cases y
  simp only [Data.mk.injEq]
  repeat' split
  all_goals first | (rw [dec_of]; simp_all [dec_iff, dec_false_iff]; done) | (rw [dec_not]; simp_all [dec_iff, dec_false_iff]; done)

theorem P.eqDataS_of (a : List Data) (hf : ∀ x, x ∈ a → ∀ y, F.laws_eqData x y = some (dec (x = y))) (b : List Data) : F.laws_eqDataS a b = some (dec (a = b)) := by
  unfold F.laws_eqDataS
  by_cases h : a.length = b.length
  · rw [if_pos h, eqLoop (L := F.laws_eqDataS_l1 a b) (fun i => by rw [F.laws_eqDataS_l1]) hf h _ 0 rfl]
    by_cases e : a = b
    · simp [e, dec_of]
    · simp [e, dec_not]
  · rw [if_neg h, dec_not]
    intro e; rw [e] at h; exact h rfl

theorem P.eqDataS (a b : List Data) : F.laws_eqDataS a b = some (dec (a = b)) :=
  P.eqDataS_of a (fun x _ y => P.eqData x y) b

theorem P.eqPatternS_of (a : List Pattern) (hf : ∀ x, x ∈ a → ∀ y, F.laws_eqPattern x y = some (dec (x = y))) (b : List Pattern) : F.laws_eqPatternS a b = some (dec (a = b)) := by
  unfold F.laws_eqPatternS
  by_cases h : a.length = b.length
  · rw [if_pos h, eqLoop (L := F.laws_eqPatternS_l1 a b) (fun i => by rw [F.laws_eqPatternS_l1]) hf h _ 0 rfl]
    by_cases e : a = b
    · simp [e, dec_of]
    · simp [e, dec_not]
  · rw [if_neg h, dec_not]
    intro e; rw [e] at h; exact h rfl

theorem P.eqPattern (x y : Pattern) : F.laws_eqPattern x y = some (dec (x = y)) := by
  induction x using Pattern.ind generalizing y with
  | _ x ih =>
  unfold F.laws_eqPattern
  simp only [P.eqPatternS_of x.kids (fun k hk y => ih k hk y), Option.bind_eq_bind, Option.bind_some, dec_iff]
  cases x; cases y
  simp only [Pattern.mk.injEq]
  repeat' split
  all_goals first | (rw [dec_of]; simp_all [dec_iff, dec_false_iff]; done) | (rw [dec_not]; simp_all [dec_iff, dec_false_iff]; done)

theorem P.eqPatternS (a b : List Pattern) : F.laws_eqPatternS a b = some (dec (a = b)) :=
  P.eqPatternS_of a (fun x _ y => P.eqPattern x y) b

theorem P.eqGuard (x y : Guard) : F.laws_eqGuard x y = some (dec (x = y)) := by
  unfold F.laws_eqGuard
  cases x; cases y
  simp only [Guard.mk.injEq]
  repeat' split
  all_goals first | (rw [dec_of]; simp_all [dec_iff, dec_false_iff]; done) | (rw [dec_not]; simp_all [dec_iff, dec_false_iff]; done)

theorem P.eqClause (x y : Clause) : F.laws_eqClause x y = some (dec (x = y)) := by
  unfold F.laws_eqClause
  simp only [P.eqPattern, P.eqGuard, Option.bind_eq_bind, Option.bind_some, dec_iff]
  cases x; cases y
  simp only [Clause.mk.injEq]
  repeat' split
  all_goals first | (rw [dec_of]; simp_all [dec_iff, dec_false_iff]; done) | (rw [dec_not]; simp_all [dec_iff, dec_false_iff]; done)

theorem P.eqClauseS_of (a : List Clause) (hf : ∀ x, x ∈ a → ∀ y, F.laws_eqClause x y = some (dec (x = y))) (b : List Clause) : F.laws_eqClauseS a b = some (dec (a = b)) := by
  unfold F.laws_eqClauseS
  by_cases h : a.length = b.length
  · rw [if_pos h, eqLoop (L := F.laws_eqClauseS_l1 a b) (fun i => by rw [F.laws_eqClauseS_l1]) hf h _ 0 rfl]
    by_cases e : a = b
    · simp [e, dec_of]
    · simp [e, dec_not]
  · rw [if_neg h, dec_not]
    intro e; rw [e] at h; exact h rfl

theorem P.eqClauseS (a b : List Clause) : F.laws_eqClauseS a b = some (dec (a = b)) :=
  P.eqClauseS_of a (fun x _ y => P.eqClause x y) b

end Go.Vl
