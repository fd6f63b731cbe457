/- The plain lemmas of the counting, copying and comparing functions (printed by gen_p.py). -/
import Derived.Test.YtelglbenbnkjmaaExactMaskValueF
import Derived.Test.YtelglbenbnkjmaaVlP
set_option linter.unusedSimpArgs false
set_option linter.unusedVariables false
namespace Go.Vl
open Go Go.RowKit

theorem P.szTypeS (a : List Ty) (ho : a.length ≤ maxLen) (l : Int) (h0 : 0 ≤ l) (h1 : l ≤ 1048576) : F.laws_szTypeS a l = some (rem l (wtL Ty.wt a)) := by
  have hm : (a.length : Int) ≤ 9223372036854775807 := by have : a.length ≤ 9223372036854775807 := ho; omega
  have hw : wtL Ty.wt a = a.length := wtL_zero (fun _ => rfl) a
  unfold F.laws_szTypeS
  rw [wrap_in (n := l - a.length) (by omega) (by omega), hw]
  by_cases h : l - a.length < 0
  · rw [if_pos h]; simp only [rem]; split
    · omega
    · rfl
  · rw [if_neg h, rem_sub _ h]

theorem P.szCtor (x : Ctor) (ho : x.Ok) (l : Int) (h0 : 0 ≤ l) (h1 : l ≤ 1048576) : F.laws_szCtor x l = some (rem l x.wt) := by
  unfold F.laws_szCtor
  have s1 : (x.name.size : Int) ≤ 9223372036854775807 := by have : x.name.size ≤ 9223372036854775807 := ho.name; omega
  rw [wrap_in (n := l - x.name.size) (by omega) (by omega)]
  by_cases g1 : l - x.name.size < 0
  · rw [if_pos g1]; congr 1; unfold Ctor.wt; simp only [rem] at g1 ⊢; split <;> omega
  have h1n : ¬ rem l (x.name.size) < 0 := by simp only [rem] at *; split <;> omega
  rw [if_neg g1, rem_sub _ g1]
  rw [P.szTypeS x.args ho.args.1 _ (by omega) (Int.le_trans (rem_le _ h0) h1)]
  simp only [Option.bind_eq_bind, Option.bind_some]
  rw [rem_rem _ _ h1n]
  by_cases h2n : rem l (x.name.size + wtL Ty.wt x.args) < 0
  · rw [if_pos h2n]; congr 1; unfold Ctor.wt; simp only [rem] at h2n ⊢; split at h2n <;> split <;> omega
  rw [if_neg h2n]
  rfl

theorem P.szCtorS_of (a : List Ctor) (ho : a.length ≤ maxLen) (hf : ∀ x, x ∈ a → ∀ l : Int, 0 ≤ l → l ≤ 1048576 → F.laws_szCtor x l = some (rem l (Ctor.wt x))) (l : Int) (h0 : 0 ≤ l) (h1 : l ≤ 1048576) : F.laws_szCtorS a l = some (rem l (wtL Ctor.wt a)) := by
  have hm : (a.length : Int) ≤ 9223372036854775807 := by have : a.length ≤ 9223372036854775807 := ho; omega
  unfold F.laws_szCtorS
  rw [wrap_in (n := l - a.length) (by omega) (by omega), wtL_eq]
  by_cases h : l - a.length < 0
  · rw [if_pos h]; simp only [rem]; split
    · omega
    · rfl
  · have h2 : ¬ rem l a.length < 0 := by rw [← rem_sub _ h]; exact h
    rw [if_neg h, rem_sub _ h, szLoop (L := F.laws_szCtorS_l1 a) (fun l i => by rw [F.laws_szCtorS_l1]) hf _ 0 _ rfl (by omega) (Int.le_trans (rem_le _ h0) h1), rem_rem _ _ h2]
    simp only [List.drop_zero, Option.bind_eq_bind, Option.bind_some]
    split
    · next h3 =>
      split at h3
      · next h4 => cases h3; congr 1; simp only [rem] at h4 ⊢; split at h4 <;> split <;> omega
      · cases h3
    · next h3 =>
      split at h3
      · cases h3
      · cases h3; rfl

theorem P.szCtorS (a : List Ctor) (ho : okL Ctor.Ok a) (l : Int) (h0 : 0 ≤ l) (h1 : l ≤ 1048576) : F.laws_szCtorS a l = some (rem l (wtL Ctor.wt a)) :=
  P.szCtorS_of a ho.1 (fun x hx => P.szCtor x (ho.2 x hx)) l h0 h1

theorem P.szData (x : Data) (ho : x.Ok) (l : Int) (h0 : 0 ≤ l) (h1 : l ≤ 1048576) : F.laws_szData x l = some (rem l x.wt) := by
  unfold F.laws_szData
  have s1 : (x.name.size : Int) ≤ 9223372036854775807 := by have : x.name.size ≤ 9223372036854775807 := ho.name; omega
  rw [wrap_in (n := l - x.name.size) (by omega) (by omega)]
  by_cases g1 : l - x.name.size < 0
  · rw [if_pos g1]; congr 1; unfold Data.wt; simp only [rem] at g1 ⊢; split <;> omega
  have h1n : ¬ rem l (x.name.size) < 0 := by simp only [rem] at *; split <;> omega
  rw [if_neg g1, rem_sub _ g1]
  rw [P.szCtorS x.ctors ho.ctors _ (by omega) (Int.le_trans (rem_le _ h0) h1)]
  simp only [Option.bind_eq_bind, Option.bind_some]
  rw [rem_rem _ _ h1n]
  by_cases h2n : rem l (x.name.size + wtL Ctor.wt x.ctors) < 0
  · rw [if_pos h2n]; congr 1; unfold Data.wt; simp only [rem] at h2n ⊢; split at h2n <;> split <;> omega
  rw [if_neg h2n]
  rfl

theorem P.szDataS_of (a : List Data) (ho : a.length ≤ maxLen) (hf : ∀ x, x ∈ a → ∀ l : Int, 0 ≤ l → l ≤ 1048576 → F.laws_szData x l = some (rem l (Data.wt x))) (l : Int) (h0 : 0 ≤ l) (h1 : l ≤ 1048576) : F.laws_szDataS a l = some (rem l (wtL Data.wt a)) := by
  have hm : (a.length : Int) ≤ 9223372036854775807 := by have : a.length ≤ 9223372036854775807 := ho; omega
  unfold F.laws_szDataS
  rw [wrap_in (n := l - a.length) (by omega) (by omega), wtL_eq]
  by_cases h : l - a.length < 0
  · rw [if_pos h]; simp only [rem]; split
    · omega
    · rfl
  · have h2 : ¬ rem l a.length < 0 := by rw [← rem_sub _ h]; exact h
    rw [if_neg h, rem_sub _ h, szLoop (L := F.laws_szDataS_l1 a) (fun l i => by rw [F.laws_szDataS_l1]) hf _ 0 _ rfl (by omega) (Int.le_trans (rem_le _ h0) h1), rem_rem _ _ h2]
    simp only [List.drop_zero, Option.bind_eq_bind, Option.bind_some]
    split
    · next h3 =>
      split at h3
      · next h4 => cases h3; congr 1; simp only [rem] at h4 ⊢; split at h4 <;> split <;> omega
      · cases h3
    · next h3 =>
      split at h3
      · cases h3
      · cases h3; rfl

theorem P.szDataS (a : List Data) (ho : okL Data.Ok a) (l : Int) (h0 : 0 ≤ l) (h1 : l ≤ 1048576) : F.laws_szDataS a l = some (rem l (wtL Data.wt a)) :=
  P.szDataS_of a ho.1 (fun x hx => P.szData x (ho.2 x hx)) l h0 h1

theorem P.szValueS_of (a : List Value) (ho : a.length ≤ maxLen) (hf : ∀ x, x ∈ a → ∀ l : Int, 0 ≤ l → l ≤ 1048576 → F.laws_szValue x l = some (rem l (Value.wt x))) (l : Int) (h0 : 0 ≤ l) (h1 : l ≤ 1048576) : F.laws_szValueS a l = some (rem l (wtL Value.wt a)) := by
  have hm : (a.length : Int) ≤ 9223372036854775807 := by have : a.length ≤ 9223372036854775807 := ho; omega
  unfold F.laws_szValueS
  rw [wrap_in (n := l - a.length) (by omega) (by omega), wtL_eq]
  by_cases h : l - a.length < 0
  · rw [if_pos h]; simp only [rem]; split
    · omega
    · rfl
  · have h2 : ¬ rem l a.length < 0 := by rw [← rem_sub _ h]; exact h
    rw [if_neg h, rem_sub _ h, szLoop (L := F.laws_szValueS_l1 a) (fun l i => by rw [F.laws_szValueS_l1]) hf _ 0 _ rfl (by omega) (Int.le_trans (rem_le _ h0) h1), rem_rem _ _ h2]
    simp only [List.drop_zero, Option.bind_eq_bind, Option.bind_some]
    split
    · next h3 =>
      split at h3
      · next h4 => cases h3; congr 1; simp only [rem] at h4 ⊢; split at h4 <;> split <;> omega
      · cases h3
    · next h3 =>
      split at h3
      · cases h3
      · cases h3; rfl

theorem P.szValue (x : Value) (ho : x.Ok) (l : Int) (h0 : 0 ≤ l) (h1 : l ≤ 1048576) : F.laws_szValue x l = some (rem l x.wt) := by
  induction x using Value.ind generalizing l with
  | _ x ih =>
  unfold F.laws_szValue
  rw [P.szValueS_of x.kids ho.kids.1 (fun k hk l h0 h1 => ih k hk (ho.kids.2 k hk) l h0 h1) _ h0 h1]
  simp only [Option.bind_eq_bind, Option.bind_some]
  by_cases h1n : rem l (wtL Value.wt x.kids) < 0
  · rw [if_pos h1n]; congr 1; rw [Value.wt_eq]; simp only [rem] at h1n ⊢; split at h1n <;> split <;> omega
  rw [if_neg h1n]
  rw [Value.wt_eq]

theorem P.szValueS (a : List Value) (ho : okL Value.Ok a) (l : Int) (h0 : 0 ≤ l) (h1 : l ≤ 1048576) : F.laws_szValueS a l = some (rem l (wtL Value.wt a)) :=
  P.szValueS_of a ho.1 (fun x hx => P.szValue x (ho.2 x hx)) l h0 h1

theorem P.szIntS (a : List Int) (ho : a.length ≤ maxLen) (l : Int) (h0 : 0 ≤ l) (h1 : l ≤ 1048576) : F.laws_szIntS a l = some (rem l (wtL (fun _ => 0) a)) := by
  have hm : (a.length : Int) ≤ 9223372036854775807 := by have : a.length ≤ 9223372036854775807 := ho; omega
  have hw : wtL (fun _ => 0) a = a.length := wtL_zero (fun _ => rfl) a
  unfold F.laws_szIntS
  rw [wrap_in (n := l - a.length) (by omega) (by omega), hw]
  by_cases h : l - a.length < 0
  · rw [if_pos h]; simp only [rem]; split
    · omega
    · rfl
  · rw [if_neg h, rem_sub _ h]

theorem P.szIntSS_of (a : List (List Int)) (ho : a.length ≤ maxLen) (hf : ∀ x, x ∈ a → ∀ l : Int, 0 ≤ l → l ≤ 1048576 → F.laws_szIntS x l = some (rem l ((wtL (fun _ => 0)) x))) (l : Int) (h0 : 0 ≤ l) (h1 : l ≤ 1048576) : F.laws_szIntSS a l = some (rem l (wtL (wtL (fun _ => 0)) a)) := by
  have hm : (a.length : Int) ≤ 9223372036854775807 := by have : a.length ≤ 9223372036854775807 := ho; omega
  unfold F.laws_szIntSS
  rw [wrap_in (n := l - a.length) (by omega) (by omega), wtL_eq]
  by_cases h : l - a.length < 0
  · rw [if_pos h]; simp only [rem]; split
    · omega
    · rfl
  · have h2 : ¬ rem l a.length < 0 := by rw [← rem_sub _ h]; exact h
    rw [if_neg h, rem_sub _ h, szLoop (L := F.laws_szIntSS_l1 a) (fun l i => by rw [F.laws_szIntSS_l1]) hf _ 0 _ rfl (by omega) (Int.le_trans (rem_le _ h0) h1), rem_rem _ _ h2]
    simp only [List.drop_zero, Option.bind_eq_bind, Option.bind_some]
    split
    · next h3 =>
      split at h3
      · next h4 => cases h3; congr 1; simp only [rem] at h4 ⊢; split at h4 <;> split <;> omega
      · cases h3
    · next h3 =>
      split at h3
      · cases h3
      · cases h3; rfl

theorem P.szIntSS (a : List (List Int)) (ho : okL (okL inR) a) (l : Int) (h0 : 0 ≤ l) (h1 : l ≤ 1048576) : F.laws_szIntSS a l = some (rem l (wtL (wtL (fun _ => 0)) a)) :=
  P.szIntSS_of a ho.1 (fun x hx => P.szIntS x (ho.2 x hx).1) l h0 h1

theorem P.toType (x : Ty) (hw : x.wt ≤ 67108864) : F.laws_toType x = some x := by
  rfl

theorem P.toTypeS_of (a : List Ty) (hl : a.length ≤ 67108864) (hf : ∀ x, x ∈ a → F.laws_toType x = some x) : F.laws_toTypeS a = some a := by
  unfold F.laws_toTypeS
  rw [if_pos hl, toLoop (a := a) (L := F.laws_toTypeS_l1 a) (fun out i => by rw [F.laws_toTypeS_l1]) hf _ 0 (List.replicate a.length Ty.z) rfl (by simp) rfl]
  rfl

theorem P.toTypeS (a : List Ty) (hw : wtL Ty.wt a ≤ 67108864) : F.laws_toTypeS a = some a :=
  P.toTypeS_of a (by have := wtL_len Ty.wt a; omega) (fun x hx => P.toType x (by have := wtL_mem Ty.wt hx; omega))

theorem P.toCtor (x : Ctor) (hw : x.wt ≤ 67108864) : F.laws_toCtor x = some x := by
  unfold F.laws_toCtor
  have hw2 := hw; unfold Ctor.wt at hw2
  rw [P.toTypeS x.args (by omega)]
  simp only [Option.bind_eq_bind, Option.bind_some]
  all_goals (cases x; rfl)

theorem P.toCtorS_of (a : List Ctor) (hl : a.length ≤ 67108864) (hf : ∀ x, x ∈ a → F.laws_toCtor x = some x) : F.laws_toCtorS a = some a := by
  unfold F.laws_toCtorS
  rw [if_pos hl, toLoop (a := a) (L := F.laws_toCtorS_l1 a) (fun out i => by rw [F.laws_toCtorS_l1]) hf _ 0 (List.replicate a.length Ctor.z) rfl (by simp) rfl]
  rfl

theorem P.toCtorS (a : List Ctor) (hw : wtL Ctor.wt a ≤ 67108864) : F.laws_toCtorS a = some a :=
  P.toCtorS_of a (by have := wtL_len Ctor.wt a; omega) (fun x hx => P.toCtor x (by have := wtL_mem Ctor.wt hx; omega))

theorem P.toData (x : Data) (hw : x.wt ≤ 67108864) : F.laws_toData x = some x := by
  unfold F.laws_toData
  have hw2 := hw; unfold Data.wt at hw2
  rw [P.toCtorS x.ctors (by omega)]
  simp only [Option.bind_eq_bind, Option.bind_some]
  all_goals (cases x; rfl)

theorem P.toDataS_of (a : List Data) (hl : a.length ≤ 67108864) (hf : ∀ x, x ∈ a → F.laws_toData x = some x) : F.laws_toDataS a = some a := by
  unfold F.laws_toDataS
  rw [if_pos hl, toLoop (a := a) (L := F.laws_toDataS_l1 a) (fun out i => by rw [F.laws_toDataS_l1]) hf _ 0 (List.replicate a.length Data.z) rfl (by simp) rfl]
  rfl

theorem P.toDataS (a : List Data) (hw : wtL Data.wt a ≤ 67108864) : F.laws_toDataS a = some a :=
  P.toDataS_of a (by have := wtL_len Data.wt a; omega) (fun x hx => P.toData x (by have := wtL_mem Data.wt hx; omega))

theorem P.toValueS_of (a : List Value) (hl : a.length ≤ 67108864) (hf : ∀ x, x ∈ a → F.laws_toValue x = some x) : F.laws_toValueS a = some a := by
  unfold F.laws_toValueS
  rw [if_pos hl, toLoop (a := a) (L := F.laws_toValueS_l1 a) (fun out i => by rw [F.laws_toValueS_l1]) hf _ 0 (List.replicate a.length Value.z) rfl (by simp) rfl]
  rfl

theorem P.toValue (x : Value) (hw : x.wt ≤ 67108864) : F.laws_toValue x = some x := by
  induction x using Value.ind with
  | _ x ih =>
  unfold F.laws_toValue
  have hw2 := hw; rw [Value.wt_eq] at hw2
  rw [P.toValueS_of x.kids (by have := wtL_len Value.wt x.kids; omega) (fun k hk => ih k hk (by have := wtL_mem Value.wt hk; omega))]
  simp only [Option.bind_eq_bind, Option.bind_some]
  all_goals (cases x; rfl)

theorem P.toValueS (a : List Value) (hw : wtL Value.wt a ≤ 67108864) : F.laws_toValueS a = some a :=
  P.toValueS_of a (by have := wtL_len Value.wt a; omega) (fun x hx => P.toValue x (by have := wtL_mem Value.wt hx; omega))

theorem P.toIntS (a : List Int) (hl : a.length ≤ 67108864) : F.laws_toIntS a = some a := by
  unfold F.laws_toIntS
  rw [if_pos hl, toLoop0 (a := a) (L := F.laws_toIntS_l1 a) (fun out i => by rw [F.laws_toIntS_l1]) _ 0 (List.replicate a.length (0 : Int)) rfl (by simp) rfl]
  rfl

theorem P.toIntSS_of (a : List (List Int)) (hl : a.length ≤ 67108864) (hf : ∀ x, x ∈ a → F.laws_toIntS x = some x) : F.laws_toIntSS a = some a := by
  unfold F.laws_toIntSS
  rw [if_pos hl, toLoop (a := a) (L := F.laws_toIntSS_l1 a) (fun out i => by rw [F.laws_toIntSS_l1]) hf _ 0 (List.replicate a.length []) rfl (by simp) rfl]
  rfl

theorem P.toIntSS (a : List (List Int)) (hw : wtL (wtL (fun _ => 0)) a ≤ 67108864) : F.laws_toIntSS a = some a :=
  P.toIntSS_of a (by have := wtL_len (wtL (fun _ => 0)) a; omega) (fun x hx => P.toIntS x (by have := wtL_mem (wtL (fun _ => 0)) hx; have := wtL_len (fun _ : Int => 0) x; omega))

theorem P.eqValueS_of (a : List Value) (hf : ∀ x, x ∈ a → ∀ y, F.laws_eqValue x y = some (dec (x = y))) (b : List Value) : F.laws_eqValueS a b = some (dec (a = b)) := by
  unfold F.laws_eqValueS
  by_cases h : a.length = b.length
  · rw [if_pos h, eqLoop (L := F.laws_eqValueS_l1 a b) (fun i => by rw [F.laws_eqValueS_l1]) hf h _ 0 rfl]
    by_cases e : a = b
    · simp [e, dec_of]
    · simp [e, dec_not]
  · rw [if_neg h, dec_not]
    intro e; rw [e] at h; exact h rfl

theorem P.eqValue (x y : Value) : F.laws_eqValue x y = some (dec (x = y)) := by
  induction x using Value.ind generalizing y with
  | _ x ih =>
  unfold F.laws_eqValue
  simp only [P.eqValueS_of x.kids (fun k hk y => ih k hk y), Option.bind_eq_bind, Option.bind_some, dec_iff]
  cases x; cases y
  simp only [Value.mk.injEq]
  repeat' split
  all_goals first | (rw [dec_of]; simp_all [dec_iff, dec_false_iff]; done) | (rw [dec_not]; simp_all [dec_iff, dec_false_iff]; done)

theorem P.eqValueS (a b : List Value) : F.laws_eqValueS a b = some (dec (a = b)) :=
  P.eqValueS_of a (fun x _ y => P.eqValue x y) b

theorem P.eqType (x y : Ty) : F.laws_eqType x y = some (dec (x = y)) := by
  unfold F.laws_eqType
  cases x; cases y
  simp only [Ty.mk.injEq]
  repeat' split
  all_goals first | (rw [dec_of]; simp_all [dec_iff, dec_false_iff]; done) | (rw [dec_not]; simp_all [dec_iff, dec_false_iff]; done)

theorem P.eqTypeS_of (a : List Ty) (hf : ∀ x, x ∈ a → ∀ y, F.laws_eqType x y = some (dec (x = y))) (b : List Ty) : F.laws_eqTypeS a b = some (dec (a = b)) := by
  unfold F.laws_eqTypeS
  by_cases h : a.length = b.length
  · rw [if_pos h, eqLoop (L := F.laws_eqTypeS_l1 a b) (fun i => by rw [F.laws_eqTypeS_l1]) hf h _ 0 rfl]
    by_cases e : a = b
    · simp [e, dec_of]
    · simp [e, dec_not]
  · rw [if_neg h, dec_not]
    intro e; rw [e] at h; exact h rfl

theorem P.eqTypeS (a b : List Ty) : F.laws_eqTypeS a b = some (dec (a = b)) :=
  P.eqTypeS_of a (fun x _ y => P.eqType x y) b

theorem P.eqCtor (x y : Ctor) : F.laws_eqCtor x y = some (dec (x = y)) := by
  unfold F.laws_eqCtor
  simp only [bytes_eq, P.eqTypeS, Option.bind_eq_bind, Option.bind_some, dec_iff]
  cases x; cases y
  simp only [Ctor.mk.injEq]
  repeat' split
  all_goals first | (rw [dec_of]; simp_all [dec_iff, dec_false_iff]; done) | (rw [dec_not]; simp_all [dec_iff, dec_false_iff]; done)

theorem P.eqCtorS_of (a : List Ctor) (hf : ∀ x, x ∈ a → ∀ y, F.laws_eqCtor x y = some (dec (x = y))) (b : List Ctor) : F.laws_eqCtorS a b = some (dec (a = b)) := by
  unfold F.laws_eqCtorS
  by_cases h : a.length = b.length
  · rw [if_pos h, eqLoop (L := F.laws_eqCtorS_l1 a b) (fun i => by rw [F.laws_eqCtorS_l1]) hf h _ 0 rfl]
    by_cases e : a = b
    · simp [e, dec_of]
    · simp [e, dec_not]
  · rw [if_neg h, dec_not]
    intro e; rw [e] at h; exact h rfl

theorem P.eqCtorS (a b : List Ctor) : F.laws_eqCtorS a b = some (dec (a = b)) :=
  P.eqCtorS_of a (fun x _ y => P.eqCtor x y) b

theorem P.eqData (x y : Data) : F.laws_eqData x y = some (dec (x = y)) := by
  unfold F.laws_eqData
  simp only [bytes_eq, P.eqCtorS, Option.bind_eq_bind, Option.bind_some, dec_iff]
  cases x; cases y
  simp only [Data.mk.injEq]
  repeat' split
  all_goals first | (rw [dec_of]; simp_all [dec_iff, dec_false_iff]; done) | (rw [dec_not]; simp_all [dec_iff, dec_false_iff]; done)

theorem P.eqDataS_of (a : List Data) (hf : ∀ x, x ∈ a → ∀ y, F.laws_eqData x y = some (dec (x = y))) (b : List Data) : F.laws_eqDataS a b = some (dec (a = b)) := by
  unfold F.laws_eqDataS
  by_cases h : a.length = b.length
  · rw [if_pos h, eqLoop (L := F.laws_eqDataS_l1 a b) (fun i => by rw [F.laws_eqDataS_l1]) hf h _ 0 rfl]
    by_cases e : a = b
    · simp [e, dec_of]
    · simp [e, dec_not]
  · rw [if_neg h, dec_not]
    intro e; rw [e] at h; exact h rfl

theorem P.eqDataS (a b : List Data) : F.laws_eqDataS a b = some (dec (a = b)) :=
  P.eqDataS_of a (fun x _ y => P.eqData x y) b

theorem P.eqIntS (a : List Int) (b : List Int) : F.laws_eqIntS a b = some (dec (a = b)) := by
  unfold F.laws_eqIntS
  by_cases h : a.length = b.length
  · rw [if_pos h, eqLoop0 (L := F.laws_eqIntS_l1 a b) (fun i => by rw [F.laws_eqIntS_l1]) h _ 0 rfl]
    by_cases e : a = b
    · simp [e, dec_of]
    · simp [e, dec_not]
  · rw [if_neg h, dec_not]
    intro e; rw [e] at h; exact h rfl

theorem P.eqIntSS_of (a : List (List Int)) (hf : ∀ x, x ∈ a → ∀ y, F.laws_eqIntS x y = some (dec (x = y))) (b : List (List Int)) : F.laws_eqIntSS a b = some (dec (a = b)) := by
  unfold F.laws_eqIntSS
  by_cases h : a.length = b.length
  · rw [if_pos h, eqLoop (L := F.laws_eqIntSS_l1 a b) (fun i => by rw [F.laws_eqIntSS_l1]) hf h _ 0 rfl]
    by_cases e : a = b
    · simp [e, dec_of]
    · simp [e, dec_not]
  · rw [if_neg h, dec_not]
    intro e; rw [e] at h; exact h rfl

theorem P.eqIntSS (a b : List (List Int)) : F.laws_eqIntSS a b = some (dec (a = b)) :=
  P.eqIntSS_of a (fun x _ y => P.eqIntS x y) b

-- held
theorem P.heldValueS_A : ∀ m : Nat, (∀ (r D : List Value) (k : Int), SizeOf.sizeOf r < m → 0 ≤ k → k + (Value.cntL r : Int) ≤ 9223372036854775807 → F.laws_heldValueS_l1 (D ++ (Value.mkL r k).1) k D.length = some (.go (Value.mkL r k).2)) := by
  intro m
  induction m with
  | zero => exact fun r D k h => absurd h (Nat.not_lt_zero _)
  | succ m ih =>
    intro r D k hm h0 h
    induction r generalizing D k with
    | nil => rw [F.laws_heldValueS_l1, if_neg (by simp [Value.mkL])]; simp [Value.mkL]
    | cons x r ihr =>
      have hr : SizeOf.sizeOf r < m + 1 := by simp at hm; omega
      simp only [Value.cntL] at h
      have hE : (Value.mkE x k).2 = k + (Value.cnt x : Int) := by
        have h2 := Value.mkL_snd [x] k h0 (by simp only [Value.cntL]; omega)
        simpa [Value.mkL, Value.cntL] using h2
      obtain ⟨A, hA⟩ : ∃ A, A = (D ++ [(Value.mkE x k).1]) ++ (Value.mkL r (Value.mkE x k).2).1 := ⟨_, rfl⟩
      have h1 : D ++ (Value.mkL (x :: r) k).1 = A := by rw [hA]; simp [Value.mkL]
      have hlt : D.length < A.length := by rw [hA]; simp
      have hget : A[D.length]? = some (Value.mkE x k).1 := by rw [hA]; simp
      have ihr2 := ihr (D ++ [(Value.mkE x k).1]) (Value.mkE x k).2 hr (by rw [hE]; omega) (by rw [hE]; omega)
      rw [← hA] at ihr2
      simp only [List.length_append, List.length_cons, List.length_nil, Nat.zero_add] at ihr2
      have e2 : (Value.mkL (x :: r) k).2 = (Value.mkL r (Value.mkE x k).2).2 := by rw [Value.mkL]
      rw [e2, h1, F.laws_heldValueS_l1, if_pos hlt, hget]
      simp only [Option.bind_eq_bind, Option.bind_some]
      generalize hk2 : (Value.mkE x k).2 = k2 at ihr2 hE ⊢
      clear hA h1 hget e2 ihr
      obtain ⟨ctor, n, kids⟩ := x
      simp only [Value.cnt] at h hE
      simp only [Value.mkE] at hk2 ⊢
      have w1 : IntKind.i64.wrap (k + 1) = k + 1 := wrap_in (by omega) (by omega)
      rw [if_pos (by first | rfl | trivial)]
      have w2 : IntKind.i64.wrap (k + 1 + 1) = k + 1 + 1 := wrap_in (by omega) (by omega)
      rw [if_pos (by first | rfl | trivial)]
      have rw3 : IntKind.i64.wrap ((IntKind.i64.wrap (k + 1)) + 1) = k + 1 + 1 := by simp only [w1, w2]
      have qw3 : F.laws_heldValueS (Value.mkL kids (IntKind.i64.wrap ((IntKind.i64.wrap (k + 1)) + 1))).1 (IntKind.i64.wrap ((IntKind.i64.wrap (k + 1)) + 1)) = some (Value.mkL kids (IntKind.i64.wrap ((IntKind.i64.wrap (k + 1)) + 1))).2 := by
        have h3 := ih kids [] (IntKind.i64.wrap ((IntKind.i64.wrap (k + 1)) + 1)) (by simp at hm; omega) (by rw [rw3]; omega) (by rw [rw3]; omega)
        simp only [List.nil_append, List.length_nil] at h3
        rw [F.laws_heldValueS, h3]; rfl
      have w3 : (Value.mkL kids (k + 1 + 1)).2 = k + 1 + 1 + (Value.cntL kids : Int) := Value.mkL_snd _ _ (by omega) (by omega)
      rw [qw3]
      simp only [Option.bind_some]
      rw [if_neg (by rw [rw3, w3]; omega)]
      rw [hk2]
      exact ihr2

theorem P.heldValueS_l1 (r D : List Value) (k : Int) (h0 : 0 ≤ k) (h : k + (Value.cntL r : Int) ≤ 9223372036854775807) : F.laws_heldValueS_l1 (D ++ (Value.mkL r k).1) k D.length = some (.go (Value.mkL r k).2) := (P.heldValueS_A (SizeOf.sizeOf r + 1)) r D k (Nat.lt_succ_self _) h0 h

theorem P.heldValueS (l : List Value) (k : Int) (h0 : 0 ≤ k) (h : k + (Value.cntL l : Int) ≤ 9223372036854775807) : F.laws_heldValueS (Value.mkL l k).1 k = some (Value.mkL l k).2 := by
  unfold F.laws_heldValueS
  have := P.heldValueS_l1 l [] k h0 h
  simp only [List.nil_append, List.length_nil] at this
  rw [this]
  rfl
end Go.Vl
