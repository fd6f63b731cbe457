/- The plain lemmas of the counting, copying and comparing functions (printed by gen_p.py). -/
import Derived.Test.YtdehlcjhndoclaaGreatDoorExactFormatExprF
import Derived.Test.YtdehlcjhndoclaaGreatDoorVlP
set_option linter.unusedSimpArgs false
set_option linter.unusedVariables false
namespace Go.Vl
open Go Go.RowKit

theorem P.szTypeS (a : List Ty) (ho : a.length ≤ maxLen) (l : Int) (h0 : 0 ≤ l) (h1 : l ≤ 1048576) : F.laws_szTypeS a l = some (rem l (wtL Ty.wt a)) := by
  have hm : (a.length : Int) ≤ 9223372036854775807 := by have : a.length ≤ 9223372036854775807 := ho; omega
  have hw : wtL Ty.wt a = a.length := wtL_zero (fun _ => rfl) a
  unfold F.laws_szTypeS
  rw [wrap_in (n := l - a.length) (by omega) (by omega), hw]
  by_cases h : l - a.length < 0
  · rw [if_pos h]; simp only [rem]; split
    · omega
    · rfl
  · rw [if_neg h, rem_sub _ h]

theorem P.szCtor (x : Ctor) (ho : x.Ok) (l : Int) (h0 : 0 ≤ l) (h1 : l ≤ 1048576) : F.laws_szCtor x l = some (rem l x.wt) := by
  unfold F.laws_szCtor
  have s1 : (x.name.size : Int) ≤ 9223372036854775807 := by have : x.name.size ≤ 9223372036854775807 := ho.name; omega
  rw [wrap_in (n := l - x.name.size) (by omega) (by omega)]
  by_cases g1 : l - x.name.size < 0
  · rw [if_pos g1]; congr 1; unfold Ctor.wt; simp only [rem] at g1 ⊢; split <;> omega
  have h1n : ¬ rem l (x.name.size) < 0 := by simp only [rem] at *; split <;> omega
  rw [if_neg g1, rem_sub _ g1]
  rw [P.szTypeS x.args ho.args.1 _ (by omega) (Int.le_trans (rem_le _ h0) h1)]
  simp only [Option.bind_eq_bind, Option.bind_some]
  rw [rem_rem _ _ h1n]
  by_cases h2n : rem l (x.name.size + wtL Ty.wt x.args) < 0
  · rw [if_pos h2n]; congr 1; unfold Ctor.wt; simp only [rem] at h2n ⊢; split at h2n <;> split <;> omega
  rw [if_neg h2n]
  rfl

theorem P.szCtorS_of (a : List Ctor) (ho : a.length ≤ maxLen) (hf : ∀ x, x ∈ a → ∀ l : Int, 0 ≤ l → l ≤ 1048576 → F.laws_szCtor x l = some (rem l (Ctor.wt x))) (l : Int) (h0 : 0 ≤ l) (h1 : l ≤ 1048576) : F.laws_szCtorS a l = some (rem l (wtL Ctor.wt a)) := by
  have hm : (a.length : Int) ≤ 9223372036854775807 := by have : a.length ≤ 9223372036854775807 := ho; omega
  unfold F.laws_szCtorS
  rw [wrap_in (n := l - a.length) (by omega) (by omega), wtL_eq]
  by_cases h : l - a.length < 0
  · rw [if_pos h]; simp only [rem]; split
    · omega
    · rfl
  · have h2 : ¬ rem l a.length < 0 := by rw [← rem_sub _ h]; exact h
    rw [if_neg h, rem_sub _ h, szLoop (L := F.laws_szCtorS_l1 a) (fun l i => by rw [F.laws_szCtorS_l1]) hf _ 0 _ rfl (by omega) (Int.le_trans (rem_le _ h0) h1), rem_rem _ _ h2]
    simp only [List.drop_zero, Option.bind_eq_bind, Option.bind_some]
    split
    · next h3 =>
      split at h3
      · next h4 => cases h3; congr 1; simp only [rem] at h4 ⊢; split at h4 <;> split <;> omega
      · cases h3
    · next h3 =>
      split at h3
      · cases h3
      · cases h3; rfl

theorem P.szCtorS (a : List Ctor) (ho : okL Ctor.Ok a) (l : Int) (h0 : 0 ≤ l) (h1 : l ≤ 1048576) : F.laws_szCtorS a l = some (rem l (wtL Ctor.wt a)) :=
  P.szCtorS_of a ho.1 (fun x hx => P.szCtor x (ho.2 x hx)) l h0 h1

theorem P.szData (x : Data) (ho : x.Ok) (l : Int) (h0 : 0 ≤ l) (h1 : l ≤ 1048576) : F.laws_szData x l = some (rem l x.wt) := by
  unfold F.laws_szData
  have s1 : (x.name.size : Int) ≤ 9223372036854775807 := by have : x.name.size ≤ 9223372036854775807 := ho.name; omega
  rw [wrap_in (n := l - x.name.size) (by omega) (by omega)]
  by_cases g1 : l - x.name.size < 0
  · rw [if_pos g1]; congr 1; unfold Data.wt; simp only [rem] at g1 ⊢; split <;> omega
  have h1n : ¬ rem l (x.name.size) < 0 := by simp only [rem] at *; split <;> omega
  rw [if_neg g1, rem_sub _ g1]
  rw [P.szCtorS x.ctors ho.ctors _ (by omega) (Int.le_trans (rem_le _ h0) h1)]
  simp only [Option.bind_eq_bind, Option.bind_some]
  rw [rem_rem _ _ h1n]
  by_cases h2n : rem l (x.name.size + wtL Ctor.wt x.ctors) < 0
  · rw [if_pos h2n]; congr 1; unfold Data.wt; simp only [rem] at h2n ⊢; split at h2n <;> split <;> omega
  rw [if_neg h2n]
  rfl

theorem P.szDataS_of (a : List Data) (ho : a.length ≤ maxLen) (hf : ∀ x, x ∈ a → ∀ l : Int, 0 ≤ l → l ≤ 1048576 → F.laws_szData x l = some (rem l (Data.wt x))) (l : Int) (h0 : 0 ≤ l) (h1 : l ≤ 1048576) : F.laws_szDataS a l = some (rem l (wtL Data.wt a)) := by
  have hm : (a.length : Int) ≤ 9223372036854775807 := by have : a.length ≤ 9223372036854775807 := ho; omega
  unfold F.laws_szDataS
  rw [wrap_in (n := l - a.length) (by omega) (by omega), wtL_eq]
  by_cases h : l - a.length < 0
  · rw [if_pos h]; simp only [rem]; split
    · omega
    · rfl
  · have h2 : ¬ rem l a.length < 0 := by rw [← rem_sub _ h]; exact h
    rw [if_neg h, rem_sub _ h, szLoop (L := F.laws_szDataS_l1 a) (fun l i => by rw [F.laws_szDataS_l1]) hf _ 0 _ rfl (by omega) (Int.le_trans (rem_le _ h0) h1), rem_rem _ _ h2]
    simp only [List.drop_zero, Option.bind_eq_bind, Option.bind_some]
    split
    · next h3 =>
      split at h3
      · next h4 => cases h3; congr 1; simp only [rem] at h4 ⊢; split at h4 <;> split <;> omega
      · cases h3
    · next h3 =>
      split at h3
      · cases h3
      · cases h3; rfl

theorem P.szDataS (a : List Data) (ho : okL Data.Ok a) (l : Int) (h0 : 0 ≤ l) (h1 : l ≤ 1048576) : F.laws_szDataS a l = some (rem l (wtL Data.wt a)) :=
  P.szDataS_of a ho.1 (fun x hx => P.szData x (ho.2 x hx)) l h0 h1

theorem P.szFunTypeS (a : List FunType) (ho : a.length ≤ maxLen) (l : Int) (h0 : 0 ≤ l) (h1 : l ≤ 1048576) : F.laws_szFunTypeS a l = some (rem l (wtL FunType.wt a)) := by
  have hm : (a.length : Int) ≤ 9223372036854775807 := by have : a.length ≤ 9223372036854775807 := ho; omega
  have hw : wtL FunType.wt a = a.length := wtL_zero (fun _ => rfl) a
  unfold F.laws_szFunTypeS
  rw [wrap_in (n := l - a.length) (by omega) (by omega), hw]
  by_cases h : l - a.length < 0
  · rw [if_pos h]; simp only [rem]; split
    · omega
    · rfl
  · rw [if_neg h, rem_sub _ h]

theorem P.szVarTypeS (a : List VarType) (ho : a.length ≤ maxLen) (l : Int) (h0 : 0 ≤ l) (h1 : l ≤ 1048576) : F.laws_szVarTypeS a l = some (rem l (wtL VarType.wt a)) := by
  have hm : (a.length : Int) ≤ 9223372036854775807 := by have : a.length ≤ 9223372036854775807 := ho; omega
  have hw : wtL VarType.wt a = a.length := wtL_zero (fun _ => rfl) a
  unfold F.laws_szVarTypeS
  rw [wrap_in (n := l - a.length) (by omega) (by omega), hw]
  by_cases h : l - a.length < 0
  · rw [if_pos h]; simp only [rem]; split
    · omega
    · rfl
  · rw [if_neg h, rem_sub _ h]

theorem P.szExprS_of (a : List Expr) (ho : a.length ≤ maxLen) (hf : ∀ x, x ∈ a → ∀ l : Int, 0 ≤ l → l ≤ 1048576 → F.laws_szExpr x l = some (rem l (Expr.wt x))) (l : Int) (h0 : 0 ≤ l) (h1 : l ≤ 1048576) : F.laws_szExprS a l = some (rem l (wtL Expr.wt a)) := by
  have hm : (a.length : Int) ≤ 9223372036854775807 := by have : a.length ≤ 9223372036854775807 := ho; omega
  unfold F.laws_szExprS
  rw [wrap_in (n := l - a.length) (by omega) (by omega), wtL_eq]
  by_cases h : l - a.length < 0
  · rw [if_pos h]; simp only [rem]; split
    · omega
    · rfl
  · have h2 : ¬ rem l a.length < 0 := by rw [← rem_sub _ h]; exact h
    rw [if_neg h, rem_sub _ h, szLoop (L := F.laws_szExprS_l1 a) (fun l i => by rw [F.laws_szExprS_l1]) hf _ 0 _ rfl (by omega) (Int.le_trans (rem_le _ h0) h1), rem_rem _ _ h2]
    simp only [List.drop_zero, Option.bind_eq_bind, Option.bind_some]
    split
    · next h3 =>
      split at h3
      · next h4 => cases h3; congr 1; simp only [rem] at h4 ⊢; split at h4 <;> split <;> omega
      · cases h3
    · next h3 =>
      split at h3
      · cases h3
      · cases h3; rfl

theorem P.szExpr (x : Expr) (ho : x.Ok) (l : Int) (h0 : 0 ≤ l) (h1 : l ≤ 1048576) : F.laws_szExpr x l = some (rem l x.wt) := by
  induction x using Expr.ind generalizing l with
  | _ x ih =>
  unfold F.laws_szExpr
  rw [P.szExprS_of x.kids ho.kids.1 (fun k hk l h0 h1 => ih k hk (ho.kids.2 k hk) l h0 h1) _ h0 h1]
  simp only [Option.bind_eq_bind, Option.bind_some]
  by_cases h1n : rem l (wtL Expr.wt x.kids) < 0
  · rw [if_pos h1n]; congr 1; rw [Expr.wt_eq]; simp only [rem] at h1n ⊢; split at h1n <;> split <;> omega
  rw [if_neg h1n]
  rw [Expr.wt_eq]

theorem P.szExprS (a : List Expr) (ho : okL Expr.Ok a) (l : Int) (h0 : 0 ≤ l) (h1 : l ≤ 1048576) : F.laws_szExprS a l = some (rem l (wtL Expr.wt a)) :=
  P.szExprS_of a ho.1 (fun x hx => P.szExpr x (ho.2 x hx)) l h0 h1

theorem P.toType (x : Ty) (hw : x.wt ≤ 67108864) : F.laws_toType x = some x := by
  rfl

theorem P.toTypeS_of (a : List Ty) (hl : a.length ≤ 67108864) (hf : ∀ x, x ∈ a → F.laws_toType x = some x) : F.laws_toTypeS a = some a := by
  unfold F.laws_toTypeS
  rw [if_pos hl, toLoop (a := a) (L := F.laws_toTypeS_l1 a) (fun out i => by rw [F.laws_toTypeS_l1]) hf _ 0 (List.replicate a.length Ty.z) rfl (by simp) rfl]
  rfl

theorem P.toTypeS (a : List Ty) (hw : wtL Ty.wt a ≤ 67108864) : F.laws_toTypeS a = some a :=
  P.toTypeS_of a (by have := wtL_len Ty.wt a; omega) (fun x hx => P.toType x (by have := wtL_mem Ty.wt hx; omega))

theorem P.toCtor (x : Ctor) (hw : x.wt ≤ 67108864) : F.laws_toCtor x = some x := by
  unfold F.laws_toCtor
  have hw2 := hw; unfold Ctor.wt at hw2
  rw [P.toTypeS x.args (by omega)]
  simp only [Option.bind_eq_bind, Option.bind_some]
  all_goals (cases x; rfl)

theorem P.toCtorS_of (a : List Ctor) (hl : a.length ≤ 67108864) (hf : ∀ x, x ∈ a → F.laws_toCtor x = some x) : F.laws_toCtorS a = some a := by
  unfold F.laws_toCtorS
  rw [if_pos hl, toLoop (a := a) (L := F.laws_toCtorS_l1 a) (fun out i => by rw [F.laws_toCtorS_l1]) hf _ 0 (List.replicate a.length Ctor.z) rfl (by simp) rfl]
  rfl

theorem P.toCtorS (a : List Ctor) (hw : wtL Ctor.wt a ≤ 67108864) : F.laws_toCtorS a = some a :=
  P.toCtorS_of a (by have := wtL_len Ctor.wt a; omega) (fun x hx => P.toCtor x (by have := wtL_mem Ctor.wt hx; omega))

theorem P.toData (x : Data) (hw : x.wt ≤ 67108864) : F.laws_toData x = some x := by
  unfold F.laws_toData
  have hw2 := hw; unfold Data.wt at hw2
  rw [P.toCtorS x.ctors (by omega)]
  simp only [Option.bind_eq_bind, Option.bind_some]
  all_goals (cases x; rfl)

theorem P.toDataS_of (a : List Data) (hl : a.length ≤ 67108864) (hf : ∀ x, x ∈ a → F.laws_toData x = some x) : F.laws_toDataS a = some a := by
  unfold F.laws_toDataS
  rw [if_pos hl, toLoop (a := a) (L := F.laws_toDataS_l1 a) (fun out i => by rw [F.laws_toDataS_l1]) hf _ 0 (List.replicate a.length Data.z) rfl (by simp) rfl]
  rfl

theorem P.toDataS (a : List Data) (hw : wtL Data.wt a ≤ 67108864) : F.laws_toDataS a = some a :=
  P.toDataS_of a (by have := wtL_len Data.wt a; omega) (fun x hx => P.toData x (by have := wtL_mem Data.wt hx; omega))

theorem P.toFunType (x : FunType) (hw : x.wt ≤ 67108864) : F.laws_toFunType x = some x := by
  unfold F.laws_toFunType
  have hw2 := hw; unfold FunType.wt at hw2
  rw [P.toType x.arg (by simp [Ty.wt])]
  simp only [Option.bind_eq_bind, Option.bind_some]
  rw [P.toType x.res (by simp [Ty.wt])]
  simp only [Option.bind_eq_bind, Option.bind_some]
  all_goals (cases x; rfl)

theorem P.toFunTypeS_of (a : List FunType) (hl : a.length ≤ 67108864) (hf : ∀ x, x ∈ a → F.laws_toFunType x = some x) : F.laws_toFunTypeS a = some a := by
  unfold F.laws_toFunTypeS
  rw [if_pos hl, toLoop (a := a) (L := F.laws_toFunTypeS_l1 a) (fun out i => by rw [F.laws_toFunTypeS_l1]) hf _ 0 (List.replicate a.length FunType.z) rfl (by simp) rfl]
  rfl

theorem P.toFunTypeS (a : List FunType) (hw : wtL FunType.wt a ≤ 67108864) : F.laws_toFunTypeS a = some a :=
  P.toFunTypeS_of a (by have := wtL_len FunType.wt a; omega) (fun x hx => P.toFunType x (by have := wtL_mem FunType.wt hx; omega))

theorem P.toVarType (x : VarType) (hw : x.wt ≤ 67108864) : F.laws_toVarType x = some x := by
  unfold F.laws_toVarType
  have hw2 := hw; unfold VarType.wt at hw2
  rw [P.toType x.type (by simp [Ty.wt])]
  simp only [Option.bind_eq_bind, Option.bind_some]
  all_goals (cases x; rfl)

theorem P.toVarTypeS_of (a : List VarType) (hl : a.length ≤ 67108864) (hf : ∀ x, x ∈ a → F.laws_toVarType x = some x) : F.laws_toVarTypeS a = some a := by
  unfold F.laws_toVarTypeS
  rw [if_pos hl, toLoop (a := a) (L := F.laws_toVarTypeS_l1 a) (fun out i => by rw [F.laws_toVarTypeS_l1]) hf _ 0 (List.replicate a.length VarType.z) rfl (by simp) rfl]
  rfl

theorem P.toVarTypeS (a : List VarType) (hw : wtL VarType.wt a ≤ 67108864) : F.laws_toVarTypeS a = some a :=
  P.toVarTypeS_of a (by have := wtL_len VarType.wt a; omega) (fun x hx => P.toVarType x (by have := wtL_mem VarType.wt hx; omega))

theorem P.toExprS_of (a : List Expr) (hl : a.length ≤ 67108864) (hf : ∀ x, x ∈ a → F.laws_toExpr x = some x) : F.laws_toExprS a = some a := by
  unfold F.laws_toExprS
  rw [if_pos hl, toLoop (a := a) (L := F.laws_toExprS_l1 a) (fun out i => by rw [F.laws_toExprS_l1]) hf _ 0 (List.replicate a.length Expr.z) rfl (by simp) rfl]
  rfl

theorem P.toExpr (x : Expr) (hw : x.wt ≤ 67108864) : F.laws_toExpr x = some x := by
  induction x using Expr.ind with
  | _ x ih =>
  unfold F.laws_toExpr
  have hw2 := hw; rw [Expr.wt_eq] at hw2
  rw [P.toExprS_of x.kids (by have := wtL_len Expr.wt x.kids; omega) (fun k hk => ih k hk (by have := wtL_mem Expr.wt hk; omega))]
  simp only [Option.bind_eq_bind, Option.bind_some]
  all_goals (cases x; rfl)

theorem P.toExprS (a : List Expr) (hw : wtL Expr.wt a ≤ 67108864) : F.laws_toExprS a = some a :=
  P.toExprS_of a (by have := wtL_len Expr.wt a; omega) (fun x hx => P.toExpr x (by have := wtL_mem Expr.wt hx; omega))

theorem P.eqType (x y : Ty) : F.laws_eqType x y = some (dec (x = y)) := by
  unfold F.laws_eqType
  cases x; cases y
  simp only [Ty.mk.injEq]
  repeat' split
  all_goals first | (rw [dec_of]; simp_all [dec_iff, dec_false_iff]; done) | (rw [dec_not]; simp_all [dec_iff, dec_false_iff]; done)

theorem P.eqTypeS_of (a : List Ty) (hf : ∀ x, x ∈ a → ∀ y, F.laws_eqType x y = some (dec (x = y))) (b : List Ty) : F.laws_eqTypeS a b = some (dec (a = b)) := by
  unfold F.laws_eqTypeS
  by_cases h : a.length = b.length
  · rw [if_pos h, eqLoop (L := F.laws_eqTypeS_l1 a b) (fun i => by rw [F.laws_eqTypeS_l1]) hf h _ 0 rfl]
    by_cases e : a = b
    · simp [e, dec_of]
    · simp [e, dec_not]
  · rw [if_neg h, dec_not]
    intro e; rw [e] at h; exact h rfl

theorem P.eqTypeS (a b : List Ty) : F.laws_eqTypeS a b = some (dec (a = b)) :=
  P.eqTypeS_of a (fun x _ y => P.eqType x y) b

theorem P.eqCtor (x y : Ctor) : F.laws_eqCtor x y = some (dec (x = y)) := by
  unfold F.laws_eqCtor
  simp only [bytes_eq, P.eqTypeS, Option.bind_eq_bind, Option.bind_some, dec_iff]
  cases x; cases y
  simp only [Ctor.mk.injEq]
  repeat' split
  all_goals first | (rw [dec_of]; simp_all [dec_iff, dec_false_iff]; done) | (rw [dec_not]; simp_all [dec_iff, dec_false_iff]; done)

theorem P.eqCtorS_of (a : List Ctor) (hf : ∀ x, x ∈ a → ∀ y, F.laws_eqCtor x y = some (dec (x = y))) (b : List Ctor) : F.laws_eqCtorS a b = some (dec (a = b)) := by
  unfold F.laws_eqCtorS
  by_cases h : a.length = b.length
  · rw [if_pos h, eqLoop (L := F.laws_eqCtorS_l1 a b) (fun i => by rw [F.laws_eqCtorS_l1]) hf h _ 0 rfl]
    by_cases e : a = b
    · simp [e, dec_of]
    · simp [e, dec_not]
  · rw [if_neg h, dec_not]
    intro e; rw [e] at h; exact h rfl

theorem P.eqCtorS (a b : List Ctor) : F.laws_eqCtorS a b = some (dec (a = b)) :=
  P.eqCtorS_of a (fun x _ y => P.eqCtor x y) b

theorem P.eqData (x y : Data) : F.laws_eqData x y = some (dec (x = y)) := by
  unfold F.laws_eqData
  simp only [bytes_eq, P.eqCtorS, Option.bind_eq_bind, Option.bind_some, dec_iff]
  cases x; cases y
  simp only [Data.mk.injEq]
  repeat' split
  all_goals first | (rw [dec_of]; simp_all [dec_iff, dec_false_iff]; done) | (rw [dec_not]; simp_all [dec_iff, dec_false_iff]; done)

theorem P.eqDataS_of (a : List Data) (hf : ∀ x, x ∈ a → ∀ y, F.laws_eqData x y = some (dec (x = y))) (b : List Data) : F.laws_eqDataS a b = some (dec (a = b)) := by
  unfold F.laws_eqDataS
  by_cases h : a.length = b.length
  · rw [if_pos h, eqLoop (L := F.laws_eqDataS_l1 a b) (fun i => by rw [F.laws_eqDataS_l1]) hf h _ 0 rfl]
    by_cases e : a = b
    · simp [e, dec_of]
    · simp [e, dec_not]
  · rw [if_neg h, dec_not]
    intro e; rw [e] at h; exact h rfl

theorem P.eqDataS (a b : List Data) : F.laws_eqDataS a b = some (dec (a = b)) :=
  P.eqDataS_of a (fun x _ y => P.eqData x y) b

theorem P.eqFunType (x y : FunType) : F.laws_eqFunType x y = some (dec (x = y)) := by
  unfold F.laws_eqFunType
  simp only [P.eqType, P.eqType, Option.bind_eq_bind, Option.bind_some, dec_iff]
  cases x; cases y
  simp only [FunType.mk.injEq]
  repeat' split
  all_goals first | (rw [dec_of]; simp_all [dec_iff, dec_false_iff]; done) | (rw [dec_not]; simp_all [dec_iff, dec_false_iff]; done)

theorem P.eqFunTypeS_of (a : List FunType) (hf : ∀ x, x ∈ a → ∀ y, F.laws_eqFunType x y = some (dec (x = y))) (b : List FunType) : F.laws_eqFunTypeS a b = some (dec (a = b)) := by
  unfold F.laws_eqFunTypeS
  by_cases h : a.length = b.length
  · rw [if_pos h, eqLoop (L := F.laws_eqFunTypeS_l1 a b) (fun i => by rw [F.laws_eqFunTypeS_l1]) hf h _ 0 rfl]
    by_cases e : a = b
    · simp [e, dec_of]
    · simp [e, dec_not]
  · rw [if_neg h, dec_not]
    intro e; rw [e] at h; exact h rfl

theorem P.eqFunTypeS (a b : List FunType) : F.laws_eqFunTypeS a b = some (dec (a = b)) :=
  P.eqFunTypeS_of a (fun x _ y => P.eqFunType x y) b

theorem P.eqVarType (x y : VarType) : F.laws_eqVarType x y = some (dec (x = y)) := by
  unfold F.laws_eqVarType
  simp only [P.eqType, Option.bind_eq_bind, Option.bind_some, dec_iff]
  cases x; cases y
  simp only [VarType.mk.injEq]
  repeat' split
  all_goals first | (rw [dec_of]; simp_all [dec_iff, dec_false_iff]; done) | (rw [dec_not]; simp_all [dec_iff, dec_false_iff]; done)

theorem P.eqVarTypeS_of (a : List VarType) (hf : ∀ x, x ∈ a → ∀ y, F.laws_eqVarType x y = some (dec (x = y))) (b : List VarType) : F.laws_eqVarTypeS a b = some (dec (a = b)) := by
  unfold F.laws_eqVarTypeS
  by_cases h : a.length = b.length
  · rw [if_pos h, eqLoop (L := F.laws_eqVarTypeS_l1 a b) (fun i => by rw [F.laws_eqVarTypeS_l1]) hf h _ 0 rfl]
    by_cases e : a = b
    · simp [e, dec_of]
    · simp [e, dec_not]
  · rw [if_neg h, dec_not]
    intro e; rw [e] at h; exact h rfl

theorem P.eqVarTypeS (a b : List VarType) : F.laws_eqVarTypeS a b = some (dec (a = b)) :=
  P.eqVarTypeS_of a (fun x _ y => P.eqVarType x y) b

theorem P.eqExprS_of (a : List Expr) (hf : ∀ x, x ∈ a → ∀ y, F.laws_eqExpr x y = some (dec (x = y))) (b : List Expr) : F.laws_eqExprS a b = some (dec (a = b)) := by
  unfold F.laws_eqExprS
  by_cases h : a.length = b.length
  · rw [if_pos h, eqLoop (L := F.laws_eqExprS_l1 a b) (fun i => by rw [F.laws_eqExprS_l1]) hf h _ 0 rfl]
    by_cases e : a = b
    · simp [e, dec_of]
    · simp [e, dec_not]
  · rw [if_neg h, dec_not]
    intro e; rw [e] at h; exact h rfl

theorem P.eqExpr (x y : Expr) : F.laws_eqExpr x y = some (dec (x = y)) := by
  induction x using Expr.ind generalizing y with
  | _ x ih =>
  unfold F.laws_eqExpr
  simp only [P.eqExprS_of x.kids (fun k hk y => ih k hk y), Option.bind_eq_bind, Option.bind_some, dec_iff]
  cases x; cases y
  simp only [Expr.mk.injEq]
  repeat' split
  all_goals first | (rw [dec_of]; simp_all [dec_iff, dec_false_iff]; done) | (rw [dec_not]; simp_all [dec_iff, dec_false_iff]; done)

theorem P.eqExprS (a b : List Expr) : F.laws_eqExprS a b = some (dec (a = b)) :=
  P.eqExprS_of a (fun x _ y => P.eqExpr x y) b

end Go.Vl
