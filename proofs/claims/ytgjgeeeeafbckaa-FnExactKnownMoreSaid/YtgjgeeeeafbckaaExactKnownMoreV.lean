/- The plain law of values: the program's scan of a value is the reference's. -/
import Derived.Test.YtgjgeeeeafbckaaExactKnownMoreW
set_option linter.unusedSimpArgs false
set_option linter.unusedVariables false
namespace Go.Vl
open Go Go.RowKit

def tOk (w : List Data) (t : Ty) : Prop := t.data = -1 ∨ (0 ≤ t.data ∧ t.data < w.length)
theorem tOk_of {w : List Data} {t : Ty} (h : argOk w.length t) : tOk w t := h.elim (fun h => .inl h.1) (fun h => .inr ⟨h.1, h.2.1⟩)
theorem okL_nil_iff {α : Type} {l : List α} : l.length = 0 ↔ l = [] := List.length_eq_zero_iff

/-- The constructors that fit an index, by their places. -/
def fitC (i : Int) (c : Ctor) : Prop := i = 0 ∨ c.index = 0 ∨ c.index = i
noncomputable def selC (i : Int) : Nat → List Ctor → List Int
  | _, [] => []
  | k, c :: r => (if dec (fitC i c) = true then [(k : Int)] else []) ++ selC i (k + 1) r
theorem selC_len (i : Int) : ∀ (k : Nat) (l : List Ctor), (selC i k l).length ≤ l.length
  | _, [] => by simp [selC]
  | k, c :: r => by
    have := selC_len i (k + 1) r
    unfold selC
    split <;> simp <;> omega
theorem selC_mem (i : Int) {x : Int} : ∀ {k : Nat} {l : List Ctor}, x ∈ selC i k l → (k : Int) ≤ x ∧ x < k + l.length
  | _, [], h => by simp [selC] at h
  | k, c :: r, h => by
    unfold selC at h
    rcases List.mem_append.1 h with h | h
    · split at h
      · simp at h; subst h; simp; omega
      · simp at h
    · have := selC_mem i h
      simp; omega
def dataOf (w : List Data) (t : Ty) : Data := w.getD t.data.toNat Data.z
noncomputable def ctorList (w : List Data) (t : Ty) : List Int := if t.data = -1 then [] else selC t.index 0 (dataOf w t).ctors
def ctorOf (w : List Data) (t : Ty) (c : Int) : Ctor := (dataOf w t).ctors.getD c.toNat Ctor.z
def argOf (t : Ty) (c : Ctor) (a : Ty) : Ty := if a.index = -1 then ⟨a.data, if c.index = 0 then t.index else c.index⟩ else a
def argList (w : List Data) (t : Ty) (c : Int) : List Ty := (ctorOf w t c).args.map (argOf t (ctorOf w t c))

theorem at_data {w : List Data} {t : Ty} (h : tOk w t) (hn : t.data ≠ -1) : at? w t.data = some (dataOf w t) ∧ dataOf w t ∈ w ∧ ∃ h : t.data.toNat < w.length, dataOf w t = w[t.data.toNat] := by
  obtain ⟨h1, h2⟩ := h.resolve_left hn
  have hlt : t.data.toNat < w.length := by omega
  unfold at? dataOf
  rw [if_pos h1, List.getElem?_eq_getElem hlt, List.getD_eq_getElem?_getD, List.getElem?_eq_getElem hlt]
  exact ⟨rfl, List.getElem_mem hlt, hlt, rfl⟩
theorem world_ctors {w : List Data} (hw : worldOk w) {t : Ty} (h : tOk w t) (hn : t.data ≠ -1) : (dataOf w t).ctors.length ≤ 4 ∧ ∀ c, c ∈ (dataOf w t).ctors → ctorOk w.length c := by
  obtain ⟨_, _, hlt, e⟩ := at_data h hn
  have hd := hw.2 t.data.toNat (by omega) hlt hlt
  rw [e]
  refine ⟨hd.few, fun c hc => ?_⟩
  obtain ⟨k, hk, rfl⟩ := List.getElem_of_mem hc
  exact (hd.ctors k (by omega) hk hk).ok

theorem P.spec_ctors_l1 (w : List Data) (hw : worldOk w) (t : Ty) (h : tOk w t) (hn : t.data ≠ -1) : ∀ (m k : Nat) (out : List Int), (dataOf w t).ctors.length - k = m → out.length ≤ k → k ≤ (dataOf w t).ctors.length →
    F.spec_l1Ctors_l1 w t out k = some (out ++ selC t.index k ((dataOf w t).ctors.drop k)) := by
  have h4 := (world_ctors hw h hn).1
  intro m
  induction m with
  | zero =>
    intro k out hm ho hk
    rw [F.spec_l1Ctors_l1, (at_data h hn).1]
    simp only [Option.bind_eq_bind, Option.bind_some]
    rw [if_neg (by omega), List.drop_eq_nil_of_le (by omega)]; simp [selC]
  | succ m ih =>
    intro k out hm ho hk
    have hlt : k < (dataOf w t).ctors.length := by omega
    rw [F.spec_l1Ctors_l1, (at_data h hn).1]
    simp only [Option.bind_eq_bind, Option.bind_some]
    rw [if_pos hlt, List.getElem?_eq_getElem hlt, List.drop_eq_getElem_cons hlt]
    simp only [Option.bind_some, selC]
    have hf : F.spec_l1Fits (dataOf w t).ctors[k] t.index = some (dec (fitC t.index (dataOf w t).ctors[k])) := by
      unfold F.spec_l1Fits
      by_cases h1 : (dataOf w t).ctors[k].index = 0
      · rw [if_pos h1, dec_of (.inr (.inl h1))]
      · by_cases h2 : t.index = 0
        · rw [if_neg h1, if_pos h2, dec_of (.inl h2)]
        · rw [if_neg h1, if_neg h2, ← dec_eq]; congr 1; exact dec_congr ⟨fun h => .inr (.inr h), fun h => h.elim (fun h => absurd h h2) (fun h => h.elim (fun h => absurd h h1) id)⟩
    rw [hf]
    simp only [Option.bind_some]
    by_cases hfit : fitC t.index (dataOf w t).ctors[k]
    · rw [if_pos (dec_of hfit), if_pos (by omega), if_pos (by omega), ih (k + 1) _ (by omega) (by simp; omega) (by omega), if_pos (dec_of hfit)]; simp
    · rw [if_neg (by rw [dec_not hfit]; simp), if_pos (by omega), ih (k + 1) _ (by omega) (by omega) (by omega), if_neg (by rw [dec_not hfit]; simp)]; simp
theorem P.spec_l1Ctors (w : List Data) (hw : worldOk w) (t : Ty) (h : tOk w t) : F.spec_l1Ctors w t = some (ctorList w t) := by
  unfold F.spec_l1Ctors ctorList
  by_cases hn : t.data = -1
  · rw [if_pos hn, if_pos hn]
  · rw [if_neg hn, if_neg hn, P.spec_ctors_l1 w hw t h hn _ 0 [] rfl (by simp) (by omega)]; simp
theorem P.impl_ctors_l1 (w : List Data) (hw : worldOk w) (t : Ty) (h : tOk w t) (hn : t.data ≠ -1) : ∀ (m k : Nat) (out : List Int), (dataOf w t).ctors.length - k = m → out.length ≤ k → k ≤ (dataOf w t).ctors.length →
    F.impl_ctorsOf_l1 t (dataOf w t) k out = some (out ++ selC t.index k ((dataOf w t).ctors.drop k)) := by
  have h4 := (world_ctors hw h hn).1
  intro m
  induction m with
  | zero =>
    intro k out hm ho hk
    rw [F.impl_ctorsOf_l1, if_neg (by omega), List.drop_eq_nil_of_le (by omega)]; simp [selC]
  | succ m ih =>
    intro k out hm ho hk
    have hlt : k < (dataOf w t).ctors.length := by omega
    rw [F.impl_ctorsOf_l1, if_pos hlt, List.getElem?_eq_getElem hlt, List.drop_eq_getElem_cons hlt]
    simp only [Option.bind_eq_bind, Option.bind_some, selC]
    have yes : fitC t.index (dataOf w t).ctors[k] → (if out.length + 1 ≤ 67108864 then F.impl_ctorsOf_l1 t (dataOf w t) (k + 1) (out ++ [(k : Int)]) else none) =
        some (out ++ ((if dec (fitC t.index (dataOf w t).ctors[k]) = true then [(k : Int)] else []) ++ selC t.index (k + 1) ((dataOf w t).ctors.drop (k + 1)))) := by
      intro hfit
      rw [if_pos (by omega), ih (k + 1) _ (by omega) (by simp; omega) (by omega), if_pos (dec_of hfit)]; simp
    by_cases h1 : t.index = 0
    · rw [if_pos h1]; exact yes (.inl h1)
    by_cases h2 : (dataOf w t).ctors[k].index = 0
    · rw [if_neg h1, if_pos h2]; exact yes (.inr (.inl h2))
    by_cases h3 : (dataOf w t).ctors[k].index = t.index
    · rw [if_neg h1, if_neg h2, if_pos h3]; exact yes (.inr (.inr h3))
    · have hfit : ¬ fitC t.index (dataOf w t).ctors[k] := fun h => h.elim h1 (fun h => h.elim h2 h3)
      rw [if_neg h1, if_neg h2, if_neg h3, ih (k + 1) _ (by omega) (by omega) (by omega), if_neg (by rw [dec_not hfit]; simp)]; simp
theorem P.impl_ctorsOf (w : List Data) (hw : worldOk w) (t : Ty) (h : tOk w t) : F.impl_ctorsOf w t = some (ctorList w t) := by
  unfold F.impl_ctorsOf ctorList
  by_cases hn : t.data = -1
  · rw [if_pos hn, if_pos hn]
  · rw [if_neg hn, if_neg hn, (at_data h hn).1]
    simp only [Option.bind_eq_bind, Option.bind_some]
    rw [P.impl_ctors_l1 w hw t h hn _ 0 [] rfl (by simp) (by omega)]; simp
theorem ctorList_mem {w : List Data} {t : Ty} {c : Int} (h : c ∈ ctorList w t) : t.data ≠ -1 ∧ 0 ≤ c ∧ c < (dataOf w t).ctors.length := by
  unfold ctorList at h
  split at h
  · cases h
  · next hn =>
    have := selC_mem t.index h
    exact ⟨hn, by omega, by omega⟩
theorem at_ctor {w : List Data} {t : Ty} {c : Int} (h : c ∈ ctorList w t) : at? (dataOf w t).ctors c = some (ctorOf w t c) ∧ ctorOf w t c ∈ (dataOf w t).ctors := by
  obtain ⟨_, h1, h2⟩ := ctorList_mem h
  have hlt : c.toNat < (dataOf w t).ctors.length := by omega
  unfold at? ctorOf
  rw [if_pos h1, List.getElem?_eq_getElem hlt, List.getD_eq_getElem?_getD, List.getElem?_eq_getElem hlt]
  exact ⟨rfl, List.getElem_mem hlt⟩
theorem arg_tOk {w : List Data} (hw : worldOk w) {t : Ty} (ht : tOk w t) {c : Int} (h : c ∈ ctorList w t) : (argList w t c).length ≤ 3 ∧ ∀ a, a ∈ argList w t c → tOk w a := by
  have hc := (world_ctors hw ht (ctorList_mem h).1).2 _ (at_ctor h).2
  refine ⟨by unfold argList; rw [List.length_map]; exact hc.2.1, fun a ha => ?_⟩
  obtain ⟨b, hb, rfl⟩ := List.mem_map.1 ha
  obtain ⟨j, hj, rfl⟩ := List.getElem_of_mem hb
  have := tOk_of (hc.2.2.2.2 j (by omega) hj)
  unfold argOf
  split
  · exact this
  · exact this
theorem P.spec_l1Args (w : List Data) (hw : worldOk w) (t : Ty) (ht : tOk w t) (c : Int) (h : c ∈ ctorList w t) : F.spec_l1Args w t c = some (argList w t c) := by
  have hc := (world_ctors hw ht (ctorList_mem h).1).2 _ (at_ctor h).2
  unfold F.spec_l1Args
  rw [(at_data ht (ctorList_mem h).1).1]
  simp only [Option.bind_eq_bind, Option.bind_some]
  rw [(at_ctor h).1]
  simp only [Option.bind_some]
  rw [appLoop (L := F.spec_l1Args_l1 t (ctorOf w t c)) (a := (ctorOf w t c).args) (g := argOf t (ctorOf w t c)) (f := fun a => some (argOf t (ctorOf w t c) a)) (fun out i => ?_) (fun _ _ => rfl) _ 0 [] rfl (by have := hc.2.1; simp; omega)]
  · simp [argList]
  · rw [F.spec_l1Args_l1]
    split
    · cases (ctorOf w t c).args[i]? with
      | none => rfl
      | some a =>
        simp only [Option.bind_eq_bind, Option.bind_some, F.spec_l1Result, argOf]
        split
        · split <;> simp
        · simp
    · rfl
theorem P.impl_argTypes (w : List Data) (hw : worldOk w) (t : Ty) (ht : tOk w t) (c : Int) (h : c ∈ ctorList w t) : F.impl_argTypes w t c = some (argList w t c) := by
  have hc := (world_ctors hw ht (ctorList_mem h).1).2 _ (at_ctor h).2
  unfold F.impl_argTypes
  rw [(at_data ht (ctorList_mem h).1).1]
  simp only [Option.bind_eq_bind, Option.bind_some]
  rw [(at_ctor h).1]
  simp only [Option.bind_some]
  by_cases h0 : (ctorOf w t c).index = 0
  · rw [if_pos h0, appLoop (L := fun out i => F.impl_argTypes_l1 t (ctorOf w t c) i out) (a := (ctorOf w t c).args) (g := argOf t (ctorOf w t c)) (f := fun a => some (argOf t (ctorOf w t c) a)) (fun out i => ?_) (fun _ _ => rfl) _ 0 [] rfl (by have := hc.2.1; simp; omega)]
    · simp [argList]
    · show F.impl_argTypes_l1 t (ctorOf w t c) i out = _
      rw [F.impl_argTypes_l1]
      split
      · cases (ctorOf w t c).args[i]? with
        | none => rfl
        | some a =>
          simp only [Option.bind_eq_bind, Option.bind_some, argOf]
          split
          · first | rfl | rw [if_pos h0]
          · rfl
      · rfl
  · rw [if_neg h0, appLoop (L := fun out i => F.impl_argTypes_l2 (ctorOf w t c) i out) (a := (ctorOf w t c).args) (g := argOf t (ctorOf w t c)) (f := fun a => some (argOf t (ctorOf w t c) a)) (fun out i => ?_) (fun _ _ => rfl) _ 0 [] rfl (by have := hc.2.1; simp; omega)]
    · simp [argList]
    · show F.impl_argTypes_l2 (ctorOf w t c) i out = _
      rw [F.impl_argTypes_l2]
      split
      · cases (ctorOf w t c).args[i]? with
        | none => rfl
        | some a =>
          simp only [Option.bind_eq_bind, Option.bind_some, argOf]
          split
          · first | rfl | rw [if_neg h0]
          · rfl
      · rfl
theorem P.spec_l1Has (l : List Int) (n : Int) : F.spec_l1Has l n = some (dec (n ∈ l)) := by
  unfold F.spec_l1Has
  rw [allN (n := l.length) (r := true) (Q := fun j => ∀ h : j < l.length, l[j] ≠ n) (L := F.spec_l1Has_l1 l n) (fun k hk => by rw [F.spec_l1Has_l1, if_neg (by omega)])
    (fun k hk hq => by
      rw [F.spec_l1Has_l1, if_pos hk, List.getElem?_eq_getElem hk]
      simp only [Option.bind_eq_bind, Option.bind_some]
      rw [if_neg (hq hk)])
    (fun k hk hq => by
      rw [F.spec_l1Has_l1, if_pos hk, List.getElem?_eq_getElem hk]
      simp only [Option.bind_eq_bind, Option.bind_some]
      rw [if_pos (Classical.byContradiction fun h => hq fun _ => h)]) _ 0 rfl]
  simp only [Option.bind_eq_bind, Option.bind_some]
  by_cases hm : n ∈ l
  · obtain ⟨j, hj, e⟩ := List.getElem_of_mem hm
    rw [if_neg (by rw [dec_not fun hh => hh j (by omega) hj hj e]; simp), dec_of hm]
  · rw [if_pos (dec_of fun j _ hj h e => hm (by rw [← e]; exact List.getElem_mem h)), dec_not hm]
theorem P.slices_Contains_int (l : List Int) (n : Int) : F.slices_Contains_int l n = some (dec (n ∈ l)) := by
  unfold F.slices_Contains_int F.slices_Index_int
  have key : ∀ (m k : Nat), l.length - k = m → ∃ r, F.slices_Index_int_l1 l n k = some r ∧ match r with | .ret j => 0 ≤ j ∧ n ∈ l | .go _ => ∀ j, k ≤ j → ∀ h : j < l.length, l[j] ≠ n := by
    intro m
    induction m with
    | zero => intro k hm; rw [F.slices_Index_int_l1, if_neg (by omega)]; exact ⟨_, rfl, fun j h1 h2 => by omega⟩
    | succ m ih =>
      intro k hm
      have hk : k < l.length := by omega
      rw [F.slices_Index_int_l1, if_pos hk, List.getElem?_eq_getElem hk]
      simp only [Option.bind_eq_bind, Option.bind_some]
      by_cases h : n = l[k]
      · rw [if_pos h]; exact ⟨_, rfl, by omega, h ▸ List.getElem_mem hk⟩
      · rw [if_neg h]
        obtain ⟨r, hr, hx⟩ := ih (k + 1) (by omega)
        refine ⟨r, hr, ?_⟩
        cases r with
        | ret j => exact hx
        | go _ =>
          intro j hj hl
          by_cases e : k = j
          · subst e; exact fun e => h e.symm
          · exact hx j (by omega) hl
  obtain ⟨r, hr, hx⟩ := key _ 0 rfl
  rw [hr]
  cases r with
  | ret j =>
    simp only [Option.bind_eq_bind, Option.bind_some]
    rw [dec_of hx.2]; simp [hx.1]
  | go _ =>
    simp only [Option.bind_eq_bind, Option.bind_some]
    rw [dec_not fun hm => by obtain ⟨j, hj, e⟩ := List.getElem_of_mem hm; exact hx j (by omega) hj e]; simp

/-- A value of a type, at most d deep; with holes or without. -/
def pv (w : List Data) (holes : Bool) : Nat → Ty → Value → Prop
  | 0, _, _ => False
  | d + 1, t, v => (holes = true ∧ v.ctor = -2 ∧ v.n = 0 ∧ v.kids.length = 0) ∨ (¬ (holes = true ∧ v.ctor = -2) ∧
      ((t.data = -1 ∧ v.ctor = -1 ∧ 0 ≤ v.n ∧ v.n ≤ 9 ∧ v.kids.length = 0) ∨
       (t.data ≠ -1 ∧ v.n = 0 ∧ v.ctor ∈ ctorList w t ∧ v.kids.length = (argList w t v.ctor).length ∧
         ∀ i, 0 ≤ i → i < (argList w t v.ctor).length → ∀ (h : i < (argList w t v.ctor).length) (h' : i < v.kids.length), pv w holes d (argList w t v.ctor)[i] v.kids[i])))

theorem P.spec_l2Fits (w : List Data) (hw : worldOk w) : ∀ (d : Nat) (t : Ty) (v : Value), tOk w t → d ≤ 10 → F.spec_l2Fits w t v d = some (dec (pv w false d t v))
  | 0, t, v, ht, hd => by
    rw [F.spec_l2Fits, if_pos (by omega), dec_not (by simp [pv])]
  | d + 1, t, v, ht, hd => by
    rw [F.spec_l2Fits, if_neg (by omega)]
    by_cases h1 : t.data = -1
    · rw [if_pos h1]
      by_cases a1 : v.ctor = -1
      · by_cases a2 : 0 ≤ v.n
        · by_cases a3 : v.n ≤ 9
          · rw [if_pos a1, if_pos a2, if_pos a3, ← dec_eq]; congr 1
            exact dec_congr ⟨fun h => .inr ⟨by simp, .inl ⟨h1, a1, a2, a3, h⟩⟩, fun h => h.elim (fun h => by simp at h) (fun h => h.2.elim (fun h => h.2.2.2.2) (fun h => absurd h1 h.1))⟩
          · rw [if_pos a1, if_pos a2, if_neg a3, dec_not fun h => h.elim (fun h => by simp at h) (fun h => h.2.elim (fun h => a3 h.2.2.2.1) (fun h => h.1 h1))]
        · rw [if_pos a1, if_neg a2, dec_not fun h => h.elim (fun h => by simp at h) (fun h => h.2.elim (fun h => a2 h.2.2.1) (fun h => h.1 h1))]
      · rw [if_neg a1, dec_not fun h => h.elim (fun h => by simp at h) (fun h => h.2.elim (fun h => a1 h.2.1) (fun h => h.1 h1))]
    rw [if_neg h1]
    by_cases h2 : v.n = 0
    · rw [if_pos h2, P.spec_l1Ctors w hw t ht]
      simp only [Option.bind_eq_bind, Option.bind_some]
      rw [P.spec_l1Has]
      simp only [Option.bind_some]
      by_cases h3 : v.ctor ∈ ctorList w t
      · rw [if_pos (dec_of h3), P.spec_l1Args w hw t ht _ h3]
        simp only [Option.bind_some]
        by_cases h4 : v.kids.length = (argList w t v.ctor).length
        · rw [if_pos h4, allN (n := (argList w t v.ctor).length) (r := false) (Q := fun i => ∀ (h : i < (argList w t v.ctor).length) (h' : i < v.kids.length), pv w false d (argList w t v.ctor)[i] v.kids[i]) (L := F.spec_l2Fits_l1 w v ((d + 1 : Nat) : Int) (argList w t v.ctor))
            (fun k hk => by rw [F.spec_l2Fits_l1, if_neg (by omega)])
            (fun k hk hq => by
              have hk' : k < v.kids.length := by rw [h4]; exact hk
              rw [F.spec_l2Fits_l1, if_pos hk, List.getElem?_eq_getElem hk, List.getElem?_eq_getElem hk']
              simp only [Option.bind_eq_bind, Option.bind_some]
              rw [wrap_in (by omega) (by omega), show ((d + 1 : Nat) : Int) - 1 = (d : Int) from by omega, P.spec_l2Fits w hw d _ _ ((arg_tOk hw ht h3).2 _ (List.getElem_mem hk)) (by omega)]
              simp only [Option.bind_some]
              rw [if_pos (dec_of (hq hk hk'))])
            (fun k hk hq => by
              have hk' : k < v.kids.length := by rw [h4]; exact hk
              rw [F.spec_l2Fits_l1, if_pos hk, List.getElem?_eq_getElem hk, List.getElem?_eq_getElem hk']
              simp only [Option.bind_eq_bind, Option.bind_some]
              rw [wrap_in (by omega) (by omega), show ((d + 1 : Nat) : Int) - 1 = (d : Int) from by omega, P.spec_l2Fits w hw d _ _ ((arg_tOk hw ht h3).2 _ (List.getElem_mem hk)) (by omega)]
              simp only [Option.bind_some]
              rw [if_neg (by rw [dec_not fun h => hq fun _ _ => h]; simp)]) _ 0 rfl]
          simp only [Option.bind_some]
          by_cases hall : ∀ i, 0 ≤ i → i < (argList w t v.ctor).length → ∀ (h : i < (argList w t v.ctor).length) (h' : i < v.kids.length), pv w false d (argList w t v.ctor)[i] v.kids[i]
          · rw [if_pos (dec_of hall), dec_of (.inr ⟨by simp, .inr ⟨h1, h2, h3, h4, hall⟩⟩)]
          · rw [if_neg (by rw [dec_not hall]; simp), dec_not fun h => h.elim (fun h => by simp at h) (fun h => h.2.elim (fun h => h1 h.1) (fun h => hall h.2.2.2.2))]
        · rw [if_neg h4, dec_not fun h => h.elim (fun h => by simp at h) (fun h => h.2.elim (fun h => h1 h.1) (fun h => h4 h.2.2.2.1))]
      · rw [if_neg (by rw [dec_not h3]; simp), dec_not fun h => h.elim (fun h => by simp at h) (fun h => h.2.elim (fun h => h1 h.1) (fun h => h3 h.2.2.1))]
    · rw [if_neg h2, dec_not fun h => h.elim (fun h => by simp at h) (fun h => h.2.elim (fun h => h1 h.1) (fun h => h2 h.2.1))]

theorem P.spec_l10Hole (v : Value) (h : v.ctor = -2) : F.spec_l10Hole v = some (dec (v.n = 0 ∧ v.kids.length = 0)) := by
  unfold F.spec_l10Hole
  rw [if_pos h]
  by_cases h1 : v.n = 0
  · rw [if_pos h1, ← dec_eq]; congr 1; exact dec_congr ⟨fun h => ⟨h1, h⟩, fun h => h.2⟩
  · rw [if_neg h1, dec_not fun h => h1 h.1]
theorem P.spec_l10Fits (w : List Data) (hw : worldOk w) : ∀ (d : Nat) (t : Ty) (v : Value), tOk w t → d ≤ 10 → F.spec_l10Fits w t v d = some (dec (pv w true d t v))
  | 0, t, v, ht, hd => by
    rw [F.spec_l10Fits, if_pos (by omega), dec_not (by simp [pv])]
  | d + 1, t, v, ht, hd => by
    rw [F.spec_l10Fits, if_neg (by omega)]
    by_cases h0 : v.ctor = -2
    · rw [if_pos h0, P.spec_l10Hole v h0]
      simp only [Option.bind_eq_bind, Option.bind_some]
      congr 1; exact dec_congr ⟨fun h => .inl ⟨rfl, h0, h.1, h.2⟩, fun h => h.elim (fun h => ⟨h.2.2.1, h.2.2.2⟩) (fun h => absurd ⟨rfl, h0⟩ h.1)⟩
    rw [if_neg h0]
    have hno : ¬ (true = true ∧ v.ctor = -2) := fun h => h0 h.2
    by_cases h1 : t.data = -1
    · rw [if_pos h1, P.spec_l2Fits w hw (d + 1) t v ht hd]
      simp only [Option.bind_eq_bind, Option.bind_some]
      congr 1
      exact dec_congr ⟨fun h => h.elim (fun h => by simp at h) (fun h => h.2.elim (fun h => .inr ⟨hno, .inl h⟩) (fun h => absurd h1 h.1)), fun h => h.elim (fun h => absurd h.2.1 h0) (fun h => h.2.elim (fun h => .inr ⟨by simp, .inl h⟩) (fun h => absurd h1 h.1))⟩
    rw [if_neg h1]
    by_cases h2 : v.n = 0
    · rw [if_pos h2, P.spec_l1Ctors w hw t ht]
      simp only [Option.bind_eq_bind, Option.bind_some]
      rw [P.spec_l1Has]
      simp only [Option.bind_some]
      by_cases h3 : v.ctor ∈ ctorList w t
      · rw [if_pos (dec_of h3), P.spec_l1Args w hw t ht _ h3]
        simp only [Option.bind_some]
        by_cases h4 : v.kids.length = (argList w t v.ctor).length
        · rw [if_pos h4, allN (n := (argList w t v.ctor).length) (r := false) (Q := fun i => ∀ (h : i < (argList w t v.ctor).length) (h' : i < v.kids.length), pv w true d (argList w t v.ctor)[i] v.kids[i]) (L := F.spec_l10Fits_l1 w v ((d + 1 : Nat) : Int) (argList w t v.ctor))
            (fun k hk => by rw [F.spec_l10Fits_l1, if_neg (by omega)])
            (fun k hk hq => by
              have hk' : k < v.kids.length := by rw [h4]; exact hk
              rw [F.spec_l10Fits_l1, if_pos hk, List.getElem?_eq_getElem hk, List.getElem?_eq_getElem hk']
              simp only [Option.bind_eq_bind, Option.bind_some]
              rw [wrap_in (by omega) (by omega), show ((d + 1 : Nat) : Int) - 1 = (d : Int) from by omega, P.spec_l10Fits w hw d _ _ ((arg_tOk hw ht h3).2 _ (List.getElem_mem hk)) (by omega)]
              simp only [Option.bind_some]
              rw [if_pos (dec_of (hq hk hk'))])
            (fun k hk hq => by
              have hk' : k < v.kids.length := by rw [h4]; exact hk
              rw [F.spec_l10Fits_l1, if_pos hk, List.getElem?_eq_getElem hk, List.getElem?_eq_getElem hk']
              simp only [Option.bind_eq_bind, Option.bind_some]
              rw [wrap_in (by omega) (by omega), show ((d + 1 : Nat) : Int) - 1 = (d : Int) from by omega, P.spec_l10Fits w hw d _ _ ((arg_tOk hw ht h3).2 _ (List.getElem_mem hk)) (by omega)]
              simp only [Option.bind_some]
              rw [if_neg (by rw [dec_not fun h => hq fun _ _ => h]; simp)]) _ 0 rfl]
          simp only [Option.bind_some]
          by_cases hall : ∀ i, 0 ≤ i → i < (argList w t v.ctor).length → ∀ (h : i < (argList w t v.ctor).length) (h' : i < v.kids.length), pv w true d (argList w t v.ctor)[i] v.kids[i]
          · rw [if_pos (dec_of hall), dec_of (.inr ⟨hno, .inr ⟨h1, h2, h3, h4, hall⟩⟩)]
          · rw [if_neg (by rw [dec_not hall]; simp), dec_not fun h => h.elim (fun h => h0 h.2.1) (fun h => h.2.elim (fun h => h1 h.1) (fun h => hall h.2.2.2.2))]
        · rw [if_neg h4, dec_not fun h => h.elim (fun h => h0 h.2.1) (fun h => h.2.elim (fun h => h1 h.1) (fun h => h4 h.2.2.2.1))]
      · rw [if_neg (by rw [dec_not h3]; simp), dec_not fun h => h.elim (fun h => h0 h.2.1) (fun h => h.2.elim (fun h => h1 h.1) (fun h => h3 h.2.2.1))]
    · rw [if_neg h2, dec_not fun h => h.elim (fun h => h0 h.2.1) (fun h => h.2.elim (fun h => h1 h.1) (fun h => h2 h.2.1))]

theorem P.spec_count (v : Value) (hv : v.wt ≤ 1048576) : ∀ (most : Nat), most ≤ 60 → ∃ c : Nat, F.spec_l2Count v most = some (c : Int) ∧ 1 ≤ c ∧ c ≤ 1 + v.wt ∧ (1 + v.wt ≤ most → c = 1 + v.wt) ∧ (most < 1 + v.wt → most < c) := by
  induction v using Value.ind with
  | _ v ih =>
    intro most hm
    have hw := v.wt_eq
    have key : ∀ (m i : Nat) (n : Nat), v.kids.length - i = m → 1 ≤ n → n + ((v.kids.drop i).map fun k => 1 + k.wt).sum ≤ 1 + v.wt →
        ∃ c : Nat, F.spec_l2Count_l1 v most n i = some (c : Int) ∧ n ≤ c ∧ c ≤ n + ((v.kids.drop i).map fun k => 1 + k.wt).sum ∧ (n + ((v.kids.drop i).map fun k => 1 + k.wt).sum ≤ most → c = n + ((v.kids.drop i).map fun k => 1 + k.wt).sum) ∧ (most < n + ((v.kids.drop i).map fun k => 1 + k.wt).sum → most < c) := by
      intro m
      induction m with
      | zero =>
        intro i n hmi hn hb
        rw [F.spec_l2Count_l1, if_neg (by omega), List.drop_eq_nil_of_le (by omega)]
        exact ⟨n, rfl, by omega, by simp, by simp, by simp⟩
      | succ m ih2 =>
        intro i n hmi hn hb
        have hi : i < v.kids.length := by omega
        rw [List.drop_eq_getElem_cons hi] at hb ⊢
        simp only [List.map_cons, List.sum_cons] at hb ⊢
        rw [F.spec_l2Count_l1, if_pos hi]
        by_cases hle : n ≤ most
        · rw [if_pos (by omega), List.getElem?_eq_getElem hi]
          simp only [Option.bind_eq_bind, Option.bind_some]
          have hk : v.kids[i].wt ≤ 1048576 := by omega
          obtain ⟨c, h1, h2, h3, h4, h5⟩ := ih v.kids[i] (List.getElem_mem hi) hk (most - n) (by omega)
          rw [wrap_in (by omega) (by omega), show ((most : Int) - (n : Int)) = ((most - n : Nat) : Int) from by omega, h1]
          simp only [Option.bind_some]
          rw [wrap_in (by omega) (by omega), show ((n : Int) + (c : Int)) = ((n + c : Nat) : Int) from by omega]
          obtain ⟨c', g1, g2, g3, g4, g5⟩ := ih2 (i + 1) (n + c) (by omega) (by omega) (by omega)
          refine ⟨c', g1, by omega, by omega, fun h => ?_, fun h => ?_⟩
          · have := h4 (by omega)
            have := g4 (by omega)
            omega
          · by_cases hx : 1 + v.kids[i].wt ≤ most - n
            · have := h4 hx
              exact g5 (by omega)
            · have := h5 (by omega)
              omega
        · rw [if_neg (by omega)]
          exact ⟨n, rfl, by omega, by omega, fun h => by omega, fun h => by omega⟩
    have hs : ((v.kids.drop 0).map fun k => 1 + k.wt).sum = v.wt := by
      rw [List.drop_zero, hw]
      have : ∀ l : List Value, (l.map fun k => 1 + k.wt).sum = wtL Value.wt l := by
        intro l
        induction l with
        | nil => rfl
        | cons a r ih => simp [ih]
      exact this _
    obtain ⟨c, h1, h2, h3, h4, h5⟩ := key _ 0 1 rfl (by omega) (by omega)
    rw [hs] at h3 h4 h5
    unfold F.spec_l2Count
    have h1' : F.spec_l2Count_l1 v most (1 : Int) 0 = some (c : Int) := h1
    rw [h1']
    exact ⟨c, rfl, by omega, h3, h4, h5⟩

theorem wt_kids (v : Value) : v.wt = ((v.kids.drop 0).map fun k => 1 + k.wt).sum := by
  rw [List.drop_zero, v.wt_eq]
  have : ∀ l : List Value, (l.map fun k => 1 + k.wt).sum = wtL Value.wt l := by
    intro l
    induction l with
    | nil => rfl
    | cons a r ih => simp [ih]
  exact (this _).symm

/-- What the program's scan of a value answers. -/
def scanned (w : List Data) (holes : Bool) (d : Nat) (t : Ty) (v : Value) (count : Nat) (b : Bool) (c : Nat) : Prop :=
  (b = true ↔ pv w holes d t v ∧ count + (1 + v.wt) ≤ 60) ∧ (b = true → c = count + (1 + v.wt))

theorem P.scan_loop (w : List Data) (hw : worldOk w) (holes : Bool) (d : Nat) (hd : d + 1 ≤ 10) (v : Value) (args : List Ty) (hl : args.length = v.kids.length) (hargs : ∀ a, a ∈ args → tOk w a)
    (L : Int → Nat → Option (Lo (Bool × Int) Int))
    (hL : ∀ z i, L z i = if i < v.kids.length then v.kids[i]? >>= fun x => args[i]? >>= fun y => F.impl_valueScan w y x (IntKind.i64.wrap (((11 - (d + 1) : Nat) : Int) + 1)) holes z >>= fun r => if r.1 = true then L r.2 (i + 1) else some (.ret (false, r.2)) else some (.go z))
    (ih : ∀ (t : Ty) (x : Value) (count : Nat), tOk w t → count ≤ 60 → ∃ b c, F.impl_valueScan w t x ((11 - d : Nat) : Int) holes (count : Int) = some (b, ((c : Nat) : Int)) ∧ scanned w holes d t x count b c) :
    ∀ (m i : Nat) (z : Nat), v.kids.length - i = m → z ≤ 60 → ∃ o, L z i = some o ∧
      match o with
      | .ret (b, c) => b = false ∧ ∃ c' : Nat, c = (c' : Int) ∧ ¬ ((∀ j, i ≤ j → j < args.length → ∀ (h : j < args.length) (h' : j < v.kids.length), pv w holes d args[j] v.kids[j]) ∧ z + ((v.kids.drop i).map fun k => 1 + k.wt).sum ≤ 60)
      | .go c => c = ((z + ((v.kids.drop i).map fun k => 1 + k.wt).sum : Nat) : Int) ∧ (∀ j, i ≤ j → j < args.length → ∀ (h : j < args.length) (h' : j < v.kids.length), pv w holes d args[j] v.kids[j]) ∧ z + ((v.kids.drop i).map fun k => 1 + k.wt).sum ≤ 60 := by
  intro m
  induction m with
  | zero =>
    intro i z hm hz
    rw [hL, if_neg (by omega)]
    refine ⟨_, rfl, ?_⟩
    rw [List.drop_eq_nil_of_le (by omega)]
    exact ⟨by simp, fun j h1 h2 => by omega, by simpa using hz⟩
  | succ m ihm =>
    intro i z hm hz
    have hi : i < v.kids.length := by omega
    have hi' : i < args.length := by omega
    rw [hL, if_pos hi, List.getElem?_eq_getElem hi, List.getElem?_eq_getElem hi', List.drop_eq_getElem_cons hi]
    simp only [Option.bind_eq_bind, Option.bind_some, List.map_cons, List.sum_cons]
    rw [wrap_in (by omega) (by omega), show (((11 - (d + 1) : Nat) : Int) + 1) = ((11 - d : Nat) : Int) from by omega]
    obtain ⟨b, c, h1, h2, h3⟩ := ih args[i] v.kids[i] z (hargs _ (List.getElem_mem hi')) hz
    rw [h1]
    simp only [Option.bind_some]
    cases b with
    | true =>
      rw [if_pos rfl]
      have hc := h3 rfl
      obtain ⟨hp, hle⟩ := h2.1 rfl
      obtain ⟨o, g1, g2⟩ := ihm (i + 1) c (by omega) (by omega)
      refine ⟨o, g1, ?_⟩
      cases o with
      | ret r =>
        obtain ⟨b', c'⟩ := r
        obtain ⟨q1, c2, q2, q3⟩ := g2
        exact ⟨q1, c2, q2, fun hh => q3 ⟨fun j a b e f => hh.1 j (by omega) b e f, by omega⟩⟩
      | go r =>
        obtain ⟨q1, q2, q3⟩ := g2
        refine ⟨by rw [q1]; congr 1; omega, fun j a b e f => ?_, by omega⟩
        by_cases hj : i = j
        · subst hj; exact hp
        · exact q2 j (by omega) b e f
    | false =>
      rw [if_neg (by simp)]
      refine ⟨_, rfl, rfl, c, rfl, fun hh => ?_⟩
      have := h2.2 ⟨hh.1 i (Nat.le_refl _) hi' hi' hi, by omega⟩
      cases this

theorem P.valueScan (w : List Data) (hw : worldOk w) (holes : Bool) : ∀ (d : Nat) (t : Ty) (v : Value) (count : Nat), d ≤ 10 → tOk w t → count ≤ 60 →
    ∃ b c, F.impl_valueScan w t v ((11 - d : Nat) : Int) holes (count : Int) = some (b, ((c : Nat) : Int)) ∧ scanned w holes d t v count b c
  | d, t, v, count, hd, ht, hc => by
    have e1 : IntKind.i64.wrap ((count : Int) + 1) = ((count + 1 : Nat) : Int) := by rw [wrap_in (by omega) (by omega)]; omega
    have no : ∀ (h : ¬ (pv w holes d t v ∧ count + (1 + v.wt) ≤ 60)), ∃ b c, (some (false, ((count + 1 : Nat) : Int)) : Option (Bool × Int)) = some (b, ((c : Nat) : Int)) ∧ scanned w holes d t v count b c :=
      fun h => ⟨false, count + 1, rfl, ⟨fun h => (by cases h), fun hh => absurd hh h⟩, fun h => by cases h⟩
    rw [F.impl_valueScan, e1]
    by_cases h60 : (60 : Int) < ((count + 1 : Nat) : Int)
    · rw [if_pos h60]; exact no fun h => by omega
    rw [if_neg h60]
    match d, hd with
    | 0, _ =>
      rw [if_pos (by omega)]
      exact no fun h => h.1.elim
    | d + 1, hd =>
      rw [if_neg (by omega)]
      -- a value without kids
      have leaf : v.kids.length = 0 → v.wt = 0 := by
        intro h
        rw [v.wt_eq, List.length_eq_zero_iff.1 h]; rfl
      have yes : ∀ (p : Prop) [Decidable p], (p → pv w holes (d + 1) t v ∧ v.wt = 0) → (pv w holes (d + 1) t v → p) →
          ∃ b c, (some (decide p, ((count + 1 : Nat) : Int)) : Option (Bool × Int)) = some (b, ((c : Nat) : Int)) ∧ scanned w holes (d + 1) t v count b c := by
        intro p _ h1 h2
        refine ⟨decide p, count + 1, rfl, ⟨fun h => ?_, fun h => by simpa using h2 h.1⟩, fun h => ?_⟩
        · have := h1 (by simpa using h); exact ⟨this.1, by omega⟩
        · have := h1 (by simpa using h); omega
      have ints : t.data = -1 → ¬ (holes = true ∧ v.ctor = -2) →
          ∃ b c, (if v.ctor = -1 then (F.impl_within v.n 0 9) >>= fun r => if r = true then some (decide (v.kids.length = 0), ((count + 1 : Nat) : Int)) else some (false, ((count + 1 : Nat) : Int)) else some (false, ((count + 1 : Nat) : Int))) = some (b, ((c : Nat) : Int)) ∧ scanned w holes (d + 1) t v count b c := by
        intro h1 hno
        by_cases a1 : v.ctor = -1
        · rw [if_pos a1, P.within]
          simp only [Option.bind_eq_bind, Option.bind_some]
          by_cases a2 : 0 ≤ v.n ∧ v.n ≤ 9
          · rw [if_pos (dec_of a2)]
            exact yes _ (fun h => ⟨.inr ⟨hno, .inl ⟨h1, a1, a2.1, a2.2, h⟩⟩, leaf h⟩) (fun h => h.elim (fun h => h.2.2.2) (fun h => h.2.elim (fun h => h.2.2.2.2) (fun h => absurd h1 h.1)))
          · rw [if_neg (by rw [dec_not a2]; simp)]
            exact no fun h => h.1.elim (fun h => hno ⟨h.1, h.2.1⟩) (fun h => h.2.elim (fun h => a2 ⟨h.2.2.1, h.2.2.2.1⟩) (fun h => h.1 h1))
        · rw [if_neg a1]
          exact no fun h => h.1.elim (fun h => hno ⟨h.1, h.2.1⟩) (fun h => h.2.elim (fun h => a1 h.2.1) (fun h => h.1 h1))
      -- a value with a constructor
      have ctors : ∀ (L : List Ty → Int → Nat → Option (Lo (Bool × Int) Int)), (∀ a z i, L a z i = if i < v.kids.length then v.kids[i]? >>= fun x => a[i]? >>= fun y => F.impl_valueScan w y x (IntKind.i64.wrap (((11 - (d + 1) : Nat) : Int) + 1)) holes z >>= fun r => if r.1 = true then L a r.2 (i + 1) else some (.ret (false, r.2)) else some (.go z)) →
          ¬ (holes = true ∧ v.ctor = -2) → t.data ≠ -1 →
          ∃ b c, (if v.n = 0 then (F.impl_ctorsOf w t) >>= fun x => (F.slices_Contains_int x v.ctor) >>= fun y => if y = true then (F.impl_argTypes w t v.ctor) >>= fun a => if a.length = v.kids.length then (L a ((count + 1 : Nat) : Int) 0) >>= fun o => match o with | .ret r => some r | .go s => some (true, s) else some (false, ((count + 1 : Nat) : Int)) else some (false, ((count + 1 : Nat) : Int)) else some (false, ((count + 1 : Nat) : Int))) = some (b, ((c : Nat) : Int)) ∧ scanned w holes (d + 1) t v count b c := by
        intro L hL hno h1
        by_cases h2 : v.n = 0
        · rw [if_pos h2, P.impl_ctorsOf w hw t ht]
          simp only [Option.bind_eq_bind, Option.bind_some]
          rw [P.slices_Contains_int]
          simp only [Option.bind_some]
          by_cases h3 : v.ctor ∈ ctorList w t
          · rw [if_pos (dec_of h3), P.impl_argTypes w hw t ht _ h3]
            simp only [Option.bind_some]
            by_cases h4 : (argList w t v.ctor).length = v.kids.length
            · rw [if_pos h4]
              obtain ⟨o, g1, g2⟩ := P.scan_loop w hw holes d hd v (argList w t v.ctor) h4 (arg_tOk hw ht h3).2 (L (argList w t v.ctor)) (hL _) (fun t x c ht hc => P.valueScan w hw holes d t x c (by omega) ht hc) _ 0 (count + 1) rfl (by omega)
              rw [g1]
              simp only [Option.bind_some]
              have hwt := wt_kids v
              cases o with
              | ret r =>
                obtain ⟨b, c⟩ := r
                obtain ⟨rfl, c', rfl, q3⟩ := g2
                refine ⟨false, c', rfl, ⟨fun h => (by cases h), fun hh => absurd ⟨?_, ?_⟩ q3⟩, fun h => by cases h⟩
                · exact hh.1.elim (fun h => absurd ⟨h.1, h.2.1⟩ hno) (fun h => h.2.elim (fun h => absurd h.1 h1) (fun h => h.2.2.2.2))
                · have := hh.2; omega
              | go c =>
                obtain ⟨rfl, q2, q3⟩ := g2
                exact ⟨true, _, rfl, ⟨fun _ => ⟨.inr ⟨hno, .inr ⟨h1, h2, h3, h4.symm, q2⟩⟩, by omega⟩, fun _ => rfl⟩, fun _ => by omega⟩
            · rw [if_neg h4]
              exact no fun h => h.1.elim (fun h => hno ⟨h.1, h.2.1⟩) (fun h => h.2.elim (fun h => h1 h.1) (fun h => h4 h.2.2.2.1.symm))
          · rw [if_neg (by rw [dec_not h3]; simp)]
            exact no fun h => h.1.elim (fun h => hno ⟨h.1, h.2.1⟩) (fun h => h.2.elim (fun h => h1 h.1) (fun h => h3 h.2.2.1))
        · rw [if_neg h2]
          exact no fun h => h.1.elim (fun h => hno ⟨h.1, h.2.1⟩) (fun h => h.2.elim (fun h => h1 h.1) (fun h => h2 h.2.1))
      by_cases hh : holes = true
      · rw [if_pos hh]
        by_cases h0 : v.ctor = -2
        · rw [if_pos h0]
          by_cases hn : v.n = 0
          · rw [if_pos hn]
            exact yes _ (fun h => ⟨.inl ⟨hh, h0, hn, h⟩, leaf h⟩) (fun h => h.elim (fun h => h.2.2.2) (fun h => absurd ⟨hh, h0⟩ h.1))
          · rw [if_neg hn]
            exact no fun h => h.1.elim (fun h => hn h.2.2.1) (fun h => h.1 ⟨hh, h0⟩)
        rw [if_neg h0]
        have hno : ¬ (holes = true ∧ v.ctor = -2) := fun h => h0 h.2
        by_cases h1 : t.data = -1
        · rw [if_pos h1]; exact ints h1 hno
        · rw [if_neg h1]
          exact ctors (fun a => F.impl_valueScan_l1 w v ((11 - (d + 1) : Nat) : Int) holes a) (fun a z i => by
            show F.impl_valueScan_l1 w v ((11 - (d + 1) : Nat) : Int) holes a z i = _
            rw [F.impl_valueScan_l1]) hno h1
      · rw [if_neg hh]
        have hno : ¬ (holes = true ∧ v.ctor = -2) := fun h => hh h.1
        by_cases h1 : t.data = -1
        · rw [if_pos h1]; exact ints h1 hno
        · rw [if_neg h1]
          exact ctors (fun a => F.impl_valueScan_l2 w v ((11 - (d + 1) : Nat) : Int) holes a) (fun a z i => by
            show F.impl_valueScan_l2 w v ((11 - (d + 1) : Nat) : Int) holes a z i = _
            rw [F.impl_valueScan_l2]) hno h1
termination_by d => d
end Go.Vl
