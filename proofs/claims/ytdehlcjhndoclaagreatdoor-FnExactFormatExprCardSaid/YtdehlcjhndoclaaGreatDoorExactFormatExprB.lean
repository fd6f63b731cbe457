/- Plain laws that this one rests on (printed by gen_l.py). -/
import Derived.Test.YtdehlcjhndoclaaGreatDoorExactFormatExprP
import Derived.Test.YtdehlcjhndoclaaGreatDoorVlQ
set_option linter.unusedSimpArgs false
set_option linter.unusedVariables false
set_option maxRecDepth 100000
namespace Go.Vl
open Go Go.RowKit

/-- The place of the first that is so. -/
noncomputable def fixN {α : Type} (p : α → Prop) : Nat → List α → Option Nat
  | _, [] => none
  | k, x :: r => if dec (p x) = true then some k else fixN p (k + 1) r
theorem fixN_some {α : Type} {p : α → Prop} : ∀ {l : List α} {k j : Nat}, fixN p k l = some j → k ≤ j ∧ ∃ h : j - k < l.length, p l[j - k] ∧ ∀ i (hi : i < l.length), i < j - k → ¬ p l[i]
  | x :: r, k, j, h => by
    simp only [fixN] at h
    split at h
    · next hp =>
      obtain rfl := Option.some.inj h
      refine ⟨Nat.le_refl _, by simp, ?_, fun i _ hi => by omega⟩
      simpa using dec_iff.1 hp
    · next hp =>
      obtain ⟨h1, h2, h3, h4⟩ := fixN_some h
      have e : j - k = (j - (k + 1)) + 1 := by omega
      refine ⟨by omega, by simp; omega, ?_, fun i hi hlt => ?_⟩
      · simp only [e, List.getElem_cons_succ]; exact h3
      · cases i with
        | zero => exact fun hq => hp (dec_of hq)
        | succ i => exact h4 i (by simpa using hi) (by omega)
theorem fixN_none {α : Type} {p : α → Prop} : ∀ {l : List α} {k : Nat}, fixN p k l = none → ∀ x, x ∈ l → ¬ p x
  | [], _, _ => fun x hx => by cases hx
  | x :: r, k, h => by
    simp only [fixN] at h
    split at h
    · cases h
    · next hp =>
      intro y hy
      rcases List.mem_cons.1 hy with rfl | hy
      · exact fun hq => hp (dec_of hq)
      · exact fixN_none h y hy
theorem findG {α : Type} {a : List α} {p : α → Prop} {L : Nat → Option (Lo Int Unit)} (h0 : ∀ k, a.length ≤ k → L k = some (.go ())) (h1 : ∀ k (h : k < a.length), ¬ p a[k] → L k = L (k + 1))
    (h2 : ∀ k (h : k < a.length), p a[k] → L k = some (.ret (k : Int))) : ∀ (m k : Nat), a.length - k = m → L k = some (match fixN p k (a.drop k) with | some j => .ret (j : Int) | none => .go ()) := by
  intro m
  induction m with
  | zero => intro k hm; rw [h0 k (by omega), List.drop_eq_nil_of_le (by omega)]; rfl
  | succ m ih =>
    intro k hm
    have hk : k < a.length := by omega
    rw [List.drop_eq_getElem_cons hk]
    by_cases hp : p a[k]
    · rw [h2 k hk hp]; simp only [fixN]; rw [if_pos (dec_of hp)]
    · rw [h1 k hk hp, ih (k + 1) (by omega)]; simp only [fixN]; rw [if_neg (by rw [dec_not hp]; simp)]
def bigC (c : Nat) : Prop := 65 ≤ c ∧ c ≤ 90
def dataName (s : ByteArray) : Prop := s.size = 1 ∧ bigC (byteAt s 0) ∧ s ≠ ⟨#[73]⟩
def nameOk (s : ByteArray) : Prop := 1 ≤ s.size ∧ s.size ≤ 5 ∧ bigC (byteAt s 0) ∧ ∀ i, 1 ≤ i → i < s.size → 97 ≤ byteAt s i ∧ byteAt s i ≤ 122
def argOk (n : Nat) (t : Ty) : Prop := (t.data = -1 ∧ t.index = 0) ∨ (0 ≤ t.data ∧ t.data < n ∧ -1 ≤ t.index ∧ t.index ≤ 3)
def ctorOk (n : Nat) (c : Ctor) : Prop := nameOk c.name ∧ c.args.length ≤ 3 ∧ 0 ≤ c.index ∧ c.index ≤ 3 ∧ ∀ j, 0 ≤ j → (h : j < c.args.length) → argOk n c.args[j]
theorem P.spec_l1Big (c : Nat) : F.spec_l1Big c = some (dec (bigC c)) := by
  unfold F.spec_l1Big
  by_cases h : 65 ≤ (c : Int)
  · rw [if_pos h]; congr 1; rw [← dec_eq]; exact dec_congr ⟨fun h' => ⟨by omega, by omega⟩, fun h' => by have := h'.2; omega⟩
  · rw [if_neg h, dec_not fun h' => h (by have := h'.1; omega)]
theorem P.spec_l1Data (s : ByteArray) : F.spec_l1Data s = some (dec (dataName s)) := by
  unfold F.spec_l1Data
  by_cases h : s.size = 1
  · rw [if_pos h, if_pos (by omega), P.spec_l1Big]
    simp only [Option.bind_eq_bind, Option.bind_some]
    by_cases hb : bigC (byteAt s 0)
    · rw [if_pos (dec_of hb)]; congr 1; rw [← dec_eq]; exact dec_congr ⟨fun h' => ⟨h, hb, fun e => h' (by rw [e])⟩, fun h' e => h'.2.2 (bytes_eq.1 e)⟩
    · rw [if_neg (by rw [dec_not hb]; simp), dec_not fun h' => hb h'.2.1]
  · rw [if_neg h, dec_not fun h' => h h'.1]
theorem P.spec_name_l1 (s : ByteArray) (hs : s.size ≤ 1048576) : F.spec_NameValid_l1 s 1 = some (if dec (∀ i, 1 ≤ i → i < s.size → 97 ≤ byteAt s i ∧ byteAt s i ≤ 122) = true then .go () else .ret false) := by
  refine allN (L := F.spec_NameValid_l1 s) (fun k hk => ?_) (fun k hk hq => ?_) (fun k hk hq => ?_) _ 1 rfl
  · rw [F.spec_NameValid_l1, if_neg (by omega)]
  · rw [F.spec_NameValid_l1, if_pos hk, if_neg (by omega), if_neg (by omega), if_pos (by omega)]
  · rw [F.spec_NameValid_l1, if_pos hk]
    by_cases h : byteAt s k < 97
    · rw [if_pos h]
    · rw [if_neg h, if_pos (by omega)]
theorem P.impl_name_l1 (s : ByteArray) (hs : s.size ≤ 1048576) : F.impl_NameValid_l1 s 1 = some (if dec (∀ i, 1 ≤ i → i < s.size → 97 ≤ byteAt s i ∧ byteAt s i ≤ 122) = true then .go () else .ret false) := by
  refine allN (L := F.impl_NameValid_l1 s) (fun k hk => ?_) (fun k hk hq => ?_) (fun k hk hq => ?_) _ 1 rfl
  · rw [F.impl_NameValid_l1, if_neg (by omega)]
  · rw [F.impl_NameValid_l1, if_pos hk, if_neg (by omega), if_neg (by omega), if_pos (by omega)]
  · rw [F.impl_NameValid_l1, if_pos hk]
    by_cases h : byteAt s k < 97
    · rw [if_pos h]
    · rw [if_neg h, if_pos (by omega)]
theorem P.spec_NameValid (s : ByteArray) (hs : s.size ≤ 1048576) : F.spec_NameValid s = some (dec (nameOk s)) := by
  unfold F.spec_NameValid
  by_cases h0 : s.size = 0
  · rw [if_pos h0, dec_not fun h => by have := h.1; omega]
  by_cases h5 : 5 < s.size
  · rw [if_neg h0, if_pos h5, dec_not fun h => by have := h.2.1; omega]
  rw [if_neg h0, if_neg h5, if_pos (by omega), P.spec_l1Big]
  simp only [Option.bind_eq_bind, Option.bind_some]
  by_cases hb : bigC (byteAt s 0)
  · rw [if_pos (dec_of hb), P.spec_name_l1 s hs]
    simp only [Option.bind_some]
    by_cases hall : ∀ i, 1 ≤ i → i < s.size → 97 ≤ byteAt s i ∧ byteAt s i ≤ 122
    · rw [if_pos (dec_of hall), dec_of ⟨by omega, by omega, hb, hall⟩]
    · rw [if_neg (by rw [dec_not hall]; simp), dec_not fun h => hall h.2.2.2]
  · rw [if_neg (by rw [dec_not hb]; simp), dec_not fun h => hb h.2.2.1]
theorem P.within (n low high : Int) : F.impl_within n low high = some (dec (low ≤ n ∧ n ≤ high)) := by
  unfold F.impl_within
  by_cases h : low ≤ n
  · rw [if_pos h]; congr 1; rw [← dec_eq]; exact dec_congr ⟨fun h' => ⟨h, h'⟩, fun h' => h'.2⟩
  · rw [if_neg h, dec_not fun h' => h h'.1]
theorem P.impl_NameValid (s : ByteArray) (hs : s.size ≤ 1048576) : F.impl_NameValid s = some (dec (nameOk s)) := by
  unfold F.impl_NameValid
  rw [P.within]
  simp only [Option.bind_eq_bind, Option.bind_some]
  by_cases h0 : 1 ≤ (s.size : Int) ∧ (s.size : Int) ≤ 5
  · rw [if_pos (dec_of h0), if_pos (by omega)]
    by_cases a1 : byteAt s 0 < 65
    · rw [if_pos a1, dec_not fun h => by have := h.2.2.1.1; omega]
    by_cases a2 : 90 < byteAt s 0
    · rw [if_neg a1, if_pos a2, dec_not fun h => by have := h.2.2.1.2; omega]
    rw [if_neg a1, if_neg a2, P.impl_name_l1 s hs]
    simp only [Option.bind_some]
    by_cases hall : ∀ i, 1 ≤ i → i < s.size → 97 ≤ byteAt s i ∧ byteAt s i ≤ 122
    · rw [if_pos (dec_of hall), dec_of ⟨by omega, by omega, ⟨by omega, by omega⟩, hall⟩]
    · rw [if_neg (by rw [dec_not hall]; simp), dec_not fun h => hall h.2.2.2]
  · rw [if_neg (by rw [dec_not h0]; simp), dec_not fun h => h0 ⟨by have := h.1; omega, by have := h.2.1; omega⟩]
theorem P.spec_l1Arg (n : Nat) (t : Ty) : F.spec_l1Arg n t = some (dec (argOk n t)) := by
  unfold F.spec_l1Arg
  by_cases h : t.data = -1
  · rw [if_pos h]; congr 1; rw [← dec_eq]; exact dec_congr ⟨fun h' => .inl ⟨h, h'⟩, fun h' => h'.elim (·.2) (fun h' => by have := h'.1; omega)⟩
  rw [if_neg h]
  by_cases h1 : 0 ≤ t.data
  · by_cases h2 : t.data < n
    · by_cases h3 : -1 ≤ t.index
      · rw [if_pos h1, if_pos h2, if_pos h3]; congr 1; rw [← dec_eq]; exact dec_congr ⟨fun h' => .inr ⟨h1, h2, h3, h'⟩, fun h' => h'.elim (fun h' => absurd h'.1 h) (fun h' => h'.2.2.2)⟩
      · rw [if_pos h1, if_pos h2, if_neg h3, dec_not fun h' => h'.elim (fun h' => h h'.1) (fun h' => h3 h'.2.2.1)]
    · rw [if_pos h1, if_neg h2, dec_not fun h' => h'.elim (fun h' => h h'.1) (fun h' => h2 h'.2.1)]
  · rw [if_neg h1, dec_not fun h' => h'.elim (fun h' => h h'.1) (fun h' => h1 h'.1)]
theorem P.impl_argOk (w : List Data) (t : Ty) (hw : w.length ≤ 1048576) : F.impl_argOk w t = some (dec (argOk w.length t)) := by
  unfold F.impl_argOk
  by_cases h : eq2 (t.data, t.index) (-1, 0)
  · rw [if_pos (dec_of h), dec_of (.inl h)]
  rw [if_neg (by rw [dec_not h]; simp), P.within, wrap_in (by omega) (by omega)]
  simp only [Option.bind_eq_bind, Option.bind_some]
  by_cases h1 : 0 ≤ t.data ∧ t.data ≤ (w.length : Int) - 1
  · rw [if_pos (dec_of h1), P.within]
    simp only [Option.bind_some]
    congr 1; exact dec_congr ⟨fun h' => .inr ⟨h1.1, by omega, h'.1, h'.2⟩, fun h' => h'.elim (fun h' => absurd h' h) (fun h' => h'.2.2)⟩
  · rw [if_neg (by rw [dec_not h1]; simp), dec_not fun h' => h'.elim (fun h' => h h') (fun h' => h1 ⟨h'.1, by have := h'.2.1; omega⟩)]
theorem P.spec_l1Ctor (n : Nat) (c : Ctor) (hs : c.name.size ≤ 1048576) : F.spec_l1Ctor n c = some (dec (ctorOk n c)) := by
  unfold F.spec_l1Ctor
  rw [P.spec_NameValid _ hs]
  simp only [Option.bind_eq_bind, Option.bind_some]
  by_cases h1 : nameOk c.name
  · rw [if_pos (dec_of h1)]
    by_cases h2 : 3 < c.args.length
    · rw [if_pos h2, dec_not fun h => by have := h.2.1; omega]
    by_cases h3 : c.index < 0
    · rw [if_neg h2, if_pos h3, dec_not fun h => by have := h.2.2.1; omega]
    by_cases h4 : 3 < c.index
    · rw [if_neg h2, if_neg h3, if_pos h4, dec_not fun h => by have := h.2.2.2.1; omega]
    rw [if_neg h2, if_neg h3, if_neg h4]
    have key : F.spec_l1Ctor_l1 n c 0 = some (if dec (∀ j, 0 ≤ j → j < c.args.length → ∀ h : j < c.args.length, argOk n c.args[j]) = true then .go () else .ret false) := by
      refine allN (n := c.args.length) (Q := fun j => ∀ h : j < c.args.length, argOk n c.args[j]) (L := F.spec_l1Ctor_l1 n c) (fun k hk => ?_) (fun k hk hq => ?_) (fun k hk hq => ?_) _ 0 rfl
      · rw [F.spec_l1Ctor_l1, if_neg (by omega)]
      · rw [F.spec_l1Ctor_l1, if_pos hk, List.getElem?_eq_getElem hk]
        simp only [Option.bind_eq_bind, Option.bind_some]
        rw [P.spec_l1Arg]
        simp only [Option.bind_some]
        rw [if_pos (dec_of (hq hk))]
      · rw [F.spec_l1Ctor_l1, if_pos hk, List.getElem?_eq_getElem hk]
        simp only [Option.bind_eq_bind, Option.bind_some]
        rw [P.spec_l1Arg]
        simp only [Option.bind_some]
        rw [if_neg (by rw [dec_not fun h => hq fun _ => h]; simp)]
    rw [key]
    simp only [Option.bind_some]
    by_cases hall : ∀ j, 0 ≤ j → j < c.args.length → ∀ h : j < c.args.length, argOk n c.args[j]
    · rw [if_pos (dec_of hall), dec_of ⟨h1, by omega, by omega, by omega, fun j h0 hj => hall j h0 hj hj⟩]
    · rw [if_neg (by rw [dec_not hall]; simp), dec_not fun h => hall fun j h0 _ hj => h.2.2.2.2 j h0 hj]
  · rw [if_neg (by rw [dec_not h1]; simp), dec_not fun h => h1 h.1]
theorem P.impl_ctorOk_1 (t : Ty) (w : List Data) (hw : w.length ≤ 1048576) : F.impl_ctorOk_1 t w = some (!dec (argOk w.length t)) := by
  unfold F.impl_ctorOk_1
  rw [P.impl_argOk w t hw]; rfl
theorem P.args_index (w : List Data) (hw : w.length ≤ 1048576) (s : List Ty) : ∃ v, F.slices_IndexFunc_Type__impl_ctorOk_1 s w = some v ∧ (0 ≤ v ↔ ¬ ∀ j, 0 ≤ j → (h : j < s.length) → argOk w.length s[j]) := by
  unfold F.slices_IndexFunc_Type__impl_ctorOk_1
  have key : ∀ (m k : Nat), s.length - k = m → ∃ r, F.slices_IndexFunc_Type__impl_ctorOk_1_l1 s w k = some r ∧
      match r with | .ret j => 0 ≤ j ∧ ¬ ∀ j, k ≤ j → (h : j < s.length) → argOk w.length s[j] | .go _ => ∀ j, k ≤ j → (h : j < s.length) → argOk w.length s[j] := by
    intro m
    induction m with
    | zero =>
      intro k hm
      rw [F.slices_IndexFunc_Type__impl_ctorOk_1_l1, if_neg (by omega)]
      exact ⟨_, rfl, fun j hj h => by omega⟩
    | succ m ih =>
      intro k hm
      have hk : k < s.length := by omega
      rw [F.slices_IndexFunc_Type__impl_ctorOk_1_l1, if_pos hk, List.getElem?_eq_getElem hk]
      simp only [Option.bind_eq_bind, Option.bind_some]
      rw [P.impl_ctorOk_1 _ _ hw]
      simp only [Option.bind_some]
      by_cases h : argOk w.length s[k]
      · rw [if_neg (by rw [dec_of h]; simp)]
        obtain ⟨r, hr, hx⟩ := ih (k + 1) (by omega)
        refine ⟨r, hr, ?_⟩
        cases r with
        | ret j => exact ⟨hx.1, fun hh => hx.2 fun j hj hl => hh j (by omega) hl⟩
        | go _ =>
          intro j hj hl
          by_cases e : k = j
          · subst e; exact h
          · exact hx j (by omega) hl
      · rw [if_pos (by rw [dec_not h]; simp)]
        exact ⟨_, rfl, by omega, fun hh => h (hh k (Nat.le_refl _) hk)⟩
  obtain ⟨r, hr, hx⟩ := key _ 0 rfl
  rw [hr]
  cases r with
  | ret j => exact ⟨j, rfl, fun _ => hx.2, fun _ => hx.1⟩
  | go _ => exact ⟨-1, rfl, fun h => by omega, fun h => absurd hx h⟩
theorem P.impl_ctorOk (w : List Data) (c : Ctor) (hw : w.length ≤ 1048576) (hs : c.name.size ≤ 1048576) : F.impl_ctorOk w c = some (dec (ctorOk w.length c)) := by
  unfold F.impl_ctorOk
  rw [P.impl_NameValid _ hs]
  simp only [Option.bind_eq_bind, Option.bind_some]
  by_cases h1 : nameOk c.name
  · rw [if_pos (dec_of h1)]
    by_cases h2 : c.args.length ≤ 3
    · rw [if_pos h2, P.within]
      simp only [Option.bind_some]
      by_cases h3 : 0 ≤ c.index ∧ c.index ≤ 3
      · rw [if_pos (dec_of h3)]
        unfold F.slices_ContainsFunc_Type__impl_ctorOk_1
        obtain ⟨v, hv, hx⟩ := P.args_index w hw c.args
        rw [hv]
        simp only [Option.bind_eq_bind, Option.bind_some]
        by_cases hall : ∀ j, 0 ≤ j → (h : j < c.args.length) → argOk w.length c.args[j]
        · have : ¬ 0 ≤ v := fun h => (hx.1 h) hall
          rw [dec_of ⟨h1, h2, h3.1, h3.2, hall⟩]; simp [this]
        · have : 0 ≤ v := hx.2 hall
          rw [dec_not fun h => hall h.2.2.2.2]; simp [this]
      · rw [if_neg (by rw [dec_not h3]; simp), dec_not fun h => h3 ⟨h.2.2.1, h.2.2.2.1⟩]
    · rw [if_neg h2, dec_not fun h => h2 h.2.1]
  · rw [if_neg (by rw [dec_not h1]; simp), dec_not fun h => h1 h.1]
abbrev cnames (d : Data) : List ByteArray := d.ctors.map (·.name)
/-- What is asked of the k-th constructor of the i-th type. -/
structure ctorAt (w : List Data) (i : Nat) (d : Data) (k : Nat) (c : Ctor) : Prop where
  ok : ctorOk w.length c
  new : c.name ∉ (w.take i).flatMap cnames ++ (d.ctors.take k).map (·.name)
structure dataAt (w : List Data) (i : Nat) (d : Data) : Prop where
  name : dataName d.name
  new : d.name ∉ (w.take i).map (·.name)
  some : 1 ≤ d.ctors.length
  few : d.ctors.length ≤ 4
  ctors : ∀ k, 0 ≤ k → k < d.ctors.length → ∀ h : k < d.ctors.length, ctorAt w i d k d.ctors[k]
def worldOk (w : List Data) : Prop := w.length ≤ 4 ∧ ∀ i, 0 ≤ i → i < w.length → ∀ h : i < w.length, dataAt w i w[i]
def smallW (w : List Data) : Prop := w.length ≤ 1048576 ∧ ∀ d, d ∈ w → ∀ c, c ∈ d.ctors → c.name.size ≤ 1048576
theorem P.impl_world_l2 (w : List Data) (hw : smallW w) (met4 : List ByteArray) (i : Nat) (hi : i < w.length) : F.impl_WorldValid_l2 w met4 i w[i] ((w.take i).flatMap cnames) 0 =
    some (if dec (∀ k, 0 ≤ k → k < w[i].ctors.length → ∀ h : k < w[i].ctors.length, ctorAt w i w[i] k w[i].ctors[k]) = true then .go ((w.take i).flatMap cnames ++ cnames w[i]) else .ret false) := by
  have key := allG (n := w[i].ctors.length) (r := false) (p := (w.take i).flatMap cnames ++ cnames w[i]) (Q := fun k => ∀ h : k < w[i].ctors.length, ctorAt w i w[i] k w[i].ctors[k]) (L := fun k => F.impl_WorldValid_l2 w met4 i w[i] ((w.take i).flatMap cnames ++ (w[i].ctors.take k).map (·.name)) k)
    (fun k hk => by
      show F.impl_WorldValid_l2 w met4 i w[i] ((w.take i).flatMap cnames ++ (w[i].ctors.take k).map (·.name)) k = _
      rw [F.impl_WorldValid_l2, if_neg (by omega), List.take_of_length_le hk])
    (fun k hk hq => by
      show F.impl_WorldValid_l2 w met4 i w[i] ((w.take i).flatMap cnames ++ (w[i].ctors.take k).map (·.name)) k = F.impl_WorldValid_l2 w met4 i w[i] ((w.take i).flatMap cnames ++ (w[i].ctors.take (k + 1)).map (·.name)) (k + 1)
      have hc := hq hk
      rw [F.impl_WorldValid_l2, if_pos hk, List.getElem?_eq_getElem hk]
      simp only [Option.bind_eq_bind, Option.bind_some]
      rw [P.impl_ctorOk w _ hw.1 (hw.2 _ (List.getElem_mem hi) _ (List.getElem_mem hk))]
      simp only [Option.bind_some]
      rw [if_pos (dec_of hc.ok), if_neg (by rw [dec_not hc.new]; simp), msIns, if_neg (by rw [dec_not hc.new]; simp), take_map_succ hk, List.append_assoc])
    (fun k hk hq => by
      show F.impl_WorldValid_l2 w met4 i w[i] ((w.take i).flatMap cnames ++ (w[i].ctors.take k).map (·.name)) k = _
      rw [F.impl_WorldValid_l2, if_pos hk, List.getElem?_eq_getElem hk]
      simp only [Option.bind_eq_bind, Option.bind_some]
      rw [P.impl_ctorOk w _ hw.1 (hw.2 _ (List.getElem_mem hi) _ (List.getElem_mem hk))]
      simp only [Option.bind_some]
      by_cases h1 : ctorOk w.length w[i].ctors[k]
      · rw [if_pos (dec_of h1), if_pos (dec_of ?_)]
        apply Classical.byContradiction
        intro h2
        exact hq fun _ => ⟨h1, h2⟩
      · rw [if_neg (by rw [dec_not h1]; simp)]) _ 0 rfl
  simpa using key
theorem P.impl_world_l1 (w : List Data) (hw : smallW w) : F.impl_WorldValid_l1 w [] [] 0 = some (if dec (∀ i, 0 ≤ i → i < w.length → ∀ h : i < w.length, dataAt w i w[i]) = true then .go (w.flatMap cnames, w.map (·.name)) else .ret false) := by
  have key := allG (n := w.length) (r := false) (p := (w.flatMap cnames, w.map (·.name))) (Q := fun i => ∀ h : i < w.length, dataAt w i w[i]) (L := fun i => F.impl_WorldValid_l1 w ((w.take i).flatMap cnames) ((w.take i).map (·.name)) i)
    (fun i hi => by
      show F.impl_WorldValid_l1 w ((w.take i).flatMap cnames) ((w.take i).map (·.name)) i = _
      rw [F.impl_WorldValid_l1, if_neg (by omega), List.take_of_length_le hi])
    (fun i hi hq => by
      show F.impl_WorldValid_l1 w ((w.take i).flatMap cnames) ((w.take i).map (·.name)) i = F.impl_WorldValid_l1 w ((w.take (i + 1)).flatMap cnames) ((w.take (i + 1)).map (·.name)) (i + 1)
      have hd := hq hi
      have hn := hd.name
      have hbig := hn.2.1
      unfold bigC at hbig
      have := hw.1
      rw [F.impl_WorldValid_l1, if_pos hi, List.getElem?_eq_getElem hi]
      simp only [Option.bind_eq_bind, Option.bind_some]
      have := hd.some; have := hd.few
      rw [if_pos hn.1, if_pos (by have := hn.1; omega), if_neg (by omega), if_neg (by omega), if_neg (fun h => hn.2.2 (bytes_eq.1 h)), if_neg (by rw [dec_not hd.new]; simp), P.within]
      simp only [Option.bind_some]
      rw [if_pos (dec_of (by omega)), P.impl_world_l2 w hw _ i hi, if_pos (dec_of hd.ctors)]
      simp only [Option.bind_some]
      rw [if_pos (by omega), msIns, if_neg (by rw [dec_not hd.new]; simp), take_map_succ hi, take_flatMap_succ hi])
    (fun i hi hq => by
      show F.impl_WorldValid_l1 w ((w.take i).flatMap cnames) ((w.take i).map (·.name)) i = _
      have := hw.1
      rw [F.impl_WorldValid_l1, if_pos hi, List.getElem?_eq_getElem hi]
      simp only [Option.bind_eq_bind, Option.bind_some]
      by_cases h1 : w[i].name.size = 1
      · rw [if_pos h1, if_pos (by omega)]
        by_cases h2 : byteAt w[i].name 0 < 65
        · rw [if_pos h2]
        by_cases h3 : 90 < byteAt w[i].name 0
        · rw [if_neg h2, if_pos h3]
        by_cases h4 : w[i].name.toList = (⟨#[73]⟩ : ByteArray).toList
        · rw [if_neg h2, if_neg h3, if_pos h4]
        by_cases h5 : w[i].name ∈ (w.take i).map (·.name)
        · rw [if_neg h2, if_neg h3, if_neg h4, if_pos (dec_of h5)]
        rw [if_neg h2, if_neg h3, if_neg h4, if_neg (by rw [dec_not h5]; simp), P.within]
        simp only [Option.bind_some]
        by_cases h6 : 1 ≤ (w[i].ctors.length : Int) ∧ (w[i].ctors.length : Int) ≤ 4
        · rw [if_pos (dec_of h6), P.impl_world_l2 w hw _ i hi, if_neg (by
            rw [dec_not fun hh => hq fun _ => ⟨⟨h1, ⟨by omega, by omega⟩, fun e => h4 (by rw [e])⟩, h5, by omega, by omega, hh⟩]; simp)]
          rfl
        · rw [if_neg (by rw [dec_not h6]; simp)]
      · rw [if_neg h1]) _ 0 rfl
  simpa using key
theorem P.impl_WorldValid (w : List Data) (hw : smallW w) : F.impl_WorldValid w = some (dec (worldOk w)) := by
  unfold F.impl_WorldValid
  by_cases h : 4 < w.length
  · rw [if_pos h, dec_not fun hh => by have := hh.1; omega]
  rw [if_neg h, P.impl_world_l1 w hw]
  simp only [Option.bind_eq_bind, Option.bind_some]
  by_cases hall : ∀ i, 0 ≤ i → i < w.length → ∀ h : i < w.length, dataAt w i w[i]
  · rw [if_pos (dec_of hall), dec_of ⟨by omega, hall⟩]
  · rw [if_neg (by rw [dec_not hall]; simp), dec_not fun hh => hall hh.2]
/-- The reference's search for a name that stands twice. -/
theorem P.twice_l2 (w : List Data) (hw : smallW w) (d k i : Nat) (hd : d < w.length) (hk : k < w[d].ctors.length) (hi : i < d) (hl : w[d].ctors.length ≤ 4) (hli : w[i].ctors.length ≤ 4) : F.spec_l1Twice_l2 w d k i 0 =
    some (if dec (∀ j, 0 ≤ j → j < w[i].ctors.length → ∀ h : j < w[i].ctors.length, w[i].ctors[j].name ≠ w[d].ctors[k].name) = true then .go () else .ret true) := by
  have hi' : i < w.length := by omega
  refine allN (n := w[i].ctors.length) (r := true) (Q := fun j => ∀ h : j < w[i].ctors.length, w[i].ctors[j].name ≠ w[d].ctors[k].name) (L := F.spec_l1Twice_l2 w d k i) (fun j hj => ?_) (fun j hj hq => ?_) (fun j hj hq => ?_) _ 0 rfl
  · rw [F.spec_l1Twice_l2, List.getElem?_eq_getElem hi']
    simp only [Option.bind_eq_bind, Option.bind_some]
    rw [if_neg (by omega)]
  · rw [F.spec_l1Twice_l2, List.getElem?_eq_getElem hi']
    simp only [Option.bind_eq_bind, Option.bind_some]
    rw [if_pos hj, if_pos (by omega), at_lt hd]
    simp only [Option.bind_some]
    rw [if_pos (by omega), List.getElem?_eq_getElem hj, at_lt hk]
    simp only [Option.bind_some]
    rw [if_neg (fun h => hq hj (bytes_eq.1 h)), if_pos (by omega)]
  · rw [F.spec_l1Twice_l2, List.getElem?_eq_getElem hi']
    simp only [Option.bind_eq_bind, Option.bind_some]
    rw [if_pos hj, if_pos (by omega), at_lt hd]
    simp only [Option.bind_some]
    rw [if_pos (by omega), List.getElem?_eq_getElem hj, at_lt hk]
    simp only [Option.bind_some]
    rw [if_pos (bytes_eq.2 (Classical.byContradiction fun h => hq fun _ => h))]
theorem P.twice_l3 (w : List Data) (hw : smallW w) (d k : Nat) (hd : d < w.length) (hk : k < w[d].ctors.length) (hl : w[d].ctors.length ≤ 4) : F.spec_l1Twice_l3 w d k d 0 =
    some (if dec (∀ j, 0 ≤ j → j < k → ∀ h : j < w[d].ctors.length, w[d].ctors[j].name ≠ w[d].ctors[k].name) = true then .go () else .ret true) := by
  refine allN (n := k) (r := true) (Q := fun j => ∀ h : j < w[d].ctors.length, w[d].ctors[j].name ≠ w[d].ctors[k].name) (L := F.spec_l1Twice_l3 w d k d) (fun j hj => ?_) (fun j hj hq => ?_) (fun j hj hq => ?_) _ 0 rfl
  · rw [F.spec_l1Twice_l3, List.getElem?_eq_getElem hd]
    simp only [Option.bind_eq_bind, Option.bind_some]
    rcases Nat.lt_or_ge j w[d].ctors.length with h | h
    · rw [if_pos h, if_neg (by omega), if_neg (by omega)]
    · rw [if_neg (by omega)]
  · have hj' : j < w[d].ctors.length := Nat.lt_trans hj hk
    rw [F.spec_l1Twice_l3, List.getElem?_eq_getElem hd]
    simp only [Option.bind_eq_bind, Option.bind_some]
    rw [if_pos hj', if_neg (by omega), if_pos (by omega), at_lt hd]
    simp only [Option.bind_some]
    rw [if_pos (by omega), List.getElem?_eq_getElem hj', at_lt hk]
    simp only [Option.bind_some]
    rw [if_neg (fun h => hq hj' (bytes_eq.1 h)), if_pos (by omega)]
  · have hj' : j < w[d].ctors.length := Nat.lt_trans hj hk
    rw [F.spec_l1Twice_l3, List.getElem?_eq_getElem hd]
    simp only [Option.bind_eq_bind, Option.bind_some]
    rw [if_pos hj', if_neg (by omega), if_pos (by omega), at_lt hd]
    simp only [Option.bind_some]
    rw [if_pos (by omega), List.getElem?_eq_getElem hj', at_lt hk]
    simp only [Option.bind_some]
    rw [if_pos (bytes_eq.2 (Classical.byContradiction fun h => hq fun _ => h))]
/-- Nothing up to the k-th constructor of the d-th type bears its name. -/
structure fresh (w : List Data) (d k i : Nat) (hd : d < w.length) (hk : k < w[d].ctors.length) : Prop where
  data : i < d → ∀ h : i < w.length, w[i].name ≠ w[d].name
  ctor : i < d → ∀ h : i < w.length, ∀ j, 0 ≤ j → j < w[i].ctors.length → ∀ h : j < w[i].ctors.length, w[i].ctors[j].name ≠ w[d].ctors[k].name
  own : i = d → ∀ j, 0 ≤ j → j < k → ∀ h : j < w[d].ctors.length, w[d].ctors[j].name ≠ w[d].ctors[k].name
theorem P.spec_l1Twice (w : List Data) (hw : smallW w) (d k : Nat) (hd : d < w.length) (hk : k < w[d].ctors.length) (hw4 : w.length ≤ 4) (hl : ∀ i, i ≤ d → ∀ h : i < w.length, w[i].ctors.length ≤ 4) : F.spec_l1Twice w d k = some (!dec (∀ i, 0 ≤ i → i < d + 1 → fresh w d k i hd hk)) := by
  unfold F.spec_l1Twice
  have key : F.spec_l1Twice_l1 w d k 0 = some (if dec (∀ i, 0 ≤ i → i < d + 1 → fresh w d k i hd hk) = true then .go () else .ret true) := by
    refine allN (n := d + 1) (r := true) (Q := fun i => fresh w d k i hd hk) (L := F.spec_l1Twice_l1 w d k) (fun i hi => ?_) (fun i hi hq => ?_) (fun i hi hq => ?_) _ 0 rfl
    · rw [F.spec_l1Twice_l1, if_neg (by omega)]
    · rw [F.spec_l1Twice_l1, if_pos (by omega)]
      by_cases h : i < d
      · have hi' : i < w.length := by omega
        rw [if_pos (by omega), List.getElem?_eq_getElem hi', at_lt hd]
        simp only [Option.bind_eq_bind, Option.bind_some]
        rw [if_neg (fun e => hq.data h hi' (bytes_eq.1 e)), P.twice_l2 w hw d k i hd hk h (hl d (Nat.le_refl _) hd) (hl i (by omega) hi'), if_pos (dec_of (hq.ctor h hi'))]
        simp only [Option.bind_some]
        rw [if_pos (by omega)]
      · obtain rfl : i = d := by omega
        rw [if_neg (by omega), P.twice_l3 w hw i k hd hk (hl i (Nat.le_refl _) hd), if_pos (dec_of (hq.own rfl))]
        simp only [Option.bind_eq_bind, Option.bind_some]
        rw [if_pos (by omega)]
    · rw [F.spec_l1Twice_l1, if_pos (by omega)]
      by_cases h : i < d
      · have hi' : i < w.length := by omega
        rw [if_pos (by omega), List.getElem?_eq_getElem hi', at_lt hd]
        simp only [Option.bind_eq_bind, Option.bind_some]
        by_cases hn : w[i].name = w[d].name
        · rw [if_pos (bytes_eq.2 hn)]
        · rw [if_neg (fun e => hn (bytes_eq.1 e)), P.twice_l2 w hw d k i hd hk h (hl d (Nat.le_refl _) hd) (hl i (by omega) hi'), if_neg (by rw [dec_not fun hh => hq ⟨fun _ _ => hn, fun _ _ => hh, fun e => by omega⟩]; simp)]
          rfl
      · obtain rfl : i = d := by omega
        rw [if_neg (by omega), P.twice_l3 w hw i k hd hk (hl i (Nat.le_refl _) hd), if_neg (by rw [dec_not fun hh => hq ⟨fun e => by omega, fun e => by omega, fun _ => hh⟩]; simp)]
        rfl
  rw [key]
  simp only [Option.bind_eq_bind, Option.bind_some]
  by_cases hall : ∀ i, 0 ≤ i → i < d + 1 → fresh w d k i hd hk
  · rw [if_pos (dec_of hall), dec_of hall]; rfl
  · rw [if_neg (by rw [dec_not hall]; simp), dec_not hall]; rfl
theorem fresh_iff (w : List Data) (d k : Nat) (hd : d < w.length) (hk : k < w[d].ctors.length) : (∀ i, 0 ≤ i → i < d + 1 → fresh w d k i hd hk) ↔ w[d].name ∉ (w.take d).map (·.name) ∧ w[d].ctors[k].name ∉ (w.take d).flatMap cnames ++ (w[d].ctors.take k).map (·.name) := by
  constructor
  · intro h
    refine ⟨fun hm => ?_, fun hm => ?_⟩
    · obtain ⟨x, hx, e⟩ := List.mem_map.1 hm
      obtain ⟨i, hi, rfl⟩ := List.mem_take_iff_getElem.1 hx
      exact (h i (by omega) (by omega)).data (by omega) (by omega) e
    · rcases List.mem_append.1 hm with hm | hm
      · obtain ⟨x, hx, hc⟩ := List.mem_flatMap.1 hm
        obtain ⟨i, hi, rfl⟩ := List.mem_take_iff_getElem.1 hx
        obtain ⟨c, hc, e⟩ := List.mem_map.1 hc
        obtain ⟨j, hj, rfl⟩ := List.getElem_of_mem hc
        exact (h i (by omega) (by omega)).ctor (by omega) (by omega) j (by omega) hj hj e
      · obtain ⟨c, hc, e⟩ := List.mem_map.1 hm
        obtain ⟨j, hj, rfl⟩ := List.mem_take_iff_getElem.1 hc
        exact (h d (by omega) (by omega)).own rfl j (by omega) (by omega) (by omega) e
  · rintro ⟨h1, h2⟩ i _ hi
    refine ⟨fun hid hiw e => h1 (List.mem_map.2 ⟨w[i], List.mem_take_iff_getElem.2 ⟨i, by omega, rfl⟩, e⟩), fun hid hiw j _ hj hj' e => h2 (List.mem_append_left _ (List.mem_flatMap.2 ⟨w[i], List.mem_take_iff_getElem.2 ⟨i, by omega, rfl⟩, List.mem_map.2 ⟨_, List.getElem_mem hj, e⟩⟩)), fun e j _ hj hj' e => h2 (List.mem_append_right _ (List.mem_map.2 ⟨_, List.mem_take_iff_getElem.2 ⟨j, by omega, rfl⟩, e⟩))⟩
theorem P.spec_world_l2 (w : List Data) (hw : smallW w) (d : Nat) (hd : d < w.length) (hw4 : w.length ≤ 4) (hl : ∀ i, i ≤ d → ∀ h : i < w.length, w[i].ctors.length ≤ 4) : F.spec_WorldValid_l2 w d 0 =
    some (if dec (∀ k, 0 ≤ k → k < w[d].ctors.length → ∀ h : k < w[d].ctors.length, w[d].name ∉ (w.take d).map (·.name) ∧ ctorAt w d w[d] k w[d].ctors[k]) = true then .go () else .ret false) := by
  have hl0 := hl d (Nat.le_refl _) hd
  refine allN (n := w[d].ctors.length) (r := false) (Q := fun k => ∀ h : k < w[d].ctors.length, w[d].name ∉ (w.take d).map (·.name) ∧ ctorAt w d w[d] k w[d].ctors[k]) (L := F.spec_WorldValid_l2 w d) (fun k hk => ?_) (fun k hk hq => ?_) (fun k hk hq => ?_) _ 0 rfl
  · rw [F.spec_WorldValid_l2, List.getElem?_eq_getElem hd]
    simp only [Option.bind_eq_bind, Option.bind_some]
    rw [if_neg (by omega)]
  · obtain ⟨h1, h2⟩ := hq hk
    rw [F.spec_WorldValid_l2, List.getElem?_eq_getElem hd]
    simp only [Option.bind_eq_bind, Option.bind_some]
    rw [if_pos hk, List.getElem?_eq_getElem hk]
    simp only [Option.bind_some]
    rw [P.spec_l1Ctor _ _ (hw.2 _ (List.getElem_mem hd) _ (List.getElem_mem hk))]
    simp only [Option.bind_some]
    rw [if_pos (dec_of h2.ok), P.spec_l1Twice w hw d k hd hk hw4 hl]
    simp only [Option.bind_some]
    rw [dec_of ((fresh_iff w d k hd hk).2 ⟨h1, h2.new⟩), if_neg (by simp), if_pos (by omega)]
  · rw [F.spec_WorldValid_l2, List.getElem?_eq_getElem hd]
    simp only [Option.bind_eq_bind, Option.bind_some]
    rw [if_pos hk, List.getElem?_eq_getElem hk]
    simp only [Option.bind_some]
    rw [P.spec_l1Ctor _ _ (hw.2 _ (List.getElem_mem hd) _ (List.getElem_mem hk))]
    simp only [Option.bind_some]
    by_cases h1 : ctorOk w.length w[d].ctors[k]
    · rw [if_pos (dec_of h1), P.spec_l1Twice w hw d k hd hk hw4 hl]
      simp only [Option.bind_some]
      rw [dec_not fun hh => hq fun _ => ⟨((fresh_iff w d k hd hk).1 hh).1, ⟨h1, ((fresh_iff w d k hd hk).1 hh).2⟩⟩, if_pos (by simp)]
    · rw [if_neg (by rw [dec_not h1]; simp)]
theorem P.spec_WorldValid (w : List Data) (hw : smallW w) : F.spec_WorldValid w = some (dec (worldOk w)) := by
  unfold F.spec_WorldValid
  by_cases h4 : 4 < w.length
  · rw [if_pos h4, dec_not fun hh => by have := hh.1; omega]
  rw [if_neg h4]
  -- the loop runs only on over types that are right
  have key : ∀ (m d : Nat), w.length - d = m → (∀ i, i < d → ∀ h : i < w.length, w[i].ctors.length ≤ 4) → F.spec_WorldValid_l1 w d = some (if dec (∀ i, d ≤ i → i < w.length → ∀ h : i < w.length, dataAt w i w[i]) = true then .go () else .ret false) := by
    intro m
    induction m with
    | zero =>
      intro d hm hl
      rw [F.spec_WorldValid_l1, if_neg (by omega), if_pos (dec_of fun i h1 h2 => by omega)]
    | succ m ih =>
      intro d hm hl
      have hd : d < w.length := by omega
      rw [F.spec_WorldValid_l1, if_pos hd, List.getElem?_eq_getElem hd]
      simp only [Option.bind_eq_bind, Option.bind_some]
      rw [P.spec_l1Data]
      simp only [Option.bind_some]
      have no : ¬ dataAt w d w[d] → ¬ ∀ i, d ≤ i → i < w.length → ∀ h : i < w.length, dataAt w i w[i] := fun h hh => h (hh d (Nat.le_refl _) hd hd)
      by_cases h1 : dataName w[d].name
      · rw [if_pos (dec_of h1)]
        by_cases h2 : w[d].ctors.length = 0
        · rw [if_pos h2, if_neg (by rw [dec_not (no fun h => by have := h.some; omega)]; simp)]
        by_cases h3 : 4 < w[d].ctors.length
        · rw [if_neg h2, if_pos h3, if_neg (by rw [dec_not (no fun h => by have := h.few; omega)]; simp)]
        have hl' : ∀ i, i ≤ d → ∀ h : i < w.length, w[i].ctors.length ≤ 4 := fun i hi h => by
          by_cases e : i = d
          · subst e; omega
          · exact hl i (by omega) h
        rw [if_neg h2, if_neg h3, P.spec_world_l2 w hw d hd (by omega) hl']
        simp only [Option.bind_some]
        by_cases hq : ∀ k, 0 ≤ k → k < w[d].ctors.length → ∀ h : k < w[d].ctors.length, w[d].name ∉ (w.take d).map (·.name) ∧ ctorAt w d w[d] k w[d].ctors[k]
        · have hda : dataAt w d w[d] := ⟨h1, (hq 0 (by omega) (by omega) (by omega)).1, by omega, by omega, fun k a b c => (hq k a b c).2⟩
          rw [if_pos (dec_of hq)]
          simp only
          rw [if_pos (by omega), ih (d + 1) (by omega) fun i hi h => hl' i (by omega) h]
          by_cases hall : ∀ i, d + 1 ≤ i → i < w.length → ∀ h : i < w.length, dataAt w i w[i]
          · rw [if_pos (dec_of hall), if_pos (dec_of fun i a b c => ?_)]
            by_cases e : i = d
            · subst e; exact hda
            · exact hall i (by omega) b c
          · rw [if_neg (by rw [dec_not hall]; simp), if_neg (by rw [dec_not fun hh => hall fun i a b c => hh i (by omega) b c]; simp)]
        · rw [if_neg (by rw [dec_not hq]; simp)]
          simp only
          rw [if_neg (by rw [dec_not (no fun h => hq fun k a b c => ⟨h.new, h.ctors k a b c⟩)]; simp)]
      · rw [if_neg (by rw [dec_not h1]; simp), if_neg (by rw [dec_not (no fun h => h1 h.name)]; simp)]
  rw [key _ 0 rfl fun i hi => by omega]
  simp only [Option.bind_eq_bind, Option.bind_some]
  by_cases hall : ∀ i, 0 ≤ i → i < w.length → ∀ h : i < w.length, dataAt w i w[i]
  · rw [if_pos (dec_of hall), dec_of ⟨by omega, hall⟩]
  · rw [if_neg (by rw [dec_not hall]; simp), dec_not fun hh => hall hh.2]
/-- A type of a world. -/
def typeOk (w : List Data) (t : Ty) : Prop := argOk w.length t ∧ 0 ≤ t.index
theorem P.spec_l1Is (w : List Data) (t : Ty) : F.spec_l1Is w t = some (dec (typeOk w t)) := by
  unfold F.spec_l1Is
  rw [P.spec_l1Arg]
  simp only [Option.bind_eq_bind, Option.bind_some]
  by_cases h : argOk w.length t
  · rw [if_pos (dec_of h), ← dec_eq]; congr 1; exact dec_congr ⟨fun h' => ⟨h, h'⟩, fun h' => h'.2⟩
  · rw [if_neg (by rw [dec_not h]; simp), dec_not fun h' => h h'.1]
theorem P.impl_typeOk (w : List Data) (t : Ty) (hw : w.length ≤ 1048576) : F.impl_typeOk w t = some (dec (typeOk w t)) := by
  unfold F.impl_typeOk
  by_cases h : eq2 (t.data, t.index) (-1, 0)
  · rw [if_pos (dec_of h), dec_of ⟨.inl h, by have := h.2; simp at this; omega⟩]
  rw [if_neg (by rw [dec_not h]; simp), P.within, wrap_in (by omega) (by omega)]
  simp only [Option.bind_eq_bind, Option.bind_some]
  by_cases h1 : 0 ≤ t.data ∧ t.data ≤ (w.length : Int) - 1
  · rw [if_pos (dec_of h1), P.within]
    simp only [Option.bind_some]
    congr 1; exact dec_congr ⟨fun h' => ⟨.inr ⟨h1.1, by omega, by omega, h'.2⟩, h'.1⟩, fun h' => h'.1.elim (fun h' => absurd h' h) (fun h2 => ⟨h'.2, h2.2.2.2⟩)⟩
  · rw [if_neg (by rw [dec_not h1]; simp), dec_not fun h' => h'.1.elim (fun h' => h h') (fun h' => h1 ⟨h'.1, by have := h'.2.1; omega⟩)]
def typeValid (w : List Data) (t : Ty) : Prop := worldOk w ∧ typeOk w t
theorem P.spec_TypeValid (w : List Data) (t : Ty) (hw : smallW w) : F.spec_TypeValid w t = some (dec (typeValid w t)) := by
  unfold F.spec_TypeValid
  rw [P.spec_WorldValid w hw]
  simp only [Option.bind_eq_bind, Option.bind_some]
  by_cases h : worldOk w
  · rw [if_pos (dec_of h), P.spec_l1Is]
    simp only [Option.bind_some]
    congr 1; exact dec_congr ⟨fun h' => ⟨h, h'⟩, fun h' => h'.2⟩
  · rw [if_neg (by rw [dec_not h]; simp), dec_not fun h' => h h'.1]
theorem P.impl_TypeValid (w : List Data) (t : Ty) (hw : smallW w) : F.impl_TypeValid w t = some (dec (typeValid w t)) := by
  unfold F.impl_TypeValid
  rw [P.impl_WorldValid w hw]
  simp only [Option.bind_eq_bind, Option.bind_some]
  by_cases h : worldOk w
  · rw [if_pos (dec_of h), P.impl_typeOk w t hw.1]
    simp only [Option.bind_some]
    congr 1; exact dec_congr ⟨fun h' => ⟨h, h'⟩, fun h' => h'.2⟩
  · rw [if_neg (by rw [dec_not h]; simp), dec_not fun h' => h h'.1]
theorem smallW_of {w : List Data} (h : wtL Data.wt w ≤ 1048576) : smallW w := by
  refine ⟨by have := wtL_len Data.wt w; omega, fun d hd c hc => ?_⟩
  have h1 := wtL_mem Data.wt hd
  have h2 := wtL_mem Ctor.wt hc
  have e1 : d.wt = d.name.size + wtL Ctor.wt d.ctors := rfl
  have e2 : c.wt = c.name.size + wtL Ty.wt c.args := rfl
  omega
def tOk (w : List Data) (t : Ty) : Prop := t.data = -1 ∨ (0 ≤ t.data ∧ t.data < w.length)
theorem tOk_of {w : List Data} {t : Ty} (h : argOk w.length t) : tOk w t := h.elim (fun h => .inl h.1) (fun h => .inr ⟨h.1, h.2.1⟩)
/-- The constructors that fit an index, by their places. -/
def fitC (i : Int) (c : Ctor) : Prop := i = 0 ∨ c.index = 0 ∨ c.index = i
noncomputable def selC (i : Int) : Nat → List Ctor → List Int
  | _, [] => []
  | k, c :: r => (if dec (fitC i c) = true then [(k : Int)] else []) ++ selC i (k + 1) r
theorem selC_mem (i : Int) {x : Int} : ∀ {k : Nat} {l : List Ctor}, x ∈ selC i k l → (k : Int) ≤ x ∧ x < k + l.length
  | _, [], h => by simp [selC] at h
  | k, c :: r, h => by
    unfold selC at h
    rcases List.mem_append.1 h with h | h
    · split at h
      · simp at h; subst h; simp; omega
      · simp at h
    · have := selC_mem i h
      simp; omega
def dataOf (w : List Data) (t : Ty) : Data := w.getD t.data.toNat Data.z
noncomputable def ctorList (w : List Data) (t : Ty) : List Int := if t.data = -1 then [] else selC t.index 0 (dataOf w t).ctors
def ctorOf (w : List Data) (t : Ty) (c : Int) : Ctor := (dataOf w t).ctors.getD c.toNat Ctor.z
def argOf (t : Ty) (c : Ctor) (a : Ty) : Ty := if a.index = -1 then ⟨a.data, if c.index = 0 then t.index else c.index⟩ else a
def argList (w : List Data) (t : Ty) (c : Int) : List Ty := (ctorOf w t c).args.map (argOf t (ctorOf w t c))
theorem at_data {w : List Data} {t : Ty} (h : tOk w t) (hn : t.data ≠ -1) : at? w t.data = some (dataOf w t) ∧ dataOf w t ∈ w ∧ ∃ h : t.data.toNat < w.length, dataOf w t = w[t.data.toNat] := by
  obtain ⟨h1, h2⟩ := h.resolve_left hn
  have hlt : t.data.toNat < w.length := by omega
  unfold at? dataOf
  rw [if_pos h1, List.getElem?_eq_getElem hlt, List.getD_eq_getElem?_getD, List.getElem?_eq_getElem hlt]
  exact ⟨rfl, List.getElem_mem hlt, hlt, rfl⟩
theorem world_ctors {w : List Data} (hw : worldOk w) {t : Ty} (h : tOk w t) (hn : t.data ≠ -1) : (dataOf w t).ctors.length ≤ 4 ∧ ∀ c, c ∈ (dataOf w t).ctors → ctorOk w.length c := by
  obtain ⟨_, _, hlt, e⟩ := at_data h hn
  have hd := hw.2 t.data.toNat (by omega) hlt hlt
  rw [e]
  refine ⟨hd.few, fun c hc => ?_⟩
  obtain ⟨k, hk, rfl⟩ := List.getElem_of_mem hc
  exact (hd.ctors k (by omega) hk hk).ok
theorem P.spec_ctors_l1 (w : List Data) (hw : worldOk w) (t : Ty) (h : tOk w t) (hn : t.data ≠ -1) : ∀ (m k : Nat) (out : List Int), (dataOf w t).ctors.length - k = m → out.length ≤ k → k ≤ (dataOf w t).ctors.length →
    F.spec_l1Ctors_l1 w t out k = some (out ++ selC t.index k ((dataOf w t).ctors.drop k)) := by
  have h4 := (world_ctors hw h hn).1
  intro m
  induction m with
  | zero =>
    intro k out hm ho hk
    rw [F.spec_l1Ctors_l1, (at_data h hn).1]
    simp only [Option.bind_eq_bind, Option.bind_some]
    rw [if_neg (by omega), List.drop_eq_nil_of_le (by omega)]; simp [selC]
  | succ m ih =>
    intro k out hm ho hk
    have hlt : k < (dataOf w t).ctors.length := by omega
    rw [F.spec_l1Ctors_l1, (at_data h hn).1]
    simp only [Option.bind_eq_bind, Option.bind_some]
    rw [if_pos hlt, List.getElem?_eq_getElem hlt, List.drop_eq_getElem_cons hlt]
    simp only [Option.bind_some, selC]
    have hf : F.spec_l1Fits (dataOf w t).ctors[k] t.index = some (dec (fitC t.index (dataOf w t).ctors[k])) := by
      unfold F.spec_l1Fits
      by_cases h1 : (dataOf w t).ctors[k].index = 0
      · rw [if_pos h1, dec_of (.inr (.inl h1))]
      · by_cases h2 : t.index = 0
        · rw [if_neg h1, if_pos h2, dec_of (.inl h2)]
        · rw [if_neg h1, if_neg h2, ← dec_eq]; congr 1; exact dec_congr ⟨fun h => .inr (.inr h), fun h => h.elim (fun h => absurd h h2) (fun h => h.elim (fun h => absurd h h1) id)⟩
    rw [hf]
    simp only [Option.bind_some]
    by_cases hfit : fitC t.index (dataOf w t).ctors[k]
    · rw [if_pos (dec_of hfit), if_pos (by omega), if_pos (by omega), ih (k + 1) _ (by omega) (by simp; omega) (by omega), if_pos (dec_of hfit)]; simp
    · rw [if_neg (by rw [dec_not hfit]; simp), if_pos (by omega), ih (k + 1) _ (by omega) (by omega) (by omega), if_neg (by rw [dec_not hfit]; simp)]; simp
theorem P.spec_l1Ctors (w : List Data) (hw : worldOk w) (t : Ty) (h : tOk w t) : F.spec_l1Ctors w t = some (ctorList w t) := by
  unfold F.spec_l1Ctors ctorList
  by_cases hn : t.data = -1
  · rw [if_pos hn, if_pos hn]
  · rw [if_neg hn, if_neg hn, P.spec_ctors_l1 w hw t h hn _ 0 [] rfl (by simp) (by omega)]; simp
theorem P.impl_ctors_l1 (w : List Data) (hw : worldOk w) (t : Ty) (h : tOk w t) (hn : t.data ≠ -1) : ∀ (m k : Nat) (out : List Int), (dataOf w t).ctors.length - k = m → out.length ≤ k → k ≤ (dataOf w t).ctors.length →
    F.impl_ctorsOf_l1 t (dataOf w t) k out = some (out ++ selC t.index k ((dataOf w t).ctors.drop k)) := by
  have h4 := (world_ctors hw h hn).1
  intro m
  induction m with
  | zero =>
    intro k out hm ho hk
    rw [F.impl_ctorsOf_l1, if_neg (by omega), List.drop_eq_nil_of_le (by omega)]; simp [selC]
  | succ m ih =>
    intro k out hm ho hk
    have hlt : k < (dataOf w t).ctors.length := by omega
    rw [F.impl_ctorsOf_l1, if_pos hlt, List.getElem?_eq_getElem hlt, List.drop_eq_getElem_cons hlt]
    simp only [Option.bind_eq_bind, Option.bind_some, selC]
    have yes : fitC t.index (dataOf w t).ctors[k] → (if out.length + 1 ≤ 67108864 then F.impl_ctorsOf_l1 t (dataOf w t) (k + 1) (out ++ [(k : Int)]) else none) =
        some (out ++ ((if dec (fitC t.index (dataOf w t).ctors[k]) = true then [(k : Int)] else []) ++ selC t.index (k + 1) ((dataOf w t).ctors.drop (k + 1)))) := by
      intro hfit
      rw [if_pos (by omega), ih (k + 1) _ (by omega) (by simp; omega) (by omega), if_pos (dec_of hfit)]; simp
    by_cases h1 : t.index = 0
    · rw [if_pos h1]; exact yes (.inl h1)
    by_cases h2 : (dataOf w t).ctors[k].index = 0
    · rw [if_neg h1, if_pos h2]; exact yes (.inr (.inl h2))
    by_cases h3 : (dataOf w t).ctors[k].index = t.index
    · rw [if_neg h1, if_neg h2, if_pos h3]; exact yes (.inr (.inr h3))
    · have hfit : ¬ fitC t.index (dataOf w t).ctors[k] := fun h => h.elim h1 (fun h => h.elim h2 h3)
      rw [if_neg h1, if_neg h2, if_neg h3, ih (k + 1) _ (by omega) (by omega) (by omega), if_neg (by rw [dec_not hfit]; simp)]; simp
theorem P.impl_ctorsOf (w : List Data) (hw : worldOk w) (t : Ty) (h : tOk w t) : F.impl_ctorsOf w t = some (ctorList w t) := by
  unfold F.impl_ctorsOf ctorList
  by_cases hn : t.data = -1
  · rw [if_pos hn, if_pos hn]
  · rw [if_neg hn, if_neg hn, (at_data h hn).1]
    simp only [Option.bind_eq_bind, Option.bind_some]
    rw [P.impl_ctors_l1 w hw t h hn _ 0 [] rfl (by simp) (by omega)]; simp
theorem ctorList_mem {w : List Data} {t : Ty} {c : Int} (h : c ∈ ctorList w t) : t.data ≠ -1 ∧ 0 ≤ c ∧ c < (dataOf w t).ctors.length := by
  unfold ctorList at h
  split at h
  · cases h
  · next hn =>
    have := selC_mem t.index h
    exact ⟨hn, by omega, by omega⟩
theorem at_ctor {w : List Data} {t : Ty} {c : Int} (h : c ∈ ctorList w t) : at? (dataOf w t).ctors c = some (ctorOf w t c) ∧ ctorOf w t c ∈ (dataOf w t).ctors := by
  obtain ⟨_, h1, h2⟩ := ctorList_mem h
  have hlt : c.toNat < (dataOf w t).ctors.length := by omega
  unfold at? ctorOf
  rw [if_pos h1, List.getElem?_eq_getElem hlt, List.getD_eq_getElem?_getD, List.getElem?_eq_getElem hlt]
  exact ⟨rfl, List.getElem_mem hlt⟩
theorem P.spec_l1Args (w : List Data) (hw : worldOk w) (t : Ty) (ht : tOk w t) (c : Int) (h : c ∈ ctorList w t) : F.spec_l1Args w t c = some (argList w t c) := by
  have hc := (world_ctors hw ht (ctorList_mem h).1).2 _ (at_ctor h).2
  unfold F.spec_l1Args
  rw [(at_data ht (ctorList_mem h).1).1]
  simp only [Option.bind_eq_bind, Option.bind_some]
  rw [(at_ctor h).1]
  simp only [Option.bind_some]
  rw [appLoop (L := F.spec_l1Args_l1 t (ctorOf w t c)) (a := (ctorOf w t c).args) (g := argOf t (ctorOf w t c)) (f := fun a => some (argOf t (ctorOf w t c) a)) (fun out i => ?_) (fun _ _ => rfl) _ 0 [] rfl (by have := hc.2.1; simp; omega)]
  · simp [argList]
  · rw [F.spec_l1Args_l1]
    split
    · cases (ctorOf w t c).args[i]? with
      | none => rfl
      | some a =>
        simp only [Option.bind_eq_bind, Option.bind_some, F.spec_l1Result, argOf]
        split
        · split <;> simp
        · simp
    · rfl
theorem P.impl_argTypes (w : List Data) (hw : worldOk w) (t : Ty) (ht : tOk w t) (c : Int) (h : c ∈ ctorList w t) : F.impl_argTypes w t c = some (argList w t c) := by
  have hc := (world_ctors hw ht (ctorList_mem h).1).2 _ (at_ctor h).2
  unfold F.impl_argTypes
  rw [(at_data ht (ctorList_mem h).1).1]
  simp only [Option.bind_eq_bind, Option.bind_some]
  rw [(at_ctor h).1]
  simp only [Option.bind_some]
  by_cases h0 : (ctorOf w t c).index = 0
  · rw [if_pos h0, appLoop (L := fun out i => F.impl_argTypes_l1 t (ctorOf w t c) i out) (a := (ctorOf w t c).args) (g := argOf t (ctorOf w t c)) (f := fun a => some (argOf t (ctorOf w t c) a)) (fun out i => ?_) (fun _ _ => rfl) _ 0 [] rfl (by have := hc.2.1; simp; omega)]
    · simp [argList]
    · show F.impl_argTypes_l1 t (ctorOf w t c) i out = _
      rw [F.impl_argTypes_l1]
      split
      · cases (ctorOf w t c).args[i]? with
        | none => rfl
        | some a =>
          simp only [Option.bind_eq_bind, Option.bind_some, argOf]
          split
          · first | rfl | rw [if_pos h0]
          · rfl
      · rfl
  · rw [if_neg h0, appLoop (L := fun out i => F.impl_argTypes_l2 (ctorOf w t c) i out) (a := (ctorOf w t c).args) (g := argOf t (ctorOf w t c)) (f := fun a => some (argOf t (ctorOf w t c) a)) (fun out i => ?_) (fun _ _ => rfl) _ 0 [] rfl (by have := hc.2.1; simp; omega)]
    · simp [argList]
    · show F.impl_argTypes_l2 (ctorOf w t c) i out = _
      rw [F.impl_argTypes_l2]
      split
      · cases (ctorOf w t c).args[i]? with
        | none => rfl
        | some a =>
          simp only [Option.bind_eq_bind, Option.bind_some, argOf]
          split
          · first | rfl | rw [if_neg h0]
          · rfl
      · rfl
theorem P.spec_l1Has (l : List Int) (n : Int) : F.spec_l1Has l n = some (dec (n ∈ l)) := by
  unfold F.spec_l1Has
  rw [allN (n := l.length) (r := true) (Q := fun j => ∀ h : j < l.length, l[j] ≠ n) (L := F.spec_l1Has_l1 l n) (fun k hk => by rw [F.spec_l1Has_l1, if_neg (by omega)])
    (fun k hk hq => by
      rw [F.spec_l1Has_l1, if_pos hk, List.getElem?_eq_getElem hk]
      simp only [Option.bind_eq_bind, Option.bind_some]
      rw [if_neg (hq hk)])
    (fun k hk hq => by
      rw [F.spec_l1Has_l1, if_pos hk, List.getElem?_eq_getElem hk]
      simp only [Option.bind_eq_bind, Option.bind_some]
      rw [if_pos (Classical.byContradiction fun h => hq fun _ => h)]) _ 0 rfl]
  simp only [Option.bind_eq_bind, Option.bind_some]
  by_cases hm : n ∈ l
  · obtain ⟨j, hj, e⟩ := List.getElem_of_mem hm
    rw [if_neg (by rw [dec_not fun hh => hh j (by omega) hj hj e]; simp), dec_of hm]
  · rw [if_pos (dec_of fun j _ hj h e => hm (by rw [← e]; exact List.getElem_mem h)), dec_not hm]
theorem P.slices_Contains_int (l : List Int) (n : Int) : F.slices_Contains_int l n = some (dec (n ∈ l)) := by
  unfold F.slices_Contains_int F.slices_Index_int
  have key : ∀ (m k : Nat), l.length - k = m → ∃ r, F.slices_Index_int_l1 l n k = some r ∧ match r with | .ret j => 0 ≤ j ∧ n ∈ l | .go _ => ∀ j, k ≤ j → ∀ h : j < l.length, l[j] ≠ n := by
    intro m
    induction m with
    | zero => intro k hm; rw [F.slices_Index_int_l1, if_neg (by omega)]; exact ⟨_, rfl, fun j h1 h2 => by omega⟩
    | succ m ih =>
      intro k hm
      have hk : k < l.length := by omega
      rw [F.slices_Index_int_l1, if_pos hk, List.getElem?_eq_getElem hk]
      simp only [Option.bind_eq_bind, Option.bind_some]
      by_cases h : n = l[k]
      · rw [if_pos h]; exact ⟨_, rfl, by omega, h ▸ List.getElem_mem hk⟩
      · rw [if_neg h]
        obtain ⟨r, hr, hx⟩ := ih (k + 1) (by omega)
        refine ⟨r, hr, ?_⟩
        cases r with
        | ret j => exact hx
        | go _ =>
          intro j hj hl
          by_cases e : k = j
          · subst e; exact fun e => h e.symm
          · exact hx j (by omega) hl
  obtain ⟨r, hr, hx⟩ := key _ 0 rfl
  rw [hr]
  cases r with
  | ret j =>
    simp only [Option.bind_eq_bind, Option.bind_some]
    rw [dec_of hx.2]; simp [hx.1]
  | go _ =>
    simp only [Option.bind_eq_bind, Option.bind_some]
    rw [dec_not fun hm => by obtain ⟨j, hj, e⟩ := List.getElem_of_mem hm; exact hx j (by omega) hj e]; simp
def texts : List ByteArray := [⟨#[76, 61, 78, 105, 108, 124, 67, 111, 110, 115, 40, 73, 44, 76, 41]⟩, ⟨#[66, 61, 84, 114, 117, 124, 70, 108, 115, 59, 84, 61, 76, 101, 97, 102, 124, 78, 111, 100, 101, 40, 84, 44, 66, 44, 84, 41]⟩, ⟨#[69, 61, 78, 117, 109, 40, 73, 41, 58, 49, 124, 66, 111, 108, 40, 66, 41, 58, 50, 124, 65, 100, 100, 40, 69, 49, 44, 69, 49, 41, 58, 49, 124, 73, 102, 40, 69, 50, 44, 69, 42, 44, 69, 42, 41, 59, 66, 61, 84, 114, 117, 124, 70, 108, 115]⟩, ⟨#[79, 61, 78, 111, 110, 124, 83, 111, 109, 40, 73, 41, 59, 80, 61, 80, 97, 105, 114, 40, 79, 44, 79, 41]⟩, ⟨#[86, 61, 69, 110, 100, 58, 49, 124, 83, 111, 109, 101, 40, 73, 44, 86, 49, 41, 58, 50, 124, 84, 119, 111, 40, 86, 42, 41]⟩, ⟨#[78, 61, 78, 101, 118, 101, 114, 40, 78, 41, 59, 66, 61, 84, 114, 117, 124, 70, 108, 115, 124, 77, 97, 121, 40, 78, 41]⟩, ⟨#[83, 61, 82, 101, 100, 124, 71, 114, 101, 101, 110, 124, 66, 108, 117, 101, 124, 77, 105, 120, 40, 83, 44, 83, 41]⟩, ByteArray.empty]
def fitsP (a b : Ty) : Prop := a.data = b.data ∧ (b.index = 0 ∨ a.index = b.index)
theorem P.spec_fits (a b : Ty) : F.spec_l12Fits a b = some (dec (fitsP a b)) := by
  unfold F.spec_l12Fits
  by_cases h1 : a.data = b.data
  · rw [if_pos h1]
    by_cases h2 : b.index = 0
    · rw [if_pos h2, dec_of ⟨h1, .inl h2⟩]
    · rw [if_neg h2]; congr 1; rw [← dec_eq]; exact dec_congr ⟨fun h => ⟨h1, .inr h⟩, fun h => h.2.resolve_left h2⟩
  · rw [if_neg h1, dec_not fun h => h1 h.1]
theorem P.impl_fits (a b : Ty) : F.impl_fits a b = some (dec (fitsP a b)) := by
  unfold F.impl_fits
  by_cases h1 : a.data = b.data
  · rw [if_pos h1]
    by_cases h2 : b.index = 0
    · rw [if_pos h2, dec_of ⟨h1, .inl h2⟩]
    · rw [if_neg h2]; congr 1; rw [← dec_eq]; exact dec_congr ⟨fun h => ⟨h1, .inr h⟩, fun h => h.2.resolve_left h2⟩
  · rw [if_neg h1, dec_not fun h => h1 h.1]
theorem ba_ext {a b : ByteArray} (h : a.data.toList = b.data.toList) : a = b := by
  obtain ⟨x⟩ := a
  obtain ⟨y⟩ := b
  congr 1
  exact Array.toList_inj.1 h
theorem ba_app (a b : ByteArray) : (a ++ b).data.toList = a.data.toList ++ b.data.toList := by rw [ByteArray.data_append, Array.toList_append]
theorem ba_size (a : ByteArray) : a.size = a.data.toList.length := by rw [Array.length_toList]; rfl
theorem ba_add (a b : ByteArray) : (a ++ b).size = a.size + b.size := by rw [ba_size, ba_app, List.length_append, ← ba_size, ← ba_size]
theorem ba_assoc (a b c : ByteArray) : a ++ b ++ c = a ++ (b ++ c) := ba_ext (by simp [ba_app])
theorem ba_nil (a : ByteArray) : a ++ ByteArray.empty = a := ba_ext (by simp [ba_app])
theorem nil_ba (a : ByteArray) : ByteArray.empty ++ a = a := ba_ext (by simp [ba_app])
theorem joinB_list (ks : List ByteArray) (c : ByteArray) : (joinB ks c).data.toList = Lib.join (ks.map (·.data.toList)) c.data.toList := by simp [joinB]
theorem joinB_one (x c : ByteArray) : joinB [x] c = x := ba_ext (by rw [joinB_list]; simp [Lib.join_one])
theorem joinB_snoc {ks : List ByteArray} (k c : ByteArray) (h : ks ≠ []) : joinB (ks ++ [k]) c = joinB ks c ++ c ++ k := by
  obtain ⟨x, r, rfl⟩ := List.exists_cons_of_ne_nil h
  refine ba_ext ?_
  simp only [joinB_list, ba_app, List.cons_append, List.map_cons, List.map_append, List.map_nil, Lib.join_cons]
  simp [Lib.joinTail]
/-- The texts behind an opening sign, with signs between. -/
noncomputable def preT (o c : ByteArray) (ks : List ByteArray) : ByteArray := if ks = [] then ByteArray.empty else o ++ joinB ks c
theorem preT_snoc (o c : ByteArray) (ks : List ByteArray) (k : ByteArray) : preT o c (ks ++ [k]) = preT o c ks ++ (if ks = [] then o else c) ++ k := by
  unfold preT
  rw [if_neg (by simp)]
  by_cases h : ks = []
  · subst h
    simp [joinB_one, nil_ba]
  · rw [if_neg h, if_neg h, joinB_snoc k c h]
    simp [ba_assoc]
/-- All the texts' sizes, a sign before each. -/
def lensT (ks : List ByteArray) : Nat := (ks.map fun x => 1 + x.size).sum
theorem lensT_snoc (ks : List ByteArray) (k : ByteArray) : lensT (ks ++ [k]) = lensT ks + (1 + k.size) := by simp [lensT]
theorem preT_size {o c : ByteArray} (ho : o.size = 1) (hc : c.size = 1) (ks : List ByteArray) : (preT o c ks).size = lensT ks := by
  have : ∀ n, ∀ ks : List ByteArray, ks.length = n → (preT o c ks).size = lensT ks := by
    intro n
    induction n with
    | zero => intro ks h; cases ks with
      | nil => simp [preT, lensT]
      | cons => simp at h
    | succ n ih =>
      intro ks h
      obtain ⟨l, k, rfl⟩ : ∃ l k, ks = l ++ [k] := ⟨ks.dropLast, ks.getLast (by intro e; subst e; simp at h), (List.dropLast_concat_getLast _).symm⟩
      rw [preT_snoc, ba_add, ba_add, ih l (by simpa using h), lensT_snoc]
      split <;> omega
  exact this _ ks rfl
theorem lensT_take_le (ks : List ByteArray) (i : Nat) : lensT (ks.take i) ≤ lensT ks := by
  have h := List.take_append_drop i ks
  have : lensT ks = lensT (ks.take i) + lensT (ks.drop i) := by
    have := congrArg lensT h
    rw [← this]
    simp only [lensT, List.map_append, List.sum_append_nat]
  omega
theorem lensT_len (ks : List ByteArray) : ks.length ≤ lensT ks := by
  induction ks with
  | nil => simp
  | cons x r ih => simp only [lensT, List.map_cons, List.sum_cons, List.length_cons] at ih ⊢; omega
theorem joinB_size_le {c : ByteArray} (hc : c.size = 1) {ks : List ByteArray} (h : ks ≠ []) : (joinB ks c).size + 1 = lensT ks := by
  have := preT_size (o := ⟨#[40]⟩) rfl hc ks
  rw [preT, if_neg h, ba_add] at this
  have e : (⟨#[40]⟩ : ByteArray).size = 1 := rfl
  omega
theorem joinOk_of {c : ByteArray} (hc : c.size = 1) {ks : List ByteArray} (h : lensT ks ≤ 140737488355328) : joinOk ks c := by
  refine ⟨by have := lensT_len ks; omega, ?_⟩
  by_cases hk : ks = []
  · subst hk; simp [Lib.join_nil]
  · have := joinB_size_le hc hk
    rw [ba_size, joinB_list] at this
    omega
theorem listT {n : Nat} {Q : Nat → ByteArray → Prop} : (∀ i, i < n → ∃ s, Q i s) → ∃ T : List ByteArray, T.length = n ∧ ∀ i (h : i < T.length), Q i T[i] := by
  induction n with
  | zero => intro _; exact ⟨[], rfl, fun i h => by simp at h⟩
  | succ n ih =>
    intro h
    obtain ⟨T, h1, h2⟩ := ih fun i hi => h i (by omega)
    obtain ⟨s, hs⟩ := h n (by omega)
    refine ⟨T ++ [s], by simp [h1], fun i hi => ?_⟩
    by_cases e : i < T.length
    · rw [List.getElem_append_left e]; exact h2 i e
    · have : i = T.length := by simp at hi; omega
      subst this
      rw [List.getElem_append_right (by omega)]
      simp only [Nat.sub_self, List.getElem_singleton]
      rw [h1]; exact hs
theorem wrap_u8 (n : Int) : IntKind.u8.wrap n = n % 256 := rfl
theorem wrap_i64_mod (n : Int) : IntKind.i64.wrap n % 256 = n % 256 := by
  have : IntKind.i64.wrap n = n % 18446744073709551616 ∨ IntKind.i64.wrap n = n % 18446744073709551616 - 18446744073709551616 := by
    unfold IntKind.wrap
    simp only
    split
    · exact .inr rfl
    · exact .inl rfl
  rcases this with e | e <;> omega
theorem letter_eq (v : Int) : IntKind.u8.wrap (IntKind.i64.wrap (97 + v)) = IntKind.u8.wrap (97 + IntKind.u8.wrap v) := by
  rw [wrap_u8, wrap_u8, wrap_u8, wrap_i64_mod]; omega
theorem P.letter_same (v : Int) : ∃ s, F.impl_letter v = some s ∧ F.spec_l3Letter v = some s ∧ s.size = 1 := by
  refine ⟨_, rfl, ?_, rfl⟩
  unfold F.spec_l3Letter
  rw [letter_eq]
theorem dec_one {n : Int} (h0 : 0 ≤ n) (h9 : n ≤ 9) : F.strconv_Itoa n = some (itoaB n) ∧ F.spec_l17Dec n = some (itoaB n) ∧ (itoaB n).size = 1 := by
  have e : itoaB n = strB [IntKind.u8.wrap (IntKind.i64.wrap (48 + n))] := by
    obtain ⟨k, rfl⟩ := Int.eq_ofNat_of_zero_le h0
    unfold itoaB
    have e1 : IntKind.u8.wrap (IntKind.i64.wrap (48 + (k : Int))) = 48 + (k : Int) := by rw [wrap_u8, wrap_i64_mod]; omega
    rw [e1, Lib.decDigits, dif_pos (show ((k : Int)).toNat < 10 by omega)]
    have e2 : (48 + (k : Int)).toNat = 48 + k := by omega
    have e3 : ((k : Int)).toNat = k := by omega
    refine ba_ext ?_
    simp [strB, e2, e3]
  refine ⟨?_, ?_, by rw [e]; rfl⟩
  · unfold F.strconv_Itoa; rw [if_pos (by omega)]
  · rw [F.spec_l17Dec, if_neg (by omega), if_neg (by omega), F.spec_l17Dec_l1, if_neg (by omega)]
    simp only [Option.bind_eq_bind, Option.bind_some]
    rw [if_pos (by show 1 + 0 ≤ _; omega), e, ba_nil]
noncomputable def findV (l : List VarType) (n : Int) : Int := match fixN (fun x => x.var = n) 0 l with
  | some j => (j : Int)
  | none => -1
theorem P.spec_l3Find (l : List VarType) (n : Int) : F.spec_l3Find l n = some (findV l n) := by
  unfold F.spec_l3Find findV
  rw [findG (a := l) (p := fun x => x.var = n) (L := F.spec_l3Find_l1 l n) (fun k hk => by rw [F.spec_l3Find_l1, if_neg (by omega)])
    (fun k hk hp => by rw [F.spec_l3Find_l1, if_pos hk, List.getElem?_eq_getElem hk]; simp only [Option.bind_eq_bind, Option.bind_some]; rw [if_neg hp])
    (fun k hk hp => by rw [F.spec_l3Find_l1, if_pos hk, List.getElem?_eq_getElem hk]; simp only [Option.bind_eq_bind, Option.bind_some]; rw [if_pos hp]) _ 0 rfl, List.drop_zero]
  cases fixN (fun x => x.var = n) 0 l <;> rfl
theorem P.findVar (l : List VarType) (n : Int) : F.slices_IndexFunc_VarType__impl_scope_typeOfVar_1 l n = some (findV l n) := by
  unfold F.slices_IndexFunc_VarType__impl_scope_typeOfVar_1 findV
  rw [findG (a := l) (p := fun x => x.var = n) (L := F.slices_IndexFunc_VarType__impl_scope_typeOfVar_1_l1 l n) (fun k hk => by rw [F.slices_IndexFunc_VarType__impl_scope_typeOfVar_1_l1, if_neg (by omega)])
    (fun k hk hp => by rw [F.slices_IndexFunc_VarType__impl_scope_typeOfVar_1_l1, if_pos hk, List.getElem?_eq_getElem hk]; simp only [Option.bind_eq_bind, Option.bind_some]; unfold F.impl_scope_typeOfVar_1; simp only [Option.bind_some]; rw [if_neg (by simpa using hp)])
    (fun k hk hp => by rw [F.slices_IndexFunc_VarType__impl_scope_typeOfVar_1_l1, if_pos hk, List.getElem?_eq_getElem hk]; simp only [Option.bind_eq_bind, Option.bind_some]; unfold F.impl_scope_typeOfVar_1; simp only [Option.bind_some]; rw [if_pos (by simpa using hp)]) _ 0 rfl, List.drop_zero]
  cases fixN (fun x => x.var = n) 0 l <;> rfl
theorem findV_cases (l : List VarType) (n : Int) : findV l n = -1 ∨ ∃ (j : Nat) (h : j < l.length), findV l n = (j : Int) ∧ l[j].var = n ∧ ∀ i (hi : i < l.length), i < j → l[i].var ≠ n := by
  unfold findV
  cases h : fixN (fun x : VarType => x.var = n) 0 l with
  | none => exact .inl rfl
  | some j =>
    obtain ⟨_, h2, h3, h4⟩ := fixN_some h
    exact .inr ⟨j, h2, rfl, h3, h4⟩
theorem findV_self (l : List VarType) (j : Nat) (hj : j < l.length) : findV l l[j].var = (j : Int) ↔ ∀ i (hi : i < l.length), i < j → l[i].var ≠ l[j].var := by
  constructor
  · intro h
    rcases findV_cases l l[j].var with q | ⟨k, hk, q1, q2, q3⟩
    · omega
    · have : k = j := by omega
      subst this; exact q3
  · intro h
    unfold findV
    cases hf : fixN (fun x : VarType => x.var = l[j].var) 0 l with
    | none => exact absurd rfl (fixN_none hf l[j] (List.getElem_mem hj))
    | some k =>
      obtain ⟨_, h2, h3, h4⟩ := fixN_some hf
      show (k : Int) = j
      have : ¬ k < j := fun hlt => h k h2 hlt h3
      have : ¬ j < k := fun hlt => h4 j hj (by omega) rfl
      omega
def funOk (w : List Data) (f : FunType) : Prop := typeOk w f.arg ∧ typeOk w f.res
def funsOk (w : List Data) (fs : List FunType) : Prop := fs.length ≤ 4 ∧ ∀ f, f ∈ fs → funOk w f
def varAt (w : List Data) (vs : List VarType) (j : Nat) : Prop := ∀ h : j < vs.length, 0 ≤ vs[j].var ∧ vs[j].var ≤ 5 ∧ typeOk w vs[j].type ∧ ∀ i (hi : i < vs.length), i < j → vs[i].var ≠ vs[j].var
def varsOk (w : List Data) (vs : List VarType) : Prop := ∀ j, 0 ≤ j → j < vs.length → varAt w vs j
theorem P.spec_l12Funs (w : List Data) (fs : List FunType) : F.spec_l12Funs w fs = some (dec (funsOk w fs)) := by
  unfold F.spec_l12Funs
  have key : ∀ (m i : Nat), fs.length - i = m → ∃ o, F.spec_l12Funs_l1 w fs i = some o ∧ match o with
      | .ret b => b = false ∧ ∃ f, f ∈ fs ∧ ¬ funOk w f
      | .go _ => fs.length ≤ 4 → ∀ j (h : j < fs.length), i ≤ j → funOk w fs[j] := by
    intro m
    induction m with
    | zero => intro i hm; rw [F.spec_l12Funs_l1, if_neg (by omega)]; exact ⟨_, rfl, fun _ j h h' => by omega⟩
    | succ m ih =>
      intro i hm
      have hi : i < fs.length := by omega
      rw [F.spec_l12Funs_l1, if_pos hi]
      by_cases h4 : i ≤ 4
      · rw [if_pos h4, List.getElem?_eq_getElem hi]
        simp only [Option.bind_eq_bind, Option.bind_some]
        rw [P.spec_l1Is, P.spec_l1Is]
        simp only [Option.bind_some]
        by_cases a1 : typeOk w fs[i].arg
        · rw [if_pos (dec_of a1)]
          by_cases a2 : typeOk w fs[i].res
          · rw [if_pos (dec_of a2)]
            obtain ⟨o, h1, h2⟩ := ih (i + 1) (by omega)
            refine ⟨o, h1, ?_⟩
            cases o with
            | ret b => exact h2
            | go _ =>
              intro hl j hj hij
              by_cases e : i = j
              · subst e; exact ⟨a1, a2⟩
              · exact h2 hl j hj (by omega)
          · rw [if_neg (by rw [dec_not a2]; simp)]; exact ⟨_, rfl, rfl, _, List.getElem_mem hi, fun h => a2 h.2⟩
        · rw [if_neg (by rw [dec_not a1]; simp)]; exact ⟨_, rfl, rfl, _, List.getElem_mem hi, fun h => a1 h.1⟩
      · rw [if_neg h4]; exact ⟨_, rfl, fun hl => by omega⟩
  obtain ⟨o, h1, h2⟩ := key _ 0 rfl
  rw [h1]
  simp only [Option.bind_eq_bind, Option.bind_some]
  cases o with
  | ret b =>
    obtain ⟨rfl, f, hf, hn⟩ := h2
    rw [dec_not fun h => hn (h.2 f hf)]
  | go _ =>
    show some (decide (fs.length ≤ 4)) = _
    rw [← dec_eq]; congr 1
    refine dec_congr ⟨fun h => ⟨h, fun f hf => ?_⟩, fun h => h.1⟩
    obtain ⟨j, hj, rfl⟩ := List.getElem_of_mem hf
    exact h2 h j hj (by omega)
theorem P.scope_funs (s : T_impl_scope) (hw : s.f0.length ≤ 1048576) : F.slices_ContainsFunc_FunType__impl_scope_ok_1 s.f1 s = some (dec (∃ f, f ∈ s.f1 ∧ ¬ funOk s.f0 f)) := by
  unfold F.slices_ContainsFunc_FunType__impl_scope_ok_1 F.slices_IndexFunc_FunType__impl_scope_ok_1
  have one : ∀ f, F.impl_scope_ok_1 f s = some (dec (¬ funOk s.f0 f)) := by
    intro f
    unfold F.impl_scope_ok_1
    rw [P.impl_typeOk _ _ hw, P.impl_typeOk _ _ hw]
    simp only [Option.bind_eq_bind, Option.bind_some]
    by_cases a1 : typeOk s.f0 f.arg
    · rw [if_pos (dec_of a1)]
      by_cases a2 : typeOk s.f0 f.res
      · rw [dec_of a2, dec_not (by simp [funOk, a1, a2])]; rfl
      · rw [dec_not a2, dec_of (fun h => a2 h.2)]; rfl
    · rw [if_neg (by rw [dec_not a1]; simp), dec_of fun h => a1 h.1]
  rw [findG (a := s.f1) (p := fun f => ¬ funOk s.f0 f) (L := F.slices_IndexFunc_FunType__impl_scope_ok_1_l1 s.f1 s) (fun k hk => by rw [F.slices_IndexFunc_FunType__impl_scope_ok_1_l1, if_neg (by omega)])
    (fun k hk hp => by rw [F.slices_IndexFunc_FunType__impl_scope_ok_1_l1, if_pos hk, List.getElem?_eq_getElem hk]; simp only [Option.bind_eq_bind, Option.bind_some]; rw [one]; simp only [Option.bind_some]; rw [if_neg (by rw [dec_not hp]; simp)])
    (fun k hk hp => by rw [F.slices_IndexFunc_FunType__impl_scope_ok_1_l1, if_pos hk, List.getElem?_eq_getElem hk]; simp only [Option.bind_eq_bind, Option.bind_some]; rw [one]; simp only [Option.bind_some]; rw [if_pos (dec_of hp)]) _ 0 rfl, List.drop_zero]
  cases hf : fixN (fun f => ¬ funOk s.f0 f) 0 s.f1 with
  | none =>
    have := fixN_none hf
    simp only [Option.bind_eq_bind, Option.bind_some]
    rw [dec_not fun ⟨f, h1, h2⟩ => this f h1 h2]; rfl
  | some j =>
    obtain ⟨_, h2, h3, _⟩ := fixN_some hf
    simp only [Option.bind_eq_bind, Option.bind_some]
    rw [dec_of ⟨_, List.getElem_mem h2, h3⟩]; simp
theorem P.spec_l12Vars (w : List Data) (vs : List VarType) : F.spec_l12Vars w vs = some (dec (varsOk w vs)) := by
  unfold F.spec_l12Vars
  rw [allN (n := vs.length) (r := false) (Q := varAt w vs) (L := F.spec_l12Vars_l1 w vs)
    (fun k hk => by rw [F.spec_l12Vars_l1, if_neg (by omega)])
    (fun k hk hq => by
      obtain ⟨q1, q2, q3, q4⟩ := hq hk
      rw [F.spec_l12Vars_l1, if_pos hk, List.getElem?_eq_getElem hk]
      simp only [Option.bind_eq_bind, Option.bind_some]
      rw [if_neg (by omega), if_neg (by omega), P.spec_l1Is, P.spec_l3Find]
      simp only [Option.bind_some]
      rw [if_pos (dec_of q3), if_pos ((findV_self vs k hk).2 q4)])
    (fun k hk hq => by
      rw [F.spec_l12Vars_l1, if_pos hk, List.getElem?_eq_getElem hk]
      simp only [Option.bind_eq_bind, Option.bind_some]
      by_cases a1 : vs[k].var < 0
      · rw [if_pos a1]
      by_cases a2 : 5 < vs[k].var
      · rw [if_neg a1, if_pos a2]
      rw [if_neg a1, if_neg a2, P.spec_l1Is, P.spec_l3Find]
      simp only [Option.bind_some]
      by_cases a3 : typeOk w vs[k].type
      · rw [if_pos (dec_of a3), if_neg fun h => hq fun _ => ⟨by omega, by omega, a3, (findV_self vs k hk).1 h⟩]
      · rw [if_neg (by rw [dec_not a3]; simp)]) _ 0 rfl]
  simp only [Option.bind_eq_bind, Option.bind_some]
  by_cases h : varsOk w vs
  · have h' : ∀ j, 0 ≤ j → j < vs.length → varAt w vs j := h
    rw [if_pos (dec_of h'), dec_of h]
  · have h' : ¬ ∀ j, 0 ≤ j → j < vs.length → varAt w vs j := h
    rw [if_neg (by rw [dec_not h']; simp), dec_not h]
theorem P.isVar (v : Int) : F.impl_isVar v = some (dec (0 ≤ v ∧ v ≤ 5)) := by
  unfold F.impl_isVar; rw [P.within]; rfl
theorem P.scope_ok (w : List Data) (fs : List FunType) (vs : List VarType) (hw : w.length ≤ 1048576) : F.impl_scope_ok ⟨w, fs, vs⟩ = some (dec (funsOk w fs ∧ varsOk w vs)) := by
  unfold F.impl_scope_ok
  by_cases h4 : 4 < fs.length
  · rw [if_pos h4, dec_not fun h => by have := h.1.1; omega]
  rw [if_neg h4]
  have := P.scope_funs ⟨w, fs, vs⟩ hw
  simp only at this
  rw [this]
  simp only [Option.bind_eq_bind, Option.bind_some]
  by_cases hf : ∃ f, f ∈ fs ∧ ¬ funOk w f
  · rw [if_pos (dec_of hf), dec_not fun h => by obtain ⟨f, h1, h2⟩ := hf; exact h2 (h.1.2 f h1)]
  rw [if_neg (by rw [dec_not hf]; simp)]
  have hfo : funsOk w fs := ⟨by omega, fun f h => Classical.byContradiction fun hn => hf ⟨f, h, hn⟩⟩
  have key : ∀ (m i : Nat) (st : Nat → Bool), vs.length - i = m → (∀ k, st k = true ↔ ∃ j, ∃ h : j < vs.length, j < i ∧ vs[j].var.toNat = k) → (∀ j (h : j < vs.length), j < i → 0 ≤ vs[j].var) →
      F.impl_scope_ok_l1 ⟨w, fs, vs⟩ st i = some (if dec (∀ j, i ≤ j → j < vs.length → varAt w vs j) = true then .go () else .ret false) := by
    intro m
    induction m with
    | zero =>
      intro i st hm hst hpos
      rw [F.impl_scope_ok_l1, if_neg (by simp only; omega), if_pos (dec_of fun j h1 h2 => by omega)]
    | succ m ih =>
      intro i st hm hst hpos
      have hi : i < vs.length := by omega
      have no : ¬ varAt w vs i → some (Lo.ret false) = some (if dec (∀ j, i ≤ j → j < vs.length → varAt w vs j) = true then (.go () : Lo Bool Unit) else .ret false) := fun hn => by
        rw [if_neg (by rw [dec_not fun h => hn (h i (Nat.le_refl _) hi)]; simp)]
      rw [F.impl_scope_ok_l1]
      simp only
      rw [if_pos hi, List.getElem?_eq_getElem hi]
      simp only [Option.bind_eq_bind, Option.bind_some]
      rw [P.isVar]
      simp only [Option.bind_some]
      by_cases a1 : 0 ≤ vs[i].var ∧ vs[i].var ≤ 5
      · rw [if_pos (dec_of a1), if_pos (by omega)]
        by_cases a2 : st vs[i].var.toNat = true
        · rw [if_pos a2]
          refine no fun hv => ?_
          obtain ⟨j, hj, hji, e⟩ := (hst _).1 a2
          have := hpos j hj hji
          exact (hv hi).2.2.2 j hj hji (by omega)
        · rw [if_neg a2, P.impl_typeOk _ _ hw]
          simp only [Option.bind_some]
          by_cases a3 : typeOk w vs[i].type
          · rw [if_pos (dec_of a3), ih (i + 1) _ (by omega) (fun k => ?_) (fun j hj hji => ?_)]
            · have hvi : varAt w vs i := fun _ => ⟨a1.1, a1.2, a3, fun j hj hji e => a2 ((hst _).2 ⟨j, hj, hji, by rw [e]⟩)⟩
              congr 2
              refine congrArg (· = true) (dec_congr ⟨fun h j h1 h2 => ?_, fun h j h1 h2 => h j (by omega) h2⟩)
              by_cases e : i = j
              · subst e; exact hvi
              · exact h j (by omega) h2
            · unfold updF
              by_cases e : k = vs[i].var.toNat
              · rw [if_pos e]; exact ⟨fun _ => ⟨i, hi, by omega, e.symm⟩, fun _ => rfl⟩
              · rw [if_neg e, hst]
                exact ⟨fun ⟨j, hj, h1, h2⟩ => ⟨j, hj, by omega, h2⟩, fun ⟨j, hj, h1, h2⟩ => ⟨j, hj, by
                  by_cases e' : j = i
                  · subst e'; exact absurd h2.symm e
                  · omega, h2⟩⟩
            · by_cases e' : j = i
              · subst e'; exact a1.1
              · exact hpos j hj (by omega)
          · rw [if_neg (by rw [dec_not a3]; simp)]; exact no fun hv => a3 (hv hi).2.2.1
      · rw [if_neg (by rw [dec_not a1]; simp)]; exact no fun hv => a1 ⟨(hv hi).1, (hv hi).2.1⟩
  rw [key _ 0 _ rfl (fun k => ⟨fun h => (by cases h), fun ⟨j, _, h, _⟩ => by omega⟩) (fun j _ h => by omega)]
  simp only [Option.bind_some]
  by_cases hv : varsOk w vs
  · have hv' : ∀ j, 0 ≤ j → j < vs.length → varAt w vs j := hv
    rw [if_pos (dec_of hv'), dec_of ⟨hfo, hv⟩]
  · have : ¬ ∀ j, 0 ≤ j → j < vs.length → varAt w vs j := hv
    rw [if_neg (by rw [dec_not this]; simp), dec_not fun h => hv h.2]
theorem arg_typeOk {w : List Data} (hw : worldOk w) {t : Ty} (ht : typeOk w t) {c : Int} (h : c ∈ ctorList w t) : ∀ a, a ∈ argList w t c → typeOk w a := by
  have hc := (world_ctors hw (tOk_of ht.1) (ctorList_mem h).1).2 _ (at_ctor h).2
  have hn := (ctorList_mem h).1
  intro a ha
  obtain ⟨b, hb, rfl⟩ := List.mem_map.1 ha
  obtain ⟨j, hj, rfl⟩ := List.getElem_of_mem hb
  have := hc.2.2.2.2 j (by omega) hj
  have ht2 := ht.2
  rcases ht.1 with q | ⟨q1, q2, q3, q4⟩
  · exact absurd q.1 hn
  unfold argOf
  rcases this with ⟨p1, p2⟩ | ⟨p1, p2, p3, p4⟩
  · rw [if_neg (by omega)]; exact ⟨.inl ⟨p1, p2⟩, by omega⟩
  · split
    · next e =>
      have hx : 0 ≤ (if (ctorOf w t c).index = 0 then t.index else (ctorOf w t c).index) ∧ (if (ctorOf w t c).index = 0 then t.index else (ctorOf w t c).index) ≤ 3 := by
        split
        · exact ⟨ht2, q4⟩
        · exact ⟨hc.2.2.1, hc.2.2.2.1⟩
      exact ⟨.inr ⟨p1, p2, by show -1 ≤ (if (ctorOf w t c).index = 0 then t.index else (ctorOf w t c).index); omega, hx.2⟩, hx.1⟩
    · next e => exact ⟨.inr ⟨p1, p2, p3, p4⟩, by omega⟩
theorem P.expr_kids (w : List Data) (hw : worldOk w) (fs : List FunType) (hf : ∀ f, f ∈ fs → funOk w f) (hl : fs.length ≤ 4) (vs : List VarType) (t : Ty) (ht : typeOk w t) (e : Expr) :
    ∃ ts us b, F.spec_l12Kids w fs vs t e = some (ts, b) ∧ F.impl_scope_kids ⟨w, fs, vs⟩ t e = some (us, b) ∧ (b = true → ts = us ∧ ∀ a, a ∈ ts → typeOk w a) := by
  have hnum : typeOk w ⟨-1, 0⟩ := ⟨.inl ⟨rfl, rfl⟩, by simp⟩
  have hd : t.data = -1 → t.index = 0 := fun h => ht.1.elim (fun q => q.2) fun q => by omega
  have he : eq2 (t.data, t.index) (-1, 0) ↔ t.data = -1 := ⟨fun h => h.1, fun h => ⟨h, hd h⟩⟩
  unfold F.spec_l12Kids F.impl_scope_kids
  simp only
  by_cases o3 : e.op = 3
  · simp only [if_pos o3, if_neg (show ¬ e.op = 1 by omega), if_neg (show ¬ e.op = 2 by omega)]
    by_cases n0 : e.n = 0
    · rw [if_pos n0, if_pos n0, P.spec_l1Ctors w hw t (tOk_of ht.1), P.impl_ctorsOf w hw t (tOk_of ht.1)]
      simp only [Option.bind_eq_bind, Option.bind_some]
      rw [P.spec_l1Has, P.slices_Contains_int]
      simp only [Option.bind_some]
      by_cases hc : e.ctor ∈ ctorList w t
      · rw [if_pos (dec_of hc), if_pos (dec_of hc), P.spec_l1Args w hw t (tOk_of ht.1) _ hc, P.impl_argTypes w hw t (tOk_of ht.1) _ hc]
        exact ⟨_, _, _, rfl, rfl, fun _ => ⟨rfl, arg_typeOk hw ht hc⟩⟩
      · rw [if_neg (by rw [dec_not hc]; simp), if_neg (by rw [dec_not hc]; simp)]
        exact ⟨_, _, _, rfl, rfl, fun h => by cases h⟩
    · rw [if_neg n0, if_neg n0]; exact ⟨_, _, _, rfl, rfl, fun h => by cases h⟩
  by_cases o1 : e.op = 1
  · simp only [if_neg o3, if_pos o1, if_neg (show ¬ e.op = 4 by omega)]
    by_cases c0 : e.ctor = 0
    · rw [if_pos c0]
      by_cases td : t.data = -1
      · rw [if_pos (dec_of (he.2 td)), if_pos td, P.within]
        simp only [Option.bind_eq_bind, Option.bind_some]
        by_cases n0 : 0 ≤ e.n
        · rw [if_pos n0]
          by_cases n9 : e.n ≤ 9
          · rw [if_pos (dec_of ⟨n0, n9⟩)]
            refine ⟨[], [], true, by simp [n9], by simp [c0], fun _ => ⟨rfl, fun a ha => by cases ha⟩⟩
          · rw [if_neg (by rw [dec_not fun h => n9 h.2]; simp)]
            exact ⟨[], [], false, by simp [n9], rfl, fun h => by cases h⟩
        · rw [if_neg n0, if_neg (by rw [dec_not fun h => n0 h.1]; simp)]
          exact ⟨_, _, _, rfl, rfl, fun h => by cases h⟩
      · rw [if_neg (by rw [dec_not fun h => td (he.1 h)]; simp), if_neg td]
        exact ⟨_, _, _, rfl, rfl, fun h => by cases h⟩
    · rw [if_neg c0]
      by_cases td : t.data = -1
      · rw [if_pos td, P.within]
        simp only [Option.bind_eq_bind, Option.bind_some]
        split
        · exact ⟨_, [], false, rfl, by simp [c0], fun h => by cases h⟩
        · exact ⟨_, _, _, rfl, rfl, fun h => by cases h⟩
      · rw [if_neg td]; exact ⟨_, _, _, rfl, rfl, fun h => by cases h⟩
  by_cases o2 : e.op = 2
  · simp only [if_neg o3, if_neg o1, if_pos o2, if_neg (show ¬ e.op = 4 by omega)]
    unfold F.impl_scope_typeOfVar
    simp only
    rw [P.findVar]
    simp only [Option.bind_eq_bind, Option.bind_some]
    rcases findV_cases vs e.n with q | ⟨j, hj, q1, q2, q3⟩
    · rw [q, if_pos (show (-1 : Int) < 0 by omega)]
      simp only [Option.bind_some]
      by_cases c0 : e.ctor = 0
      · rw [if_pos c0, P.spec_l3Find]
        simp only [Option.bind_some]
        rw [q, if_neg (show ¬ (0 : Int) ≤ -1 by omega), if_neg (by simp)]
        exact ⟨_, _, _, rfl, rfl, fun h => by cases h⟩
      · rw [if_neg c0, if_neg (by simp)]
        exact ⟨_, _, _, rfl, rfl, fun h => by cases h⟩
    · rw [q1, if_neg (show ¬ ((j : Nat) : Int) < 0 by omega), at_lt hj]
      simp only [Option.bind_some]
      simp only [if_true]
      rw [P.impl_fits]
      simp only [Option.bind_some]
      by_cases c0 : e.ctor = 0
      · rw [if_pos c0, P.spec_l3Find]
        simp only [Option.bind_some]
        rw [q1, if_pos (show (0 : Int) ≤ ((j : Nat) : Int) by omega), at_lt hj]
        simp only [Option.bind_some]
        rw [P.spec_fits]
        simp only [Option.bind_some]
        by_cases hfit : fitsP vs[j].type t
        · rw [if_pos (dec_of hfit), dec_of hfit]
          exact ⟨[], [], true, rfl, by simp [c0], fun _ => ⟨rfl, fun a ha => by cases ha⟩⟩
        · rw [if_neg (by rw [dec_not hfit]; simp), dec_not hfit]
          exact ⟨_, _, _, rfl, rfl, fun h => by cases h⟩
      · rw [if_neg c0]
        split
        · exact ⟨_, [], false, rfl, by simp [c0], fun h => by cases h⟩
        · exact ⟨_, _, _, rfl, rfl, fun h => by cases h⟩
  by_cases o4 : e.op = 4
  · simp only [if_neg o3, if_neg o1, if_neg o2, if_pos o4]
    by_cases c0 : e.ctor = 0
    · rw [if_pos c0]
      by_cases n0 : e.n = 0
      · rw [if_pos n0]
        by_cases td : t.data = -1
        · rw [if_pos td, if_pos n0, dec_of (he.2 td)]
          have e1 : t = ⟨-1, 0⟩ := by have := hd td; cases t; simp_all
          refine ⟨_, [t, t], true, rfl, by simp [c0], fun _ => ⟨by rw [e1], fun a ha => ?_⟩⟩
          have : a = ⟨-1, 0⟩ := by simpa using ha
          rw [this]; exact hnum
        · rw [if_neg td, dec_not fun h => td (he.1 h)]
          exact ⟨_, _, _, rfl, rfl, fun h => by cases h⟩
      · rw [if_neg n0]
        split
        · exact ⟨_, _, _, rfl, rfl, fun h => by cases h⟩
        · exact ⟨_, _, _, rfl, rfl, fun h => by cases h⟩
    · rw [if_neg c0]
      split
      · split
        · exact ⟨_, [t, t], false, rfl, by simp [c0], fun h => by cases h⟩
        · exact ⟨_, _, _, rfl, rfl, fun h => by cases h⟩
      · exact ⟨_, _, _, rfl, rfl, fun h => by cases h⟩
  by_cases o5 : e.op = 5
  · simp only [if_neg o3, if_neg o1, if_neg o2, if_neg o4, if_pos o5]
    rw [P.within, wrap_in (by omega) (by omega)]
    simp only [Option.bind_eq_bind, Option.bind_some]
    by_cases c0 : e.ctor = 0
    · rw [if_pos c0]
      by_cases n0 : e.n < 0
      · rw [if_pos n0, if_neg (by rw [dec_not fun h => by omega]; simp)]
        exact ⟨_, _, _, rfl, rfl, fun h => by cases h⟩
      rw [if_neg n0]
      by_cases nl : (fs.length : Int) ≤ e.n
      · rw [if_pos nl, if_neg (by rw [dec_not fun h => by omega]; simp)]
        exact ⟨_, _, _, rfl, rfl, fun h => by cases h⟩
      rw [if_neg nl, if_pos (dec_of (by omega)), if_pos c0]
      have hj : e.n.toNat < fs.length := by omega
      have hat : at? fs e.n = some fs[e.n.toNat] := by unfold at?; rw [if_pos (by omega), List.getElem?_eq_getElem hj]
      rw [hat]
      simp only [Option.bind_some]
      rw [P.spec_fits, P.impl_fits]
      simp only [Option.bind_some]
      refine ⟨_, _, _, rfl, rfl, fun _ => ⟨rfl, fun a ha => ?_⟩⟩
      have : a = fs[e.n.toNat].arg := by simpa using ha
      rw [this]; exact (hf _ (List.getElem_mem hj)).1
    · rw [if_neg c0]
      split
      · exact ⟨_, _, _, rfl, rfl, fun h => by cases h⟩
      · exact ⟨_, _, _, rfl, rfl, fun h => by cases h⟩
  simp only [if_neg o3, if_neg o1, if_neg o2, if_neg o4, if_neg o5]
  by_cases c0 : e.ctor = 0
  · rw [if_pos c0]; exact ⟨_, _, _, rfl, rfl, fun h => by cases h⟩
  · rw [if_neg c0]; exact ⟨_, _, _, rfl, rfl, fun h => by cases h⟩
/-- An expression for a type, at most d deep. -/
def etp (w : List Data) (fs : List FunType) (vs : List VarType) : Nat → Ty → Expr → Prop
  | 0, _, _ => False
  | d + 1, t, e => ∃ ts, F.spec_l12Kids w fs vs t e = some (ts, true) ∧ e.kids.length = ts.length ∧ ∀ i, 0 ≤ i → i < ts.length → ∀ (h : i < ts.length) (h' : i < e.kids.length), etp w fs vs d ts[i] e.kids[i]
theorem P.spec_l12Typed (w : List Data) (hw : worldOk w) (fs : List FunType) (hf : ∀ f, f ∈ fs → funOk w f) (hl : fs.length ≤ 4) (vs : List VarType) : ∀ (d : Nat) (t : Ty) (e : Expr), typeOk w t → d ≤ 10 → F.spec_l12Typed w fs vs t e d = some (dec (etp w fs vs d t e))
  | 0, t, e, ht, hd => by rw [F.spec_l12Typed, if_pos (by omega), dec_not (by simp [etp])]
  | d + 1, t, e, ht, hd => by
    rw [F.spec_l12Typed, if_neg (by omega)]
    obtain ⟨ts, us, b, h1, h2, h3⟩ := P.expr_kids w hw fs hf hl vs t ht e
    rw [h1]
    simp only [Option.bind_eq_bind, Option.bind_some]
    have inj : ∀ ts', F.spec_l12Kids w fs vs t e = some (ts', true) → ts' = ts ∧ b = true := fun ts' h => by rw [h1] at h; cases h; exact ⟨rfl, rfl⟩
    cases b with
    | false => rw [if_neg (by simp), dec_not fun ⟨ts', q, _⟩ => by have := (inj ts' q).2; cases this]
    | true =>
      rw [if_pos rfl]
      by_cases h4 : e.kids.length = ts.length
      · rw [if_pos h4, allN (n := ts.length) (r := false) (Q := fun i => ∀ (h : i < ts.length) (h' : i < e.kids.length), etp w fs vs d ts[i] e.kids[i]) (L := F.spec_l12Typed_l1 w fs vs e ((d + 1 : Nat) : Int) (ts, true))
          (fun k hk => by rw [F.spec_l12Typed_l1]; simp only; rw [if_neg (by omega)])
          (fun k hk hq => by
            have hk' : k < e.kids.length := by omega
            rw [F.spec_l12Typed_l1]
            simp only
            rw [if_pos hk, List.getElem?_eq_getElem hk, List.getElem?_eq_getElem hk']
            simp only [Option.bind_eq_bind, Option.bind_some]
            rw [wrap_in (by omega) (by omega), show ((d + 1 : Nat) : Int) - 1 = (d : Int) from by omega, P.spec_l12Typed w hw fs hf hl vs d _ _ ((h3 rfl).2 _ (List.getElem_mem hk)) (by omega)]
            simp only [Option.bind_some]
            rw [if_pos (dec_of (hq hk hk'))])
          (fun k hk hq => by
            have hk' : k < e.kids.length := by omega
            rw [F.spec_l12Typed_l1]
            simp only
            rw [if_pos hk, List.getElem?_eq_getElem hk, List.getElem?_eq_getElem hk']
            simp only [Option.bind_eq_bind, Option.bind_some]
            rw [wrap_in (by omega) (by omega), show ((d + 1 : Nat) : Int) - 1 = (d : Int) from by omega, P.spec_l12Typed w hw fs hf hl vs d _ _ ((h3 rfl).2 _ (List.getElem_mem hk)) (by omega)]
            simp only [Option.bind_some]
            rw [if_neg (by rw [dec_not fun h => hq fun _ _ => h]; simp)]) _ 0 rfl]
        simp only [Option.bind_some]
        by_cases hall : ∀ i, 0 ≤ i → i < ts.length → ∀ (h : i < ts.length) (h' : i < e.kids.length), etp w fs vs d ts[i] e.kids[i]
        · rw [if_pos (dec_of hall), dec_of ⟨ts, h1, h4, hall⟩]
        · rw [if_neg (by rw [dec_not hall]; simp), dec_not fun ⟨ts', q1, q2, q3⟩ => by obtain ⟨rfl, _⟩ := inj ts' q1; exact hall q3]
      · rw [if_neg h4, dec_not fun ⟨ts', q1, q2, q3⟩ => by obtain ⟨rfl, _⟩ := inj ts' q1; exact h4 q2]
theorem P.expr_count (v : Expr) (hv : v.wt ≤ 1048576) : ∀ (most : Nat), most ≤ 60 → ∃ c : Nat, F.spec_l12Count v most = some (c : Int) ∧ 1 ≤ c ∧ c ≤ 1 + v.wt ∧ (1 + v.wt ≤ most → c = 1 + v.wt) ∧ (most < 1 + v.wt → most < c) := by
  induction v using Expr.ind with
  | _ v ih =>
    intro most hm
    have hw := v.wt_eq
    have key : ∀ (m i : Nat) (n : Nat), v.kids.length - i = m → 1 ≤ n → n + ((v.kids.drop i).map fun k => 1 + k.wt).sum ≤ 1 + v.wt →
        ∃ c : Nat, F.spec_l12Count_l1 v most n i = some (c : Int) ∧ n ≤ c ∧ c ≤ n + ((v.kids.drop i).map fun k => 1 + k.wt).sum ∧ (n + ((v.kids.drop i).map fun k => 1 + k.wt).sum ≤ most → c = n + ((v.kids.drop i).map fun k => 1 + k.wt).sum) ∧ (most < n + ((v.kids.drop i).map fun k => 1 + k.wt).sum → most < c) := by
      intro m
      induction m with
      | zero =>
        intro i n hmi hn hb
        rw [F.spec_l12Count_l1, if_neg (by omega), List.drop_eq_nil_of_le (by omega)]
        exact ⟨n, rfl, by omega, by simp, by simp, by simp⟩
      | succ m ih2 =>
        intro i n hmi hn hb
        have hi : i < v.kids.length := by omega
        rw [List.drop_eq_getElem_cons hi] at hb ⊢
        simp only [List.map_cons, List.sum_cons] at hb ⊢
        rw [F.spec_l12Count_l1, if_pos hi]
        by_cases hle : n ≤ most
        · rw [if_pos (by omega), List.getElem?_eq_getElem hi]
          simp only [Option.bind_eq_bind, Option.bind_some]
          have hk : v.kids[i].wt ≤ 1048576 := by omega
          obtain ⟨c, h1, h2, h3, h4, h5⟩ := ih v.kids[i] (List.getElem_mem hi) hk (most - n) (by omega)
          rw [wrap_in (by omega) (by omega), show ((most : Int) - (n : Int)) = ((most - n : Nat) : Int) from by omega, h1]
          simp only [Option.bind_some]
          rw [wrap_in (by omega) (by omega), show ((n : Int) + (c : Int)) = ((n + c : Nat) : Int) from by omega]
          obtain ⟨c', g1, g2, g3, g4, g5⟩ := ih2 (i + 1) (n + c) (by omega) (by omega) (by omega)
          refine ⟨c', g1, by omega, by omega, fun h => ?_, fun h => ?_⟩
          · have := h4 (by omega)
            have := g4 (by omega)
            omega
          · by_cases hx : 1 + v.kids[i].wt ≤ most - n
            · have := h4 hx
              exact g5 (by omega)
            · have := h5 (by omega)
              omega
        · rw [if_neg (by omega)]
          exact ⟨n, rfl, by omega, by omega, fun h => by omega, fun h => by omega⟩
    have hs : ((v.kids.drop 0).map fun k => 1 + k.wt).sum = v.wt := by
      rw [List.drop_zero, hw]
      have : ∀ l : List Expr, (l.map fun k => 1 + k.wt).sum = wtL Expr.wt l := by
        intro l
        induction l with
        | nil => rfl
        | cons a r ih => simp [ih]
      exact this _
    obtain ⟨c, h1, h2, h3, h4, h5⟩ := key _ 0 1 rfl (by omega) (by omega)
    rw [hs] at h3 h4 h5
    unfold F.spec_l12Count
    have h1' : F.spec_l12Count_l1 v most (1 : Int) 0 = some (c : Int) := h1
    rw [h1']
    exact ⟨c, rfl, by omega, h3, h4, h5⟩
theorem wt_ekids (v : Expr) : v.wt = ((v.kids.drop 0).map fun k => 1 + k.wt).sum := by
  rw [List.drop_zero, v.wt_eq]
  have : ∀ l : List Expr, (l.map fun k => 1 + k.wt).sum = wtL Expr.wt l := by
    intro l
    induction l with
    | nil => rfl
    | cons a r ih => simp [ih]
  exact (this _).symm
def escanned (w : List Data) (fs : List FunType) (vs : List VarType) (d : Nat) (t : Ty) (e : Expr) (count : Nat) (b : Bool) (c : Nat) : Prop :=
  (b = true ↔ etp w fs vs d t e ∧ count + (1 + e.wt) ≤ 60) ∧ (b = true → c = count + (1 + e.wt))
theorem P.expr_loop (w : List Data) (fs : List FunType) (vs : List VarType) (d : Nat) (hd : d + 1 ≤ 10) (v : Expr) (args : List Ty) (hl : args.length = v.kids.length) (hargs : ∀ a, a ∈ args → typeOk w a)
    (L : Int → Nat → Option (Lo (Bool × Int) Int))
    (hL : ∀ z i, L z i = if i < v.kids.length then v.kids[i]? >>= fun x => args[i]? >>= fun y => F.impl_scope_scan ⟨w, fs, vs⟩ y x (IntKind.i64.wrap (((11 - (d + 1) : Nat) : Int) + 1)) z >>= fun r => if r.1 = true then L r.2 (i + 1) else some (.ret (false, r.2)) else some (.go z))
    (ih : ∀ (t : Ty) (x : Expr) (count : Nat), typeOk w t → count ≤ 60 → ∃ b c, F.impl_scope_scan ⟨w, fs, vs⟩ t x ((11 - d : Nat) : Int) (count : Int) = some (b, ((c : Nat) : Int)) ∧ escanned w fs vs d t x count b c) :
    ∀ (m i : Nat) (z : Nat), v.kids.length - i = m → z ≤ 60 → ∃ o, L z i = some o ∧
      match o with
      | .ret (b, c) => b = false ∧ ∃ c' : Nat, c = (c' : Int) ∧ ¬ ((∀ j, i ≤ j → j < args.length → ∀ (h : j < args.length) (h' : j < v.kids.length), etp w fs vs d args[j] v.kids[j]) ∧ z + ((v.kids.drop i).map fun k => 1 + k.wt).sum ≤ 60)
      | .go c => c = ((z + ((v.kids.drop i).map fun k => 1 + k.wt).sum : Nat) : Int) ∧ (∀ j, i ≤ j → j < args.length → ∀ (h : j < args.length) (h' : j < v.kids.length), etp w fs vs d args[j] v.kids[j]) ∧ z + ((v.kids.drop i).map fun k => 1 + k.wt).sum ≤ 60 := by
  intro m
  induction m with
  | zero =>
    intro i z hm hz
    rw [hL, if_neg (by omega)]
    refine ⟨_, rfl, ?_⟩
    rw [List.drop_eq_nil_of_le (by omega)]
    exact ⟨by simp, fun j h1 h2 => by omega, by simpa using hz⟩
  | succ m ihm =>
    intro i z hm hz
    have hi : i < v.kids.length := by omega
    have hi' : i < args.length := by omega
    rw [hL, if_pos hi, List.getElem?_eq_getElem hi, List.getElem?_eq_getElem hi', List.drop_eq_getElem_cons hi]
    simp only [Option.bind_eq_bind, Option.bind_some, List.map_cons, List.sum_cons]
    rw [wrap_in (by omega) (by omega), show (((11 - (d + 1) : Nat) : Int) + 1) = ((11 - d : Nat) : Int) from by omega]
    obtain ⟨b, c, h1, h2, h3⟩ := ih args[i] v.kids[i] z (hargs _ (List.getElem_mem hi')) hz
    rw [h1]
    simp only [Option.bind_some]
    cases b with
    | true =>
      rw [if_pos rfl]
      have hc := h3 rfl
      obtain ⟨hp, hle⟩ := h2.1 rfl
      obtain ⟨o, g1, g2⟩ := ihm (i + 1) c (by omega) (by omega)
      refine ⟨o, g1, ?_⟩
      cases o with
      | ret r =>
        obtain ⟨b', c'⟩ := r
        obtain ⟨q1, c2, q2, q3⟩ := g2
        exact ⟨q1, c2, q2, fun hh => q3 ⟨fun j a b e f => hh.1 j (by omega) b e f, by omega⟩⟩
      | go r =>
        obtain ⟨q1, q2, q3⟩ := g2
        refine ⟨by rw [q1]; congr 1; omega, fun j a b e f => ?_, by omega⟩
        by_cases hj : i = j
        · subst hj; exact hp
        · exact q2 j (by omega) b e f
    | false =>
      rw [if_neg (by simp)]
      refine ⟨_, rfl, rfl, c, rfl, fun hh => ?_⟩
      have := h2.2 ⟨hh.1 i (Nat.le_refl _) hi' hi' hi, by omega⟩
      cases this
theorem P.exprScan (w : List Data) (hw : worldOk w) (fs : List FunType) (hf : ∀ f, f ∈ fs → funOk w f) (hl : fs.length ≤ 4) (vs : List VarType) : ∀ (d : Nat) (t : Ty) (v : Expr) (count : Nat), d ≤ 10 → typeOk w t → count ≤ 60 →
    ∃ b c, F.impl_scope_scan ⟨w, fs, vs⟩ t v ((11 - d : Nat) : Int) (count : Int) = some (b, ((c : Nat) : Int)) ∧ escanned w fs vs d t v count b c
  | d, t, v, count, hd, ht, hc => by
    have e1 : IntKind.i64.wrap ((count : Int) + 1) = ((count + 1 : Nat) : Int) := by rw [wrap_in (by omega) (by omega)]; omega
    have no : ∀ (h : ¬ (etp w fs vs d t v ∧ count + (1 + v.wt) ≤ 60)), ∃ b c, (some (false, ((count + 1 : Nat) : Int)) : Option (Bool × Int)) = some (b, ((c : Nat) : Int)) ∧ escanned w fs vs d t v count b c :=
      fun h => ⟨false, count + 1, rfl, ⟨fun h => (by cases h), fun hh => absurd hh h⟩, fun h => by cases h⟩
    rw [F.impl_scope_scan, e1]
    by_cases h60 : (60 : Int) < ((count + 1 : Nat) : Int)
    · rw [if_pos h60]; exact no fun h => by omega
    rw [if_neg h60]
    match d, hd with
    | 0, _ =>
      rw [if_pos (by omega)]
      exact no fun h => h.1.elim
    | d + 1, hd =>
      rw [if_neg (by omega)]
      obtain ⟨ts, us, b, h1, h2, h3⟩ := P.expr_kids w hw fs hf hl vs t ht v
      rw [h2]
      simp only [Option.bind_eq_bind, Option.bind_some]
      have inj : ∀ ts', F.spec_l12Kids w fs vs t v = some (ts', true) → ts' = ts ∧ b = true := fun ts' h => by rw [h1] at h; cases h; exact ⟨rfl, rfl⟩
      cases b with
      | false => rw [if_neg (by simp)]; exact no fun ⟨⟨ts', q, _⟩, _⟩ => by have := (inj ts' q).2; cases this
      | true =>
        obtain ⟨rfl, h5⟩ := h3 rfl
        rw [if_pos rfl]
        by_cases h4 : ts.length = v.kids.length
        · rw [if_pos h4]
          obtain ⟨o, g1, g2⟩ := P.expr_loop w fs vs d hd v ts h4 h5 (F.impl_scope_scan_l1 ⟨w, fs, vs⟩ v ((11 - (d + 1) : Nat) : Int) (ts, true)) (fun z i => by rw [F.impl_scope_scan_l1]) (fun t x c ht hc => P.exprScan w hw fs hf hl vs d t x c (by omega) ht hc) _ 0 (count + 1) rfl (by omega)
          rw [g1]
          simp only [Option.bind_some]
          have hwt := wt_ekids v
          cases o with
          | ret r =>
            obtain ⟨b, c⟩ := r
            obtain ⟨rfl, c', rfl, q3⟩ := g2
            refine ⟨false, c', rfl, ⟨fun h => (by cases h), fun hh => absurd ⟨?_, ?_⟩ q3⟩, fun h => by cases h⟩
            · obtain ⟨⟨ts', p1, p2, p3⟩, _⟩ := hh
              obtain ⟨rfl, _⟩ := inj ts' p1; exact p3
            · have := hh.2; omega
          | go c =>
            obtain ⟨rfl, q2, q3⟩ := g2
            exact ⟨true, _, rfl, ⟨fun _ => ⟨⟨ts, h1, h4.symm, q2⟩, by omega⟩, fun _ => rfl⟩, fun _ => by omega⟩
        · rw [if_neg h4]
          exact no fun ⟨⟨ts', p1, p2, p3⟩, _⟩ => by obtain ⟨rfl, _⟩ := inj ts' p1; exact h4 p2.symm
termination_by d => d
def exprOk (w : List Data) (fs : List FunType) (vs : List VarType) (t : Ty) (e : Expr) : Prop := typeValid w t ∧ funsOk w fs ∧ varsOk w vs ∧ etp w fs vs 10 t e ∧ 1 + e.wt ≤ 60
theorem P.spec_ExprValid (w : List Data) (fs : List FunType) (vs : List VarType) (t : Ty) (e : Expr) (hw : smallW w) (he : e.wt ≤ 1048576) : F.spec_ExprValid w fs vs t e = some (dec (exprOk w fs vs t e)) := by
  unfold F.spec_ExprValid F.spec_l12Right F.spec_l12Is
  rw [P.spec_TypeValid w t hw, P.spec_l12Funs, P.spec_l12Vars]
  simp only [Option.bind_eq_bind, Option.bind_some]
  by_cases h1 : typeValid w t
  · rw [if_pos (dec_of h1)]
    by_cases h2 : funsOk w fs
    · rw [if_pos (dec_of h2)]
      simp only [Option.bind_some]
      by_cases h3 : varsOk w vs
      · rw [if_pos (dec_of h3)]
        have := P.spec_l12Typed w h1.1 fs h2.2 h2.1 vs 10 t e h1.2 (by omega)
        have e10 : F.spec_l12Typed w fs vs t e 10 = some (dec (etp w fs vs 10 t e)) := this
        rw [e10]
        simp only [Option.bind_some]
        by_cases h4 : etp w fs vs 10 t e
        · rw [if_pos (dec_of h4)]
          obtain ⟨c, g1, g2, g3, g4, g5⟩ := P.expr_count e he 60 (by omega)
          have g1' : F.spec_l12Count e 60 = some (c : Int) := g1
          rw [g1']
          simp only [Option.bind_some]
          rw [← dec_eq]; congr 1
          refine dec_congr ⟨fun hc => ⟨h1, h2, h3, h4, ?_⟩, fun hh => ?_⟩
          · apply Classical.byContradiction; intro hn; have := g5 (by omega); omega
          · have := g4 hh.2.2.2.2; have := hh.2.2.2.2; omega
        · rw [if_neg (by rw [dec_not h4]; simp)]
          simp only [Option.bind_some]
          rw [dec_not fun h => h4 h.2.2.2.1]
      · rw [if_neg (by rw [dec_not h3]; simp), dec_not fun h => h3 h.2.2.1]
    · rw [if_neg (by rw [dec_not h2]; simp)]
      simp only [Option.bind_some]
      rw [if_neg (by simp), dec_not fun h => h2 h.2.1]
  · rw [if_neg (by rw [dec_not h1]; simp)]
    simp only [Option.bind_some]
    rw [if_neg (by simp), dec_not fun h => h1 h.1]
theorem P.impl_ExprValid (w : List Data) (fs : List FunType) (vs : List VarType) (t : Ty) (e : Expr) (hw : smallW w) (he : e.wt ≤ 1048576) : F.impl_ExprValid w fs vs t e = some (dec (exprOk w fs vs t e)) := by
  unfold F.impl_ExprValid F.impl_scope_expr
  rw [P.impl_TypeValid w t hw, P.scope_ok w fs vs hw.1]
  simp only [Option.bind_eq_bind, Option.bind_some]
  by_cases h1 : typeValid w t
  · rw [if_pos (dec_of h1)]
    by_cases h2 : funsOk w fs ∧ varsOk w vs
    · rw [if_pos (dec_of h2)]
      obtain ⟨b, c, g1, g2, _⟩ := P.exprScan w h1.1 fs h2.1.2 h2.1.1 vs 10 t e 0 (by omega) h1.2 (by omega)
      have g1' : F.impl_scope_scan ⟨w, fs, vs⟩ t e 1 0 = some (b, (c : Int)) := g1
      rw [g1']
      simp only [Option.bind_some]
      congr 1
      cases b with
      | true => rw [dec_of ⟨h1, h2.1, h2.2, (g2.1 rfl).1, by have := (g2.1 rfl).2; omega⟩]
      | false => rw [dec_not fun hh => by have := g2.2 ⟨hh.2.2.2.1, by have := hh.2.2.2.2; omega⟩; cases this]
    · rw [if_neg (by rw [dec_not h2]; simp), dec_not fun h => h2 ⟨h.2.1, h.2.2.1⟩]
  · rw [if_neg (by rw [dec_not h1]; simp), dec_not fun h => h1 h.1]
theorem kids_shape {w : List Data} (hw : worldOk w) {fs : List FunType} {vs : List VarType} {t : Ty} {e : Expr} {ts : List Ty} (ht : typeOk w t) (h : F.spec_l12Kids w fs vs t e = some (ts, true)) :
    (e.op = 3 ∧ e.ctor ∈ ctorList w t ∧ ts = argList w t e.ctor) ∨ (e.op = 4 ∧ ts = [⟨-1, 0⟩, ⟨-1, 0⟩]) ∨ (e.op = 1 ∧ 0 ≤ e.n ∧ e.n ≤ 9 ∧ ts = []) ∨ (e.op = 2 ∧ ts = []) ∨
      (e.op = 5 ∧ 0 ≤ e.n ∧ e.n < fs.length ∧ ∃ f, at? fs e.n = some f ∧ ts = [f.arg]) := by
  unfold F.spec_l12Kids at h
  by_cases o3 : e.op = 3
  · rw [if_pos o3] at h
    by_cases n0 : e.n = 0
    · rw [if_pos n0, P.spec_l1Ctors w hw t (tOk_of ht.1)] at h
      simp only [Option.bind_eq_bind, Option.bind_some] at h
      rw [P.spec_l1Has] at h
      simp only [Option.bind_some] at h
      by_cases hc : e.ctor ∈ ctorList w t
      · rw [if_pos (dec_of hc), P.spec_l1Args w hw t (tOk_of ht.1) _ hc] at h
        simp only [Option.bind_some] at h
        cases h
        exact .inl ⟨o3, hc, rfl⟩
      · rw [if_neg (by rw [dec_not hc]; simp)] at h; cases h
    · rw [if_neg n0] at h; cases h
  rw [if_neg o3] at h
  by_cases c0 : e.ctor = 0
  · rw [if_pos c0] at h
    by_cases o4 : e.op = 4
    · rw [if_pos o4] at h
      split at h
      · have h := Option.some.inj h
        exact .inr (.inl ⟨o4, (congrArg Prod.fst h).symm⟩)
      · cases h
    rw [if_neg o4] at h
    by_cases o1 : e.op = 1
    · rw [if_pos o1] at h
      split at h
      · split at h
        · next n0 =>
          have h := Option.some.inj h
          have h2 := congrArg Prod.snd h
          simp at h2
          exact .inr (.inr (.inl ⟨o1, n0, h2, (congrArg Prod.fst h).symm⟩))
        · cases h
      · cases h
    rw [if_neg o1] at h
    by_cases o2 : e.op = 2
    · rw [if_pos o2, P.spec_l3Find] at h
      simp only [Option.bind_eq_bind, Option.bind_some] at h
      refine .inr (.inr (.inr (.inl ⟨o2, ?_⟩)))
      split at h
      · cases hx : at? vs (findV vs e.n) with
        | none => rw [hx] at h; cases h
        | some x =>
          rw [hx] at h
          simp only [Option.bind_some] at h
          cases hy : F.spec_l12Fits x.type t with
          | none => rw [hy] at h; cases h
          | some y => rw [hy] at h; simp only [Option.bind_some] at h; exact (congrArg Prod.fst (Option.some.inj h)).symm
      · cases h
    rw [if_neg o2] at h
    by_cases o5 : e.op = 5
    · rw [if_pos o5] at h
      split at h
      · cases h
      next n0 =>
      split at h
      · cases h
      next n1 =>
      cases hx : at? fs e.n with
      | none => rw [hx] at h; cases h
      | some x =>
        rw [hx] at h
        simp only [Option.bind_eq_bind, Option.bind_some] at h
        cases hy : F.spec_l12Fits x.res t with
        | none => rw [hy] at h; cases h
        | some y =>
          rw [hy] at h
          simp only [Option.bind_some] at h
          exact .inr (.inr (.inr (.inr ⟨o5, by omega, by omega, x, rfl, (congrArg Prod.fst (Option.some.inj h)).symm⟩)))
    · rw [if_neg o5] at h; cases h
  · rw [if_neg c0] at h; cases h
theorem lensT_kids (c0 : Nat) : ∀ (T : List ByteArray) (ks : List Expr), T.length = ks.length → (∀ i (h : i < T.length) (h' : i < ks.length), T[i].size + 1 ≤ c0 * (1 + ks[i].wt)) → lensT T ≤ c0 * (ks.map fun k => 1 + k.wt).sum
  | [], [], _, _ => by simp [lensT]
  | [], _ :: _, h, _ => by simp at h
  | _ :: _, [], h, _ => by simp at h
  | x :: T, k :: ks, h, hh => by
    have h1 := hh 0 (by simp) (by simp)
    have h2 := lensT_kids c0 T ks (by simpa using h) fun i hi hi' => by have := hh (i + 1) (by simpa using hi) (by simpa using hi'); simpa using this
    simp only [lensT, List.map_cons, List.sum_cons, List.getElem_cons_zero] at h1 h2 ⊢
    rw [Nat.mul_add]
    omega
theorem P.text_loop (s : T_impl_scope) (t : Ty) (e : Expr) (ts : List Ty) (hl : e.kids.length = ts.length) (hk : e.kids.length ≤ 67108864) (T : List ByteArray) (hT : T.length = ts.length)
    (h : ∀ i (h : i < T.length), ∀ (h1 : i < ts.length) (h2 : i < e.kids.length), F.impl_scope_text s ts[i] e.kids[i] = some T[i]) : ∀ k, k ≤ T.length → F.impl_scope_text_l1 s t e (ts, true) (T.length - k) (T.take (T.length - k)) = some T
  | 0, _ => by rw [F.impl_scope_text_l1, if_neg (by omega)]; simp
  | k + 1, hk2 => by
    have hi : T.length - (k + 1) < T.length := by omega
    rw [F.impl_scope_text_l1, if_pos (by omega), List.getElem?_eq_getElem (by omega)]
    simp only [Option.bind_eq_bind, Option.bind_some]
    rw [List.getElem?_eq_getElem (by omega)]
    simp only [Option.bind_some]
    rw [h _ hi (by omega) (by omega)]
    simp only [Option.bind_some]
    rw [if_pos (by simp; omega)]
    have e1 : T.length - (k + 1) + 1 = T.length - k := by omega
    have e2 : T.take (T.length - (k + 1)) ++ [T[T.length - (k + 1)]] = T.take (T.length - k) := by rw [← e1, List.take_succ_eq_append_getElem hi]
    rw [e1, e2]
    exact P.text_loop s t e ts hl hk T hT h k (by omega)
theorem P.spec_text_loop (w : List Data) (fs : List FunType) (e : Expr) (ts : List Ty) (hl : e.kids.length = ts.length) (nm : ByteArray) (hn : nm.size ≤ 1048576) (T : List ByteArray) (hT : T.length = ts.length) (hb : lensT T ≤ 140737488355328)
    (h : ∀ i (h : i < T.length), ∀ (h1 : i < ts.length) (h2 : i < e.kids.length), F.spec_l12Text w fs ts[i] e.kids[i] = some T[i]) : ∀ k, k ≤ T.length →
    F.spec_l12Text_l1 w fs e ts (nm ++ preT ⟨#[40]⟩ ⟨#[44]⟩ (T.take (T.length - k))) (T.length - k) = some (nm ++ preT ⟨#[40]⟩ ⟨#[44]⟩ T)
  | 0, _ => by rw [F.spec_l12Text_l1, if_neg (by omega)]; simp
  | k + 1, hk2 => by
    have hi : T.length - (k + 1) < T.length := by omega
    have e1 : T.length - (k + 1) + 1 = T.length - k := by omega
    have e2 : T.take (T.length - k) = T.take (T.length - (k + 1)) ++ [T[T.length - (k + 1)]] := by rw [← e1, List.take_succ_eq_append_getElem hi]
    have z0 : (⟨#[40]⟩ : ByteArray).size = 1 := rfl
    have z1 : (⟨#[44]⟩ : ByteArray).size = 1 := rfl
    have z2 := preT_size z0 z1 (T.take (T.length - (k + 1)))
    have z3 := lensT_take_le T (T.length - k)
    rw [e2, lensT_snoc] at z3
    have ih := P.spec_text_loop w fs e ts hl nm hn T hT hb h k (by omega)
    rw [e2, preT_snoc] at ih
    rw [F.spec_l12Text_l1, if_pos (by omega)]
    by_cases h0 : T.length - (k + 1) = 0
    · rw [if_pos h0, if_pos (by rw [ba_add]; omega), List.getElem?_eq_getElem (by omega)]
      simp only [Option.bind_eq_bind, Option.bind_some]
      rw [List.getElem?_eq_getElem (by omega)]
      simp only [Option.bind_some]
      rw [h _ hi (by omega) (by omega)]
      simp only [Option.bind_some]
      rw [if_pos (by rw [ba_add, ba_add]; omega), e1]
      rw [if_pos (by rw [h0]; simp)] at ih
      rw [ba_assoc, ba_assoc, ← ba_assoc (preT _ _ _)]
      exact ih
    · rw [if_neg h0, if_pos (by rw [ba_add]; omega), List.getElem?_eq_getElem (by omega)]
      simp only [Option.bind_eq_bind, Option.bind_some]
      rw [List.getElem?_eq_getElem (by omega)]
      simp only [Option.bind_some]
      rw [h _ hi (by omega) (by omega)]
      simp only [Option.bind_some]
      rw [if_pos (by rw [ba_add, ba_add]; omega), e1]
      rw [if_neg (by intro hh; have := congrArg List.length hh; simp at this; omega)] at ih
      rw [ba_assoc, ba_assoc, ← ba_assoc (preT _ _ _)]
      exact ih
theorem P.impl_listed (T : List ByteArray) (hb : lensT T ≤ 140737488355328) : F.impl_listed T = some (preT ⟨#[40]⟩ ⟨#[44]⟩ T ++ if T = [] then ByteArray.empty else ⟨#[41]⟩) := by
  unfold F.impl_listed
  by_cases h : T = []
  · subst h
    simp [preT, ba_nil]
  · have z1 : (⟨#[44]⟩ : ByteArray).size = 1 := rfl
    have z0 : (⟨#[40]⟩ : ByteArray).size = 1 := rfl
    have z2 : (⟨#[41]⟩ : ByteArray).size = 1 := rfl
    have z := joinB_size_le z1 h
    rw [if_neg (by intro hh; exact h (List.length_eq_zero_iff.1 hh))]
    unfold F.strings_Join
    rw [if_pos (joinOk_of z1 hb)]
    simp only [Option.bind_eq_bind, Option.bind_some]
    rw [if_pos (by omega), if_pos (by rw [ba_add]; omega), preT, if_neg h, if_neg h]
theorem P.text (w : List Data) (hw : worldOk w) (hs : smallW w) (fs : List FunType) (hf : ∀ f, f ∈ fs → funOk w f) (hl : fs.length ≤ 4) (vs : List VarType) : ∀ (d : Nat) (t : Ty) (e : Expr), typeOk w t → e.wt ≤ 1048576 → etp w fs vs d t e →
    ∃ s, F.spec_l12Text w fs t e = some s ∧ F.impl_scope_text ⟨w, fs, vs⟩ t e = some s ∧ s.size + 1 ≤ 1048580 * (1 + e.wt)
  | 0, _, _, _, _, h => h.elim
  | d + 1, t, e, ht, he, ⟨ts, h1, h2, h3⟩ => by
    obtain ⟨ts0, us, b, g1, g2, g3⟩ := P.expr_kids w hw fs hf hl vs t ht e
    rw [h1] at g1
    have g1 := Option.some.inj g1
    obtain rfl : ts = ts0 := congrArg Prod.fst g1
    obtain rfl : true = b := congrArg Prod.snd g1
    obtain ⟨rfl, g4⟩ := g3 rfl
    have hwt := wt_ekids e
    rw [List.drop_zero] at hwt
    have hkl : e.kids.length ≤ e.wt := by
      rw [hwt]
      have : ∀ l : List Expr, l.length ≤ (l.map fun k => 1 + k.wt).sum := by
        intro l
        induction l with
        | nil => simp
        | cons x r ih => simp only [List.map_cons, List.sum_cons, List.length_cons]; omega
      exact this _
    have hkw : ∀ i (h : i < e.kids.length), e.kids[i].wt ≤ 1048576 := by
      intro i h
      have : ∀ (l : List Expr) i (h : i < l.length), l[i].wt ≤ (l.map fun k => 1 + k.wt).sum := by
        intro l
        induction l with
        | nil => intro i h; simp at h
        | cons x r ih =>
          intro i h
          cases i with
          | zero => simp only [List.map_cons, List.sum_cons, List.getElem_cons_zero]; omega
          | succ i => have := ih i (by simpa using h); simp only [List.map_cons, List.sum_cons, List.getElem_cons_succ]; omega
      have := this e.kids i h
      omega
    obtain ⟨T, k1, k2⟩ := listT (n := ts.length) (Q := fun i s => ∀ (h1 : i < ts.length) (h2 : i < e.kids.length), F.spec_l12Text w fs ts[i] e.kids[i] = some s ∧ F.impl_scope_text ⟨w, fs, vs⟩ ts[i] e.kids[i] = some s ∧ s.size + 1 ≤ 1048580 * (1 + e.kids[i].wt)) (fun i hi => by
      obtain ⟨s, q⟩ := P.text w hw hs fs hf hl vs d ts[i] (e.kids[i]'(by omega)) (g4 _ (List.getElem_mem hi)) (hkw i (by omega)) (h3 i (by omega) hi hi (by omega))
      exact ⟨s, fun _ _ => q⟩)
    have hT := lensT_kids 1048580 T e.kids (by omega) fun i hi hi' => (k2 i hi (by omega) hi').2.2
    rw [← hwt] at hT
    have hT2 : lensT T ≤ 140737488355328 := by
      have : 1048580 * e.wt ≤ 1048580 * 1048576 := Nat.mul_le_mul_left _ he
      omega
    have hloop := P.text_loop ⟨w, fs, vs⟩ t e ts h2 (by omega) T k1 (fun i hi q1 q2 => (k2 i hi q1 q2).2.1) T.length (Nat.le_refl _)
    rw [Nat.sub_self, List.take_zero] at hloop
    have hlist := P.impl_listed T hT2
    have z0 : (⟨#[40]⟩ : ByteArray).size = 1 := rfl
    have z1 : (⟨#[44]⟩ : ByteArray).size = 1 := rfl
    have z2 : (⟨#[41]⟩ : ByteArray).size = 1 := rfl
    have z3 := preT_size z0 z1 T
    have hmul : 1048580 * (1 + e.wt) = 1048580 + 1048580 * e.wt := by rw [Nat.mul_add]
    rw [F.spec_l12Text, F.impl_scope_text, g2]
    simp only [Option.bind_eq_bind, Option.bind_some]
    rw [hloop]
    simp only [Option.bind_some]
    rcases kids_shape hw ht h1 with ⟨o, hc, rfl⟩ | ⟨o, rfl⟩ | ⟨o, n0, n9, rfl⟩ | ⟨o, rfl⟩ | ⟨o, n0, n1, f, hf0, rfl⟩
    · rw [if_neg (by omega), if_neg (by omega), if_neg (by omega), if_neg (by omega), if_neg (by omega), if_neg (by omega), if_pos o]
      have hd := at_data (tOk_of ht.1) (ctorList_mem hc).1
      have hcn : (ctorOf w t e.ctor).name.size ≤ 1048576 := hs.2 _ hd.2.1 _ (at_ctor hc).2
      rw [hd.1]
      simp only [Option.bind_some]
      rw [(at_ctor hc).1]
      simp only [Option.bind_some]
      rw [P.spec_l1Args w hw t (tOk_of ht.1) _ hc, hlist]
      simp only [Option.bind_some]
      have hsl := P.spec_text_loop w fs e _ h2 (ctorOf w t e.ctor).name hcn T k1 hT2 (fun i hi q1 q2 => (k2 i hi q1 q2).1) T.length (Nat.le_refl _)
      rw [Nat.sub_self, List.take_zero] at hsl
      have hp0 : preT ⟨#[40]⟩ ⟨#[44]⟩ [] = ByteArray.empty := by simp [preT]
      rw [hp0, ba_nil] at hsl
      rw [hsl]
      simp only [Option.bind_some]
      by_cases hT0 : T = []
      · subst hT0
        rw [if_neg (by rw [← k1]; simp)]
        simp only [if_true, hp0, ba_nil]
        rw [if_pos (by show _ + 0 ≤ _; omega)]
        exact ⟨_, rfl, rfl, by omega⟩
      · have hp : 0 < T.length := List.length_pos_iff.2 hT0
        rw [if_pos (by omega), if_pos (by rw [ba_add]; omega), if_neg hT0, if_pos (by rw [ba_add]; omega), ba_assoc]
        refine ⟨_, rfl, rfl, ?_⟩
        rw [ba_add, ba_add]; omega
    · obtain ⟨a, b, rfl⟩ : ∃ a b, T = [a, b] := by
        match T, k1 with
        | [a, b], _ => exact ⟨a, b, rfl⟩
      have hk0 : e.kids.length = 2 := h2
      have q0 := (k2 0 (by simp) (by simp) (by omega)).1
      have q1 := (k2 1 (by simp) (by simp) (by omega)).1
      simp only [List.getElem_cons_zero, List.getElem_cons_succ] at q0 q1
      have hj : joinB [a, b] ⟨#[44]⟩ = a ++ ⟨#[44]⟩ ++ b := by
        have := joinB_snoc (ks := [a]) b ⟨#[44]⟩ (by simp)
        rw [joinB_one] at this
        exact this
      have hL : lensT [a, b] = 1 + a.size + (1 + b.size) := by simp [lensT]
      rw [if_neg (by omega), if_neg (by omega), if_pos o, if_neg (by omega), if_neg (by omega), if_neg (by omega), if_pos o]
      rw [List.getElem?_eq_getElem (by omega)]
      simp only [Option.bind_some]
      rw [q0]
      simp only [Option.bind_some]
      have z5 : (⟨#[43, 40]⟩ : ByteArray).size = 2 := rfl
      have z6 : (⟨#[43]⟩ : ByteArray).size = 1 := rfl
      rw [if_pos (by omega), if_pos (by rw [ba_add]; omega), List.getElem?_eq_getElem (by omega)]
      simp only [Option.bind_some]
      rw [q1]
      simp only [Option.bind_some]
      rw [if_pos (by rw [ba_add, ba_add]; omega), if_pos (by rw [ba_add, ba_add, ba_add]; omega), hlist]
      simp only [Option.bind_some]
      rw [if_neg (show ¬ ([a, b] : List ByteArray) = [] by simp)]
      rw [if_pos (by rw [ba_add]; omega)]
      have hfin : (⟨#[43]⟩ : ByteArray) ++ (preT ⟨#[40]⟩ ⟨#[44]⟩ [a, b] ++ ⟨#[41]⟩) = ⟨#[43, 40]⟩ ++ a ++ ⟨#[44]⟩ ++ b ++ ⟨#[41]⟩ := by
        rw [preT, if_neg (by simp), hj]
        exact ba_ext (by simp [ba_app])
      refine ⟨_, rfl, by rw [hfin], ?_⟩
      iterate 4 rw [ba_add]
      omega
    · obtain ⟨y1, y2, y3⟩ := dec_one n0 n9
      rw [if_pos o, if_pos o, y1, y2]
      simp only [Option.bind_some]
      exact ⟨_, rfl, rfl, by omega⟩
    · obtain ⟨s, y1, y2, y3⟩ := P.letter_same e.n
      rw [if_neg (by omega), if_pos o, if_neg (by omega), if_pos o, y1, y2]
      simp only [Option.bind_some]
      exact ⟨_, rfl, rfl, by omega⟩
    · obtain ⟨a, rfl⟩ : ∃ a, T = [a] := by
        match T, k1 with
        | [a], _ => exact ⟨a, rfl⟩
      have hk0 : e.kids.length = 1 := h2
      have q0 := (k2 0 (by simp) (by simp) (by omega)).1
      simp only [List.getElem_cons_zero] at q0
      obtain ⟨y1, y2, y3⟩ := dec_one n0 (show e.n ≤ 9 by omega)
      have hL : lensT [a] = 1 + a.size := by simp [lensT]
      have z6 : (⟨#[35]⟩ : ByteArray).size = 1 := rfl
      rw [if_neg (by omega), if_neg (by omega), if_neg (by omega), if_pos o, if_neg (by omega), if_neg (by omega), if_neg (by omega), if_neg (by omega), y1, y2]
      simp only [Option.bind_some]
      rw [if_pos (by omega), if_pos (by rw [ba_add]; omega), hf0]
      simp only [Option.bind_some]
      rw [List.getElem?_eq_getElem (by omega)]
      simp only [Option.bind_some]
      rw [q0]
      simp only [Option.bind_some]
      rw [if_pos (by rw [ba_add, ba_add]; omega), if_pos (by rw [ba_add, ba_add, ba_add]; omega), if_pos (by omega), hlist]
      simp only [Option.bind_some]
      rw [if_neg (show ¬ ([a] : List ByteArray) = [] by simp)]
      rw [if_pos (by rw [ba_add, ba_add]; omega)]
      have hfin : (⟨#[35]⟩ : ByteArray) ++ itoaB e.n ++ (preT ⟨#[40]⟩ ⟨#[44]⟩ [a] ++ ⟨#[41]⟩) = ⟨#[35]⟩ ++ itoaB e.n ++ ⟨#[40]⟩ ++ a ++ ⟨#[41]⟩ := by
        rw [preT, if_neg (by simp), joinB_one]
        exact ba_ext (by simp [ba_app])
      refine ⟨_, rfl, by rw [hfin], ?_⟩
      iterate 4 rw [ba_add]
      omega
theorem P.FormatExpr_same (w : List Data) (fs : List FunType) (vs : List VarType) (t : Ty) (e : Expr) (hw : smallW w) (he : e.wt ≤ 1048576) : ∃ s, F.spec_FormatExpr w fs vs t e = some s ∧ F.impl_FormatExpr w fs vs t e = some s := by
  unfold F.spec_FormatExpr F.impl_FormatExpr
  rw [P.spec_ExprValid w fs vs t e hw he, P.impl_ExprValid w fs vs t e hw he]
  simp only [Option.bind_eq_bind, Option.bind_some]
  by_cases h : exprOk w fs vs t e
  · rw [if_pos (dec_of h), if_pos (dec_of h)]
    obtain ⟨s, e1, e2, _⟩ := P.text w h.1.1 hw fs h.2.1.2 h.2.1.1 vs 10 t e h.1.2 he h.2.2.2.1
    rw [e1, e2]
    exact ⟨s, rfl, rfl⟩
  · rw [if_neg (by rw [dec_not h]; simp), if_neg (by rw [dec_not h]; simp)]
    exact ⟨_, rfl, rfl⟩
/-- A variable stands in a pattern. -/
def hasV (v : Int) : Nat → Pattern → Prop
  | 0, _ => False
  | d + 1, p => (∃ i, ∃ h : i < p.kids.length, hasV v d p.kids[i]) ∨ ((p.op = 2 ∨ p.op = 6) ∧ p.var = v)
def hv (d : Nat) (p : Pattern) : Prop := ∃ v, hasV v d p
end Go.Vl
