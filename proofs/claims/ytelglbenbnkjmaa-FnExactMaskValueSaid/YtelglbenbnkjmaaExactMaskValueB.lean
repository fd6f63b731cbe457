/- Plain laws that this one rests on (printed by gen_l.py). -/
import Derived.Test.YtelglbenbnkjmaaExactMaskValueP
import Derived.Test.YtelglbenbnkjmaaVlQ
set_option linter.unusedSimpArgs false
set_option linter.unusedVariables false
set_option maxRecDepth 100000
namespace Go.Vl
open Go Go.RowKit

theorem sbind {α β : Type} {a : α} {f : α → Option β} : (some a >>= f) = f a := rfl
theorem iteG {α : Type} {c : Prop} [Decidable c] {a b r : Option α} (h1 : c → a = r) (h2 : ¬ c → b = r) : (if c then a else b) = r := by
  by_cases h : c
  · rw [if_pos h]; exact h1 h
  · rw [if_neg h]; exact h2 h
noncomputable def fixN {α : Type} (p : α → Prop) : Nat → List α → Option Nat
  | _, [] => none
  | k, x :: r => if dec (p x) = true then some k else fixN p (k + 1) r
theorem fixN_some {α : Type} {p : α → Prop} : ∀ {l : List α} {k j : Nat}, fixN p k l = some j → k ≤ j ∧ ∃ h : j - k < l.length, p l[j - k] ∧ ∀ i (hi : i < l.length), i < j - k → ¬ p l[i]
  | x :: r, k, j, h => by
    simp only [fixN] at h
    split at h
    · next hp =>
      obtain rfl := Option.some.inj h
      refine ⟨Nat.le_refl _, by simp, ?_, fun i _ hi => by omega⟩
      simpa using dec_iff.1 hp
    · next hp =>
      obtain ⟨h1, h2, h3, h4⟩ := fixN_some h
      have e : j - k = (j - (k + 1)) + 1 := by omega
      refine ⟨by omega, by simp; omega, ?_, fun i hi hlt => ?_⟩
      · simp only [e, List.getElem_cons_succ]; exact h3
      · cases i with
        | zero => exact fun hq => hp (dec_of hq)
        | succ i => exact h4 i (by simpa using hi) (by omega)
theorem fixN_none {α : Type} {p : α → Prop} : ∀ {l : List α} {k : Nat}, fixN p k l = none → ∀ x, x ∈ l → ¬ p x
  | [], _, _ => fun x hx => by cases hx
  | x :: r, k, h => by
    simp only [fixN] at h
    split at h
    · cases h
    · next hp =>
      intro y hy
      rcases List.mem_cons.1 hy with rfl | hy
      · exact fun hq => hp (dec_of hq)
      · exact fixN_none h y hy
theorem findG {α : Type} {a : List α} {p : α → Prop} {L : Nat → Option (Lo Int Unit)} (h0 : ∀ k, a.length ≤ k → L k = some (.go ())) (h1 : ∀ k (h : k < a.length), ¬ p a[k] → L k = L (k + 1))
    (h2 : ∀ k (h : k < a.length), p a[k] → L k = some (.ret (k : Int))) : ∀ (m k : Nat), a.length - k = m → L k = some (match fixN p k (a.drop k) with | some j => .ret (j : Int) | none => .go ()) := by
  intro m
  induction m with
  | zero => intro k hm; rw [h0 k (by omega), List.drop_eq_nil_of_le (by omega)]; rfl
  | succ m ih =>
    intro k hm
    have hk : k < a.length := by omega
    rw [List.drop_eq_getElem_cons hk]
    by_cases hp : p a[k]
    · rw [h2 k hk hp]; simp only [fixN]; rw [if_pos (dec_of hp)]
    · rw [h1 k hk hp, ih (k + 1) (by omega)]; simp only [fixN]; rw [if_neg (by rw [dec_not hp]; simp)]
def bigC (c : Nat) : Prop := 65 ≤ c ∧ c ≤ 90
def dataName (s : ByteArray) : Prop := s.size = 1 ∧ bigC (byteAt s 0) ∧ s ≠ ⟨#[73]⟩
def nameOk (s : ByteArray) : Prop := 1 ≤ s.size ∧ s.size ≤ 5 ∧ bigC (byteAt s 0) ∧ ∀ i, 1 ≤ i → i < s.size → 97 ≤ byteAt s i ∧ byteAt s i ≤ 122
def argOk (n : Nat) (t : Ty) : Prop := (t.data = -1 ∧ t.index = 0) ∨ (0 ≤ t.data ∧ t.data < n ∧ -1 ≤ t.index ∧ t.index ≤ 3)
def ctorOk (n : Nat) (c : Ctor) : Prop := nameOk c.name ∧ c.args.length ≤ 3 ∧ 0 ≤ c.index ∧ c.index ≤ 3 ∧ ∀ j, 0 ≤ j → (h : j < c.args.length) → argOk n c.args[j]
theorem P.spec_l1Big (c : Nat) : F.spec_l1Big c = some (dec (bigC c)) := by
  unfold F.spec_l1Big
  by_cases h : 65 ≤ (c : Int)
  · rw [if_pos h]; congr 1; rw [← dec_eq]; exact dec_congr ⟨fun h' => ⟨by omega, by omega⟩, fun h' => by have := h'.2; omega⟩
  · rw [if_neg h, dec_not fun h' => h (by have := h'.1; omega)]
theorem P.spec_l1Data (s : ByteArray) : F.spec_l1Data s = some (dec (dataName s)) := by
  unfold F.spec_l1Data
  by_cases h : s.size = 1
  · rw [if_pos h, if_pos (by omega), P.spec_l1Big]
    simp only [Option.bind_eq_bind, Option.bind_some]
    by_cases hb : bigC (byteAt s 0)
    · rw [if_pos (dec_of hb)]; congr 1; rw [← dec_eq]; exact dec_congr ⟨fun h' => ⟨h, hb, fun e => h' (by rw [e])⟩, fun h' e => h'.2.2 (bytes_eq.1 e)⟩
    · rw [if_neg (by rw [dec_not hb]; simp), dec_not fun h' => hb h'.2.1]
  · rw [if_neg h, dec_not fun h' => h h'.1]
theorem P.spec_name_l1 (s : ByteArray) (hs : s.size ≤ 1048576) : F.spec_NameValid_l1 s 1 = some (if dec (∀ i, 1 ≤ i → i < s.size → 97 ≤ byteAt s i ∧ byteAt s i ≤ 122) = true then .go () else .ret false) := by
  refine allN (L := F.spec_NameValid_l1 s) (fun k hk => ?_) (fun k hk hq => ?_) (fun k hk hq => ?_) _ 1 rfl
  · rw [F.spec_NameValid_l1, if_neg (by omega)]
  · rw [F.spec_NameValid_l1, if_pos hk, if_neg (by omega), if_neg (by omega), if_pos (by omega)]
  · rw [F.spec_NameValid_l1, if_pos hk]
    by_cases h : byteAt s k < 97
    · rw [if_pos h]
    · rw [if_neg h, if_pos (by omega)]
theorem P.impl_name_l1 (s : ByteArray) (hs : s.size ≤ 1048576) : F.impl_NameValid_l1 s 1 = some (if dec (∀ i, 1 ≤ i → i < s.size → 97 ≤ byteAt s i ∧ byteAt s i ≤ 122) = true then .go () else .ret false) := by
  refine allN (L := F.impl_NameValid_l1 s) (fun k hk => ?_) (fun k hk hq => ?_) (fun k hk hq => ?_) _ 1 rfl
  · rw [F.impl_NameValid_l1, if_neg (by omega)]
  · rw [F.impl_NameValid_l1, if_pos hk, if_neg (by omega), if_neg (by omega), if_pos (by omega)]
  · rw [F.impl_NameValid_l1, if_pos hk]
    by_cases h : byteAt s k < 97
    · rw [if_pos h]
    · rw [if_neg h, if_pos (by omega)]
theorem P.spec_NameValid (s : ByteArray) (hs : s.size ≤ 1048576) : F.spec_NameValid s = some (dec (nameOk s)) := by
  unfold F.spec_NameValid
  by_cases h0 : s.size = 0
  · rw [if_pos h0, dec_not fun h => by have := h.1; omega]
  by_cases h5 : 5 < s.size
  · rw [if_neg h0, if_pos h5, dec_not fun h => by have := h.2.1; omega]
  rw [if_neg h0, if_neg h5, if_pos (by omega), P.spec_l1Big]
  simp only [Option.bind_eq_bind, Option.bind_some]
  by_cases hb : bigC (byteAt s 0)
  · rw [if_pos (dec_of hb), P.spec_name_l1 s hs]
    simp only [Option.bind_some]
    by_cases hall : ∀ i, 1 ≤ i → i < s.size → 97 ≤ byteAt s i ∧ byteAt s i ≤ 122
    · rw [if_pos (dec_of hall), dec_of ⟨by omega, by omega, hb, hall⟩]
    · rw [if_neg (by rw [dec_not hall]; simp), dec_not fun h => hall h.2.2.2]
  · rw [if_neg (by rw [dec_not hb]; simp), dec_not fun h => hb h.2.2.1]
theorem P.within (n low high : Int) : F.impl_within n low high = some (dec (low ≤ n ∧ n ≤ high)) := by
  unfold F.impl_within
  by_cases h : low ≤ n
  · rw [if_pos h]; congr 1; rw [← dec_eq]; exact dec_congr ⟨fun h' => ⟨h, h'⟩, fun h' => h'.2⟩
  · rw [if_neg h, dec_not fun h' => h h'.1]
theorem P.impl_NameValid (s : ByteArray) (hs : s.size ≤ 1048576) : F.impl_NameValid s = some (dec (nameOk s)) := by
  unfold F.impl_NameValid
  rw [P.within]
  simp only [Option.bind_eq_bind, Option.bind_some]
  by_cases h0 : 1 ≤ (s.size : Int) ∧ (s.size : Int) ≤ 5
  · rw [if_pos (dec_of h0), if_pos (by omega)]
    by_cases a1 : byteAt s 0 < 65
    · rw [if_pos a1, dec_not fun h => by have := h.2.2.1.1; omega]
    by_cases a2 : 90 < byteAt s 0
    · rw [if_neg a1, if_pos a2, dec_not fun h => by have := h.2.2.1.2; omega]
    rw [if_neg a1, if_neg a2, P.impl_name_l1 s hs]
    simp only [Option.bind_some]
    by_cases hall : ∀ i, 1 ≤ i → i < s.size → 97 ≤ byteAt s i ∧ byteAt s i ≤ 122
    · rw [if_pos (dec_of hall), dec_of ⟨by omega, by omega, ⟨by omega, by omega⟩, hall⟩]
    · rw [if_neg (by rw [dec_not hall]; simp), dec_not fun h => hall h.2.2.2]
  · rw [if_neg (by rw [dec_not h0]; simp), dec_not fun h => h0 ⟨by have := h.1; omega, by have := h.2.1; omega⟩]
theorem P.spec_l1Arg (n : Nat) (t : Ty) : F.spec_l1Arg n t = some (dec (argOk n t)) := by
  unfold F.spec_l1Arg
  by_cases h : t.data = -1
  · rw [if_pos h]; congr 1; rw [← dec_eq]; exact dec_congr ⟨fun h' => .inl ⟨h, h'⟩, fun h' => h'.elim (·.2) (fun h' => by have := h'.1; omega)⟩
  rw [if_neg h]
  by_cases h1 : 0 ≤ t.data
  · by_cases h2 : t.data < n
    · by_cases h3 : -1 ≤ t.index
      · rw [if_pos h1, if_pos h2, if_pos h3]; congr 1; rw [← dec_eq]; exact dec_congr ⟨fun h' => .inr ⟨h1, h2, h3, h'⟩, fun h' => h'.elim (fun h' => absurd h'.1 h) (fun h' => h'.2.2.2)⟩
      · rw [if_pos h1, if_pos h2, if_neg h3, dec_not fun h' => h'.elim (fun h' => h h'.1) (fun h' => h3 h'.2.2.1)]
    · rw [if_pos h1, if_neg h2, dec_not fun h' => h'.elim (fun h' => h h'.1) (fun h' => h2 h'.2.1)]
  · rw [if_neg h1, dec_not fun h' => h'.elim (fun h' => h h'.1) (fun h' => h1 h'.1)]
theorem P.impl_argOk (w : List Data) (t : Ty) (hw : w.length ≤ 1048576) : F.impl_argOk w t = some (dec (argOk w.length t)) := by
  unfold F.impl_argOk
  by_cases h : eq2 (t.data, t.index) (-1, 0)
  · rw [if_pos (dec_of h), dec_of (.inl h)]
  rw [if_neg (by rw [dec_not h]; simp), P.within, wrap_in (by omega) (by omega)]
  simp only [Option.bind_eq_bind, Option.bind_some]
  by_cases h1 : 0 ≤ t.data ∧ t.data ≤ (w.length : Int) - 1
  · rw [if_pos (dec_of h1), P.within]
    simp only [Option.bind_some]
    congr 1; exact dec_congr ⟨fun h' => .inr ⟨h1.1, by omega, h'.1, h'.2⟩, fun h' => h'.elim (fun h' => absurd h' h) (fun h' => h'.2.2)⟩
  · rw [if_neg (by rw [dec_not h1]; simp), dec_not fun h' => h'.elim (fun h' => h h') (fun h' => h1 ⟨h'.1, by have := h'.2.1; omega⟩)]
theorem P.spec_l1Ctor (n : Nat) (c : Ctor) (hs : c.name.size ≤ 1048576) : F.spec_l1Ctor n c = some (dec (ctorOk n c)) := by
  unfold F.spec_l1Ctor
  rw [P.spec_NameValid _ hs]
  simp only [Option.bind_eq_bind, Option.bind_some]
  by_cases h1 : nameOk c.name
  · rw [if_pos (dec_of h1)]
    by_cases h2 : 3 < c.args.length
    · rw [if_pos h2, dec_not fun h => by have := h.2.1; omega]
    by_cases h3 : c.index < 0
    · rw [if_neg h2, if_pos h3, dec_not fun h => by have := h.2.2.1; omega]
    by_cases h4 : 3 < c.index
    · rw [if_neg h2, if_neg h3, if_pos h4, dec_not fun h => by have := h.2.2.2.1; omega]
    rw [if_neg h2, if_neg h3, if_neg h4]
    have key : F.spec_l1Ctor_l1 n c 0 = some (if dec (∀ j, 0 ≤ j → j < c.args.length → ∀ h : j < c.args.length, argOk n c.args[j]) = true then .go () else .ret false) := by
      refine allN (n := c.args.length) (Q := fun j => ∀ h : j < c.args.length, argOk n c.args[j]) (L := F.spec_l1Ctor_l1 n c) (fun k hk => ?_) (fun k hk hq => ?_) (fun k hk hq => ?_) _ 0 rfl
      · rw [F.spec_l1Ctor_l1, if_neg (by omega)]
      · rw [F.spec_l1Ctor_l1, if_pos hk, List.getElem?_eq_getElem hk]
        simp only [Option.bind_eq_bind, Option.bind_some]
        rw [P.spec_l1Arg]
        simp only [Option.bind_some]
        rw [if_pos (dec_of (hq hk))]
      · rw [F.spec_l1Ctor_l1, if_pos hk, List.getElem?_eq_getElem hk]
        simp only [Option.bind_eq_bind, Option.bind_some]
        rw [P.spec_l1Arg]
        simp only [Option.bind_some]
        rw [if_neg (by rw [dec_not fun h => hq fun _ => h]; simp)]
    rw [key]
    simp only [Option.bind_some]
    by_cases hall : ∀ j, 0 ≤ j → j < c.args.length → ∀ h : j < c.args.length, argOk n c.args[j]
    · rw [if_pos (dec_of hall), dec_of ⟨h1, by omega, by omega, by omega, fun j h0 hj => hall j h0 hj hj⟩]
    · rw [if_neg (by rw [dec_not hall]; simp), dec_not fun h => hall fun j h0 _ hj => h.2.2.2.2 j h0 hj]
  · rw [if_neg (by rw [dec_not h1]; simp), dec_not fun h => h1 h.1]
theorem P.impl_ctorOk_1 (t : Ty) (w : List Data) (hw : w.length ≤ 1048576) : F.impl_ctorOk_1 t w = some (!dec (argOk w.length t)) := by
  unfold F.impl_ctorOk_1
  rw [P.impl_argOk w t hw]; rfl
theorem P.args_index (w : List Data) (hw : w.length ≤ 1048576) (s : List Ty) : ∃ v, F.slices_IndexFunc_Type__impl_ctorOk_1 s w = some v ∧ (0 ≤ v ↔ ¬ ∀ j, 0 ≤ j → (h : j < s.length) → argOk w.length s[j]) := by
  unfold F.slices_IndexFunc_Type__impl_ctorOk_1
  have key : ∀ (m k : Nat), s.length - k = m → ∃ r, F.slices_IndexFunc_Type__impl_ctorOk_1_l1 s w k = some r ∧
      match r with | .ret j => 0 ≤ j ∧ ¬ ∀ j, k ≤ j → (h : j < s.length) → argOk w.length s[j] | .go _ => ∀ j, k ≤ j → (h : j < s.length) → argOk w.length s[j] := by
    intro m
    induction m with
    | zero =>
      intro k hm
      rw [F.slices_IndexFunc_Type__impl_ctorOk_1_l1, if_neg (by omega)]
      exact ⟨_, rfl, fun j hj h => by omega⟩
    | succ m ih =>
      intro k hm
      have hk : k < s.length := by omega
      rw [F.slices_IndexFunc_Type__impl_ctorOk_1_l1, if_pos hk, List.getElem?_eq_getElem hk]
      simp only [Option.bind_eq_bind, Option.bind_some]
      rw [P.impl_ctorOk_1 _ _ hw]
      simp only [Option.bind_some]
      by_cases h : argOk w.length s[k]
      · rw [if_neg (by rw [dec_of h]; simp)]
        obtain ⟨r, hr, hx⟩ := ih (k + 1) (by omega)
        refine ⟨r, hr, ?_⟩
        cases r with
        | ret j => exact ⟨hx.1, fun hh => hx.2 fun j hj hl => hh j (by omega) hl⟩
        | go _ =>
          intro j hj hl
          by_cases e : k = j
          · subst e; exact h
          · exact hx j (by omega) hl
      · rw [if_pos (by rw [dec_not h]; simp)]
        exact ⟨_, rfl, by omega, fun hh => h (hh k (Nat.le_refl _) hk)⟩
  obtain ⟨r, hr, hx⟩ := key _ 0 rfl
  rw [hr]
  cases r with
  | ret j => exact ⟨j, rfl, fun _ => hx.2, fun _ => hx.1⟩
  | go _ => exact ⟨-1, rfl, fun h => by omega, fun h => absurd hx h⟩
theorem P.impl_ctorOk (w : List Data) (c : Ctor) (hw : w.length ≤ 1048576) (hs : c.name.size ≤ 1048576) : F.impl_ctorOk w c = some (dec (ctorOk w.length c)) := by
  unfold F.impl_ctorOk
  rw [P.impl_NameValid _ hs]
  simp only [Option.bind_eq_bind, Option.bind_some]
  by_cases h1 : nameOk c.name
  · rw [if_pos (dec_of h1)]
    by_cases h2 : c.args.length ≤ 3
    · rw [if_pos h2, P.within]
      simp only [Option.bind_some]
      by_cases h3 : 0 ≤ c.index ∧ c.index ≤ 3
      · rw [if_pos (dec_of h3)]
        unfold F.slices_ContainsFunc_Type__impl_ctorOk_1
        obtain ⟨v, hv, hx⟩ := P.args_index w hw c.args
        rw [hv]
        simp only [Option.bind_eq_bind, Option.bind_some]
        by_cases hall : ∀ j, 0 ≤ j → (h : j < c.args.length) → argOk w.length c.args[j]
        · have : ¬ 0 ≤ v := fun h => (hx.1 h) hall
          rw [dec_of ⟨h1, h2, h3.1, h3.2, hall⟩]; simp [this]
        · have : 0 ≤ v := hx.2 hall
          rw [dec_not fun h => hall h.2.2.2.2]; simp [this]
      · rw [if_neg (by rw [dec_not h3]; simp), dec_not fun h => h3 ⟨h.2.2.1, h.2.2.2.1⟩]
    · rw [if_neg h2, dec_not fun h => h2 h.2.1]
  · rw [if_neg (by rw [dec_not h1]; simp), dec_not fun h => h1 h.1]
abbrev cnames (d : Data) : List ByteArray := d.ctors.map (·.name)
structure ctorAt (w : List Data) (i : Nat) (d : Data) (k : Nat) (c : Ctor) : Prop where
  ok : ctorOk w.length c
  new : c.name ∉ (w.take i).flatMap cnames ++ (d.ctors.take k).map (·.name)
structure dataAt (w : List Data) (i : Nat) (d : Data) : Prop where
  name : dataName d.name
  new : d.name ∉ (w.take i).map (·.name)
  some : 1 ≤ d.ctors.length
  few : d.ctors.length ≤ 4
  ctors : ∀ k, 0 ≤ k → k < d.ctors.length → ∀ h : k < d.ctors.length, ctorAt w i d k d.ctors[k]
def worldOk (w : List Data) : Prop := w.length ≤ 4 ∧ ∀ i, 0 ≤ i → i < w.length → ∀ h : i < w.length, dataAt w i w[i]
def smallW (w : List Data) : Prop := w.length ≤ 1048576 ∧ ∀ d, d ∈ w → ∀ c, c ∈ d.ctors → c.name.size ≤ 1048576
theorem P.impl_world_l2 (w : List Data) (hw : smallW w) (met4 : List ByteArray) (i : Nat) (hi : i < w.length) : F.impl_WorldValid_l2 w met4 i w[i] ((w.take i).flatMap cnames) 0 =
    some (if dec (∀ k, 0 ≤ k → k < w[i].ctors.length → ∀ h : k < w[i].ctors.length, ctorAt w i w[i] k w[i].ctors[k]) = true then .go ((w.take i).flatMap cnames ++ cnames w[i]) else .ret false) := by
  have key := allG (n := w[i].ctors.length) (r := false) (p := (w.take i).flatMap cnames ++ cnames w[i]) (Q := fun k => ∀ h : k < w[i].ctors.length, ctorAt w i w[i] k w[i].ctors[k]) (L := fun k => F.impl_WorldValid_l2 w met4 i w[i] ((w.take i).flatMap cnames ++ (w[i].ctors.take k).map (·.name)) k)
    (fun k hk => by
      show F.impl_WorldValid_l2 w met4 i w[i] ((w.take i).flatMap cnames ++ (w[i].ctors.take k).map (·.name)) k = _
      rw [F.impl_WorldValid_l2, if_neg (by omega), List.take_of_length_le hk])
    (fun k hk hq => by
      show F.impl_WorldValid_l2 w met4 i w[i] ((w.take i).flatMap cnames ++ (w[i].ctors.take k).map (·.name)) k = F.impl_WorldValid_l2 w met4 i w[i] ((w.take i).flatMap cnames ++ (w[i].ctors.take (k + 1)).map (·.name)) (k + 1)
      have hc := hq hk
      rw [F.impl_WorldValid_l2, if_pos hk, List.getElem?_eq_getElem hk]
      simp only [Option.bind_eq_bind, Option.bind_some]
      rw [P.impl_ctorOk w _ hw.1 (hw.2 _ (List.getElem_mem hi) _ (List.getElem_mem hk))]
      simp only [Option.bind_some]
      rw [if_pos (dec_of hc.ok), if_neg (by rw [dec_not hc.new]; simp), msIns, if_neg (by rw [dec_not hc.new]; simp), take_map_succ hk, List.append_assoc])
    (fun k hk hq => by
      show F.impl_WorldValid_l2 w met4 i w[i] ((w.take i).flatMap cnames ++ (w[i].ctors.take k).map (·.name)) k = _
      rw [F.impl_WorldValid_l2, if_pos hk, List.getElem?_eq_getElem hk]
      simp only [Option.bind_eq_bind, Option.bind_some]
      rw [P.impl_ctorOk w _ hw.1 (hw.2 _ (List.getElem_mem hi) _ (List.getElem_mem hk))]
      simp only [Option.bind_some]
      by_cases h1 : ctorOk w.length w[i].ctors[k]
      · rw [if_pos (dec_of h1), if_pos (dec_of ?_)]
        apply Classical.byContradiction
        intro h2
        exact hq fun _ => ⟨h1, h2⟩
      · rw [if_neg (by rw [dec_not h1]; simp)]) _ 0 rfl
  simpa using key
theorem P.impl_world_l1 (w : List Data) (hw : smallW w) : F.impl_WorldValid_l1 w [] [] 0 = some (if dec (∀ i, 0 ≤ i → i < w.length → ∀ h : i < w.length, dataAt w i w[i]) = true then .go (w.flatMap cnames, w.map (·.name)) else .ret false) := by
  have key := allG (n := w.length) (r := false) (p := (w.flatMap cnames, w.map (·.name))) (Q := fun i => ∀ h : i < w.length, dataAt w i w[i]) (L := fun i => F.impl_WorldValid_l1 w ((w.take i).flatMap cnames) ((w.take i).map (·.name)) i)
    (fun i hi => by
      show F.impl_WorldValid_l1 w ((w.take i).flatMap cnames) ((w.take i).map (·.name)) i = _
      rw [F.impl_WorldValid_l1, if_neg (by omega), List.take_of_length_le hi])
    (fun i hi hq => by
      show F.impl_WorldValid_l1 w ((w.take i).flatMap cnames) ((w.take i).map (·.name)) i = F.impl_WorldValid_l1 w ((w.take (i + 1)).flatMap cnames) ((w.take (i + 1)).map (·.name)) (i + 1)
      have hd := hq hi
      have hn := hd.name
      have hbig := hn.2.1
      unfold bigC at hbig
      have := hw.1
      rw [F.impl_WorldValid_l1, if_pos hi, List.getElem?_eq_getElem hi]
      simp only [Option.bind_eq_bind, Option.bind_some]
      have := hd.some; have := hd.few
      rw [if_pos hn.1, if_pos (by have := hn.1; omega), if_neg (by omega), if_neg (by omega), if_neg (fun h => hn.2.2 (bytes_eq.1 h)), if_neg (by rw [dec_not hd.new]; simp), P.within]
      simp only [Option.bind_some]
      rw [if_pos (dec_of (by omega)), P.impl_world_l2 w hw _ i hi, if_pos (dec_of hd.ctors)]
      simp only [Option.bind_some]
      rw [if_pos (by omega), msIns, if_neg (by rw [dec_not hd.new]; simp), take_map_succ hi, take_flatMap_succ hi])
    (fun i hi hq => by
      show F.impl_WorldValid_l1 w ((w.take i).flatMap cnames) ((w.take i).map (·.name)) i = _
      have := hw.1
      rw [F.impl_WorldValid_l1, if_pos hi, List.getElem?_eq_getElem hi]
      simp only [Option.bind_eq_bind, Option.bind_some]
      by_cases h1 : w[i].name.size = 1
      · rw [if_pos h1, if_pos (by omega)]
        by_cases h2 : byteAt w[i].name 0 < 65
        · rw [if_pos h2]
        by_cases h3 : 90 < byteAt w[i].name 0
        · rw [if_neg h2, if_pos h3]
        by_cases h4 : w[i].name.toList = (⟨#[73]⟩ : ByteArray).toList
        · rw [if_neg h2, if_neg h3, if_pos h4]
        by_cases h5 : w[i].name ∈ (w.take i).map (·.name)
        · rw [if_neg h2, if_neg h3, if_neg h4, if_pos (dec_of h5)]
        rw [if_neg h2, if_neg h3, if_neg h4, if_neg (by rw [dec_not h5]; simp), P.within]
        simp only [Option.bind_some]
        by_cases h6 : 1 ≤ (w[i].ctors.length : Int) ∧ (w[i].ctors.length : Int) ≤ 4
        · rw [if_pos (dec_of h6), P.impl_world_l2 w hw _ i hi, if_neg (by
            rw [dec_not fun hh => hq fun _ => ⟨⟨h1, ⟨by omega, by omega⟩, fun e => h4 (by rw [e])⟩, h5, by omega, by omega, hh⟩]; simp)]
          rfl
        · rw [if_neg (by rw [dec_not h6]; simp)]
      · rw [if_neg h1]) _ 0 rfl
  simpa using key
theorem P.impl_WorldValid (w : List Data) (hw : smallW w) : F.impl_WorldValid w = some (dec (worldOk w)) := by
  unfold F.impl_WorldValid
  by_cases h : 4 < w.length
  · rw [if_pos h, dec_not fun hh => by have := hh.1; omega]
  rw [if_neg h, P.impl_world_l1 w hw]
  simp only [Option.bind_eq_bind, Option.bind_some]
  by_cases hall : ∀ i, 0 ≤ i → i < w.length → ∀ h : i < w.length, dataAt w i w[i]
  · rw [if_pos (dec_of hall), dec_of ⟨by omega, hall⟩]
  · rw [if_neg (by rw [dec_not hall]; simp), dec_not fun hh => hall hh.2]
theorem P.twice_l2 (w : List Data) (hw : smallW w) (d k i : Nat) (hd : d < w.length) (hk : k < w[d].ctors.length) (hi : i < d) (hl : w[d].ctors.length ≤ 4) (hli : w[i].ctors.length ≤ 4) : F.spec_l1Twice_l2 w d k i 0 =
    some (if dec (∀ j, 0 ≤ j → j < w[i].ctors.length → ∀ h : j < w[i].ctors.length, w[i].ctors[j].name ≠ w[d].ctors[k].name) = true then .go () else .ret true) := by
  have hi' : i < w.length := by omega
  refine allN (n := w[i].ctors.length) (r := true) (Q := fun j => ∀ h : j < w[i].ctors.length, w[i].ctors[j].name ≠ w[d].ctors[k].name) (L := F.spec_l1Twice_l2 w d k i) (fun j hj => ?_) (fun j hj hq => ?_) (fun j hj hq => ?_) _ 0 rfl
  · rw [F.spec_l1Twice_l2, List.getElem?_eq_getElem hi']
    simp only [Option.bind_eq_bind, Option.bind_some]
    rw [if_neg (by omega)]
  · rw [F.spec_l1Twice_l2, List.getElem?_eq_getElem hi']
    simp only [Option.bind_eq_bind, Option.bind_some]
    rw [if_pos hj, if_pos (by omega), at_lt hd]
    simp only [Option.bind_some]
    rw [if_pos (by omega), List.getElem?_eq_getElem hj, at_lt hk]
    simp only [Option.bind_some]
    rw [if_neg (fun h => hq hj (bytes_eq.1 h)), if_pos (by omega)]
  · rw [F.spec_l1Twice_l2, List.getElem?_eq_getElem hi']
    simp only [Option.bind_eq_bind, Option.bind_some]
    rw [if_pos hj, if_pos (by omega), at_lt hd]
    simp only [Option.bind_some]
    rw [if_pos (by omega), List.getElem?_eq_getElem hj, at_lt hk]
    simp only [Option.bind_some]
    rw [if_pos (bytes_eq.2 (Classical.byContradiction fun h => hq fun _ => h))]
theorem P.twice_l3 (w : List Data) (hw : smallW w) (d k : Nat) (hd : d < w.length) (hk : k < w[d].ctors.length) (hl : w[d].ctors.length ≤ 4) : F.spec_l1Twice_l3 w d k d 0 =
    some (if dec (∀ j, 0 ≤ j → j < k → ∀ h : j < w[d].ctors.length, w[d].ctors[j].name ≠ w[d].ctors[k].name) = true then .go () else .ret true) := by
  refine allN (n := k) (r := true) (Q := fun j => ∀ h : j < w[d].ctors.length, w[d].ctors[j].name ≠ w[d].ctors[k].name) (L := F.spec_l1Twice_l3 w d k d) (fun j hj => ?_) (fun j hj hq => ?_) (fun j hj hq => ?_) _ 0 rfl
  · rw [F.spec_l1Twice_l3, List.getElem?_eq_getElem hd]
    simp only [Option.bind_eq_bind, Option.bind_some]
    rcases Nat.lt_or_ge j w[d].ctors.length with h | h
    · rw [if_pos h, if_neg (by omega), if_neg (by omega)]
    · rw [if_neg (by omega)]
  · have hj' : j < w[d].ctors.length := Nat.lt_trans hj hk
    rw [F.spec_l1Twice_l3, List.getElem?_eq_getElem hd]
    simp only [Option.bind_eq_bind, Option.bind_some]
    rw [if_pos hj', if_neg (by omega), if_pos (by omega), at_lt hd]
    simp only [Option.bind_some]
    rw [if_pos (by omega), List.getElem?_eq_getElem hj', at_lt hk]
    simp only [Option.bind_some]
    rw [if_neg (fun h => hq hj' (bytes_eq.1 h)), if_pos (by omega)]
  · have hj' : j < w[d].ctors.length := Nat.lt_trans hj hk
    rw [F.spec_l1Twice_l3, List.getElem?_eq_getElem hd]
    simp only [Option.bind_eq_bind, Option.bind_some]
    rw [if_pos hj', if_neg (by omega), if_pos (by omega), at_lt hd]
    simp only [Option.bind_some]
    rw [if_pos (by omega), List.getElem?_eq_getElem hj', at_lt hk]
    simp only [Option.bind_some]
    rw [if_pos (bytes_eq.2 (Classical.byContradiction fun h => hq fun _ => h))]
structure fresh (w : List Data) (d k i : Nat) (hd : d < w.length) (hk : k < w[d].ctors.length) : Prop where
  data : i < d → ∀ h : i < w.length, w[i].name ≠ w[d].name
  ctor : i < d → ∀ h : i < w.length, ∀ j, 0 ≤ j → j < w[i].ctors.length → ∀ h : j < w[i].ctors.length, w[i].ctors[j].name ≠ w[d].ctors[k].name
  own : i = d → ∀ j, 0 ≤ j → j < k → ∀ h : j < w[d].ctors.length, w[d].ctors[j].name ≠ w[d].ctors[k].name
theorem P.spec_l1Twice (w : List Data) (hw : smallW w) (d k : Nat) (hd : d < w.length) (hk : k < w[d].ctors.length) (hw4 : w.length ≤ 4) (hl : ∀ i, i ≤ d → ∀ h : i < w.length, w[i].ctors.length ≤ 4) : F.spec_l1Twice w d k = some (!dec (∀ i, 0 ≤ i → i < d + 1 → fresh w d k i hd hk)) := by
  unfold F.spec_l1Twice
  have key : F.spec_l1Twice_l1 w d k 0 = some (if dec (∀ i, 0 ≤ i → i < d + 1 → fresh w d k i hd hk) = true then .go () else .ret true) := by
    refine allN (n := d + 1) (r := true) (Q := fun i => fresh w d k i hd hk) (L := F.spec_l1Twice_l1 w d k) (fun i hi => ?_) (fun i hi hq => ?_) (fun i hi hq => ?_) _ 0 rfl
    · rw [F.spec_l1Twice_l1, if_neg (by omega)]
    · rw [F.spec_l1Twice_l1, if_pos (by omega)]
      by_cases h : i < d
      · have hi' : i < w.length := by omega
        rw [if_pos (by omega), List.getElem?_eq_getElem hi', at_lt hd]
        simp only [Option.bind_eq_bind, Option.bind_some]
        rw [if_neg (fun e => hq.data h hi' (bytes_eq.1 e)), P.twice_l2 w hw d k i hd hk h (hl d (Nat.le_refl _) hd) (hl i (by omega) hi'), if_pos (dec_of (hq.ctor h hi'))]
        simp only [Option.bind_some]
        rw [if_pos (by omega)]
      · obtain rfl : i = d := by omega
        rw [if_neg (by omega), P.twice_l3 w hw i k hd hk (hl i (Nat.le_refl _) hd), if_pos (dec_of (hq.own rfl))]
        simp only [Option.bind_eq_bind, Option.bind_some]
        rw [if_pos (by omega)]
    · rw [F.spec_l1Twice_l1, if_pos (by omega)]
      by_cases h : i < d
      · have hi' : i < w.length := by omega
        rw [if_pos (by omega), List.getElem?_eq_getElem hi', at_lt hd]
        simp only [Option.bind_eq_bind, Option.bind_some]
        by_cases hn : w[i].name = w[d].name
        · rw [if_pos (bytes_eq.2 hn)]
        · rw [if_neg (fun e => hn (bytes_eq.1 e)), P.twice_l2 w hw d k i hd hk h (hl d (Nat.le_refl _) hd) (hl i (by omega) hi'), if_neg (by rw [dec_not fun hh => hq ⟨fun _ _ => hn, fun _ _ => hh, fun e => by omega⟩]; simp)]
          rfl
      · obtain rfl : i = d := by omega
        rw [if_neg (by omega), P.twice_l3 w hw i k hd hk (hl i (Nat.le_refl _) hd), if_neg (by rw [dec_not fun hh => hq ⟨fun e => by omega, fun e => by omega, fun _ => hh⟩]; simp)]
        rfl
  rw [key]
  simp only [Option.bind_eq_bind, Option.bind_some]
  by_cases hall : ∀ i, 0 ≤ i → i < d + 1 → fresh w d k i hd hk
  · rw [if_pos (dec_of hall), dec_of hall]; rfl
  · rw [if_neg (by rw [dec_not hall]; simp), dec_not hall]; rfl
theorem fresh_iff (w : List Data) (d k : Nat) (hd : d < w.length) (hk : k < w[d].ctors.length) : (∀ i, 0 ≤ i → i < d + 1 → fresh w d k i hd hk) ↔ w[d].name ∉ (w.take d).map (·.name) ∧ w[d].ctors[k].name ∉ (w.take d).flatMap cnames ++ (w[d].ctors.take k).map (·.name) := by
  constructor
  · intro h
    refine ⟨fun hm => ?_, fun hm => ?_⟩
    · obtain ⟨x, hx, e⟩ := List.mem_map.1 hm
      obtain ⟨i, hi, rfl⟩ := List.mem_take_iff_getElem.1 hx
      exact (h i (by omega) (by omega)).data (by omega) (by omega) e
    · rcases List.mem_append.1 hm with hm | hm
      · obtain ⟨x, hx, hc⟩ := List.mem_flatMap.1 hm
        obtain ⟨i, hi, rfl⟩ := List.mem_take_iff_getElem.1 hx
        obtain ⟨c, hc, e⟩ := List.mem_map.1 hc
        obtain ⟨j, hj, rfl⟩ := List.getElem_of_mem hc
        exact (h i (by omega) (by omega)).ctor (by omega) (by omega) j (by omega) hj hj e
      · obtain ⟨c, hc, e⟩ := List.mem_map.1 hm
        obtain ⟨j, hj, rfl⟩ := List.mem_take_iff_getElem.1 hc
        exact (h d (by omega) (by omega)).own rfl j (by omega) (by omega) (by omega) e
  · rintro ⟨h1, h2⟩ i _ hi
    refine ⟨fun hid hiw e => h1 (List.mem_map.2 ⟨w[i], List.mem_take_iff_getElem.2 ⟨i, by omega, rfl⟩, e⟩), fun hid hiw j _ hj hj' e => h2 (List.mem_append_left _ (List.mem_flatMap.2 ⟨w[i], List.mem_take_iff_getElem.2 ⟨i, by omega, rfl⟩, List.mem_map.2 ⟨_, List.getElem_mem hj, e⟩⟩)), fun e j _ hj hj' e => h2 (List.mem_append_right _ (List.mem_map.2 ⟨_, List.mem_take_iff_getElem.2 ⟨j, by omega, rfl⟩, e⟩))⟩
theorem P.spec_world_l2 (w : List Data) (hw : smallW w) (d : Nat) (hd : d < w.length) (hw4 : w.length ≤ 4) (hl : ∀ i, i ≤ d → ∀ h : i < w.length, w[i].ctors.length ≤ 4) : F.spec_WorldValid_l2 w d 0 =
    some (if dec (∀ k, 0 ≤ k → k < w[d].ctors.length → ∀ h : k < w[d].ctors.length, w[d].name ∉ (w.take d).map (·.name) ∧ ctorAt w d w[d] k w[d].ctors[k]) = true then .go () else .ret false) := by
  have hl0 := hl d (Nat.le_refl _) hd
  refine allN (n := w[d].ctors.length) (r := false) (Q := fun k => ∀ h : k < w[d].ctors.length, w[d].name ∉ (w.take d).map (·.name) ∧ ctorAt w d w[d] k w[d].ctors[k]) (L := F.spec_WorldValid_l2 w d) (fun k hk => ?_) (fun k hk hq => ?_) (fun k hk hq => ?_) _ 0 rfl
  · rw [F.spec_WorldValid_l2, List.getElem?_eq_getElem hd]
    simp only [Option.bind_eq_bind, Option.bind_some]
    rw [if_neg (by omega)]
  · obtain ⟨h1, h2⟩ := hq hk
    rw [F.spec_WorldValid_l2, List.getElem?_eq_getElem hd]
    simp only [Option.bind_eq_bind, Option.bind_some]
    rw [if_pos hk, List.getElem?_eq_getElem hk]
    simp only [Option.bind_some]
    rw [P.spec_l1Ctor _ _ (hw.2 _ (List.getElem_mem hd) _ (List.getElem_mem hk))]
    simp only [Option.bind_some]
    rw [if_pos (dec_of h2.ok), P.spec_l1Twice w hw d k hd hk hw4 hl]
    simp only [Option.bind_some]
    rw [dec_of ((fresh_iff w d k hd hk).2 ⟨h1, h2.new⟩), if_neg (by simp), if_pos (by omega)]
  · rw [F.spec_WorldValid_l2, List.getElem?_eq_getElem hd]
    simp only [Option.bind_eq_bind, Option.bind_some]
    rw [if_pos hk, List.getElem?_eq_getElem hk]
    simp only [Option.bind_some]
    rw [P.spec_l1Ctor _ _ (hw.2 _ (List.getElem_mem hd) _ (List.getElem_mem hk))]
    simp only [Option.bind_some]
    by_cases h1 : ctorOk w.length w[d].ctors[k]
    · rw [if_pos (dec_of h1), P.spec_l1Twice w hw d k hd hk hw4 hl]
      simp only [Option.bind_some]
      rw [dec_not fun hh => hq fun _ => ⟨((fresh_iff w d k hd hk).1 hh).1, ⟨h1, ((fresh_iff w d k hd hk).1 hh).2⟩⟩, if_pos (by simp)]
    · rw [if_neg (by rw [dec_not h1]; simp)]
theorem P.spec_WorldValid (w : List Data) (hw : smallW w) : F.spec_WorldValid w = some (dec (worldOk w)) := by
  unfold F.spec_WorldValid
  by_cases h4 : 4 < w.length
  · rw [if_pos h4, dec_not fun hh => by have := hh.1; omega]
  rw [if_neg h4]
  -- the loop runs only on over types that are right
  have key : ∀ (m d : Nat), w.length - d = m → (∀ i, i < d → ∀ h : i < w.length, w[i].ctors.length ≤ 4) → F.spec_WorldValid_l1 w d = some (if dec (∀ i, d ≤ i → i < w.length → ∀ h : i < w.length, dataAt w i w[i]) = true then .go () else .ret false) := by
    intro m
    induction m with
    | zero =>
      intro d hm hl
      rw [F.spec_WorldValid_l1, if_neg (by omega), if_pos (dec_of fun i h1 h2 => by omega)]
    | succ m ih =>
      intro d hm hl
      have hd : d < w.length := by omega
      rw [F.spec_WorldValid_l1, if_pos hd, List.getElem?_eq_getElem hd]
      simp only [Option.bind_eq_bind, Option.bind_some]
      rw [P.spec_l1Data]
      simp only [Option.bind_some]
      have no : ¬ dataAt w d w[d] → ¬ ∀ i, d ≤ i → i < w.length → ∀ h : i < w.length, dataAt w i w[i] := fun h hh => h (hh d (Nat.le_refl _) hd hd)
      by_cases h1 : dataName w[d].name
      · rw [if_pos (dec_of h1)]
        by_cases h2 : w[d].ctors.length = 0
        · rw [if_pos h2, if_neg (by rw [dec_not (no fun h => by have := h.some; omega)]; simp)]
        by_cases h3 : 4 < w[d].ctors.length
        · rw [if_neg h2, if_pos h3, if_neg (by rw [dec_not (no fun h => by have := h.few; omega)]; simp)]
        have hl' : ∀ i, i ≤ d → ∀ h : i < w.length, w[i].ctors.length ≤ 4 := fun i hi h => by
          by_cases e : i = d
          · subst e; omega
          · exact hl i (by omega) h
        rw [if_neg h2, if_neg h3, P.spec_world_l2 w hw d hd (by omega) hl']
        simp only [Option.bind_some]
        by_cases hq : ∀ k, 0 ≤ k → k < w[d].ctors.length → ∀ h : k < w[d].ctors.length, w[d].name ∉ (w.take d).map (·.name) ∧ ctorAt w d w[d] k w[d].ctors[k]
        · have hda : dataAt w d w[d] := ⟨h1, (hq 0 (by omega) (by omega) (by omega)).1, by omega, by omega, fun k a b c => (hq k a b c).2⟩
          rw [if_pos (dec_of hq)]
          simp only
          rw [if_pos (by omega), ih (d + 1) (by omega) fun i hi h => hl' i (by omega) h]
          by_cases hall : ∀ i, d + 1 ≤ i → i < w.length → ∀ h : i < w.length, dataAt w i w[i]
          · rw [if_pos (dec_of hall), if_pos (dec_of fun i a b c => ?_)]
            by_cases e : i = d
            · subst e; exact hda
            · exact hall i (by omega) b c
          · rw [if_neg (by rw [dec_not hall]; simp), if_neg (by rw [dec_not fun hh => hall fun i a b c => hh i (by omega) b c]; simp)]
        · rw [if_neg (by rw [dec_not hq]; simp)]
          simp only
          rw [if_neg (by rw [dec_not (no fun h => hq fun k a b c => ⟨h.new, h.ctors k a b c⟩)]; simp)]
      · rw [if_neg (by rw [dec_not h1]; simp), if_neg (by rw [dec_not (no fun h => h1 h.name)]; simp)]
  rw [key _ 0 rfl fun i hi => by omega]
  simp only [Option.bind_eq_bind, Option.bind_some]
  by_cases hall : ∀ i, 0 ≤ i → i < w.length → ∀ h : i < w.length, dataAt w i w[i]
  · rw [if_pos (dec_of hall), dec_of ⟨by omega, hall⟩]
  · rw [if_neg (by rw [dec_not hall]; simp), dec_not fun hh => hall hh.2]
def typeOk (w : List Data) (t : Ty) : Prop := argOk w.length t ∧ 0 ≤ t.index
theorem P.spec_l1Is (w : List Data) (t : Ty) : F.spec_l1Is w t = some (dec (typeOk w t)) := by
  unfold F.spec_l1Is
  rw [P.spec_l1Arg]
  simp only [Option.bind_eq_bind, Option.bind_some]
  by_cases h : argOk w.length t
  · rw [if_pos (dec_of h), ← dec_eq]; congr 1; exact dec_congr ⟨fun h' => ⟨h, h'⟩, fun h' => h'.2⟩
  · rw [if_neg (by rw [dec_not h]; simp), dec_not fun h' => h h'.1]
theorem P.impl_typeOk (w : List Data) (t : Ty) (hw : w.length ≤ 1048576) : F.impl_typeOk w t = some (dec (typeOk w t)) := by
  unfold F.impl_typeOk
  by_cases h : eq2 (t.data, t.index) (-1, 0)
  · rw [if_pos (dec_of h), dec_of ⟨.inl h, by have := h.2; simp at this; omega⟩]
  rw [if_neg (by rw [dec_not h]; simp), P.within, wrap_in (by omega) (by omega)]
  simp only [Option.bind_eq_bind, Option.bind_some]
  by_cases h1 : 0 ≤ t.data ∧ t.data ≤ (w.length : Int) - 1
  · rw [if_pos (dec_of h1), P.within]
    simp only [Option.bind_some]
    congr 1; exact dec_congr ⟨fun h' => ⟨.inr ⟨h1.1, by omega, by omega, h'.2⟩, h'.1⟩, fun h' => h'.1.elim (fun h' => absurd h' h) (fun h2 => ⟨h'.2, h2.2.2.2⟩)⟩
  · rw [if_neg (by rw [dec_not h1]; simp), dec_not fun h' => h'.1.elim (fun h' => h h') (fun h' => h1 ⟨h'.1, by have := h'.2.1; omega⟩)]
def typeValid (w : List Data) (t : Ty) : Prop := worldOk w ∧ typeOk w t
theorem P.spec_TypeValid (w : List Data) (t : Ty) (hw : smallW w) : F.spec_TypeValid w t = some (dec (typeValid w t)) := by
  unfold F.spec_TypeValid
  rw [P.spec_WorldValid w hw]
  simp only [Option.bind_eq_bind, Option.bind_some]
  by_cases h : worldOk w
  · rw [if_pos (dec_of h), P.spec_l1Is]
    simp only [Option.bind_some]
    congr 1; exact dec_congr ⟨fun h' => ⟨h, h'⟩, fun h' => h'.2⟩
  · rw [if_neg (by rw [dec_not h]; simp), dec_not fun h' => h h'.1]
theorem P.impl_TypeValid (w : List Data) (t : Ty) (hw : smallW w) : F.impl_TypeValid w t = some (dec (typeValid w t)) := by
  unfold F.impl_TypeValid
  rw [P.impl_WorldValid w hw]
  simp only [Option.bind_eq_bind, Option.bind_some]
  by_cases h : worldOk w
  · rw [if_pos (dec_of h), P.impl_typeOk w t hw.1]
    simp only [Option.bind_some]
    congr 1; exact dec_congr ⟨fun h' => ⟨h, h'⟩, fun h' => h'.2⟩
  · rw [if_neg (by rw [dec_not h]; simp), dec_not fun h' => h h'.1]
theorem smallW_of {w : List Data} (h : wtL Data.wt w ≤ 1048576) : smallW w := by
  refine ⟨by have := wtL_len Data.wt w; omega, fun d hd c hc => ?_⟩
  have h1 := wtL_mem Data.wt hd
  have h2 := wtL_mem Ctor.wt hc
  have e1 : d.wt = d.name.size + wtL Ctor.wt d.ctors := rfl
  have e2 : c.wt = c.name.size + wtL Ty.wt c.args := rfl
  omega
def tOk (w : List Data) (t : Ty) : Prop := t.data = -1 ∨ (0 ≤ t.data ∧ t.data < w.length)
theorem tOk_of {w : List Data} {t : Ty} (h : argOk w.length t) : tOk w t := h.elim (fun h => .inl h.1) (fun h => .inr ⟨h.1, h.2.1⟩)
def fitC (i : Int) (c : Ctor) : Prop := i = 0 ∨ c.index = 0 ∨ c.index = i
noncomputable def selC (i : Int) : Nat → List Ctor → List Int
  | _, [] => []
  | k, c :: r => (if dec (fitC i c) = true then [(k : Int)] else []) ++ selC i (k + 1) r
theorem selC_mem (i : Int) {x : Int} : ∀ {k : Nat} {l : List Ctor}, x ∈ selC i k l → (k : Int) ≤ x ∧ x < k + l.length
  | _, [], h => by simp [selC] at h
  | k, c :: r, h => by
    unfold selC at h
    rcases List.mem_append.1 h with h | h
    · split at h
      · simp at h; subst h; simp; omega
      · simp at h
    · have := selC_mem i h
      simp; omega
def dataOf (w : List Data) (t : Ty) : Data := w.getD t.data.toNat Data.z
noncomputable def ctorList (w : List Data) (t : Ty) : List Int := if t.data = -1 then [] else selC t.index 0 (dataOf w t).ctors
def ctorOf (w : List Data) (t : Ty) (c : Int) : Ctor := (dataOf w t).ctors.getD c.toNat Ctor.z
def argOf (t : Ty) (c : Ctor) (a : Ty) : Ty := if a.index = -1 then ⟨a.data, if c.index = 0 then t.index else c.index⟩ else a
def argList (w : List Data) (t : Ty) (c : Int) : List Ty := (ctorOf w t c).args.map (argOf t (ctorOf w t c))
theorem at_data {w : List Data} {t : Ty} (h : tOk w t) (hn : t.data ≠ -1) : at? w t.data = some (dataOf w t) ∧ dataOf w t ∈ w ∧ ∃ h : t.data.toNat < w.length, dataOf w t = w[t.data.toNat] := by
  obtain ⟨h1, h2⟩ := h.resolve_left hn
  have hlt : t.data.toNat < w.length := by omega
  unfold at? dataOf
  rw [if_pos h1, List.getElem?_eq_getElem hlt, List.getD_eq_getElem?_getD, List.getElem?_eq_getElem hlt]
  exact ⟨rfl, List.getElem_mem hlt, hlt, rfl⟩
theorem world_ctors {w : List Data} (hw : worldOk w) {t : Ty} (h : tOk w t) (hn : t.data ≠ -1) : (dataOf w t).ctors.length ≤ 4 ∧ ∀ c, c ∈ (dataOf w t).ctors → ctorOk w.length c := by
  obtain ⟨_, _, hlt, e⟩ := at_data h hn
  have hd := hw.2 t.data.toNat (by omega) hlt hlt
  rw [e]
  refine ⟨hd.few, fun c hc => ?_⟩
  obtain ⟨k, hk, rfl⟩ := List.getElem_of_mem hc
  exact (hd.ctors k (by omega) hk hk).ok
theorem P.spec_ctors_l1 (w : List Data) (hw : worldOk w) (t : Ty) (h : tOk w t) (hn : t.data ≠ -1) : ∀ (m k : Nat) (out : List Int), (dataOf w t).ctors.length - k = m → out.length ≤ k → k ≤ (dataOf w t).ctors.length →
    F.spec_l1Ctors_l1 w t out k = some (out ++ selC t.index k ((dataOf w t).ctors.drop k)) := by
  have h4 := (world_ctors hw h hn).1
  intro m
  induction m with
  | zero =>
    intro k out hm ho hk
    rw [F.spec_l1Ctors_l1, (at_data h hn).1]
    simp only [Option.bind_eq_bind, Option.bind_some]
    rw [if_neg (by omega), List.drop_eq_nil_of_le (by omega)]; simp [selC]
  | succ m ih =>
    intro k out hm ho hk
    have hlt : k < (dataOf w t).ctors.length := by omega
    rw [F.spec_l1Ctors_l1, (at_data h hn).1]
    simp only [Option.bind_eq_bind, Option.bind_some]
    rw [if_pos hlt, List.getElem?_eq_getElem hlt, List.drop_eq_getElem_cons hlt]
    simp only [Option.bind_some, selC]
    have hf : F.spec_l1Fits (dataOf w t).ctors[k] t.index = some (dec (fitC t.index (dataOf w t).ctors[k])) := by
      unfold F.spec_l1Fits
      by_cases h1 : (dataOf w t).ctors[k].index = 0
      · rw [if_pos h1, dec_of (.inr (.inl h1))]
      · by_cases h2 : t.index = 0
        · rw [if_neg h1, if_pos h2, dec_of (.inl h2)]
        · rw [if_neg h1, if_neg h2, ← dec_eq]; congr 1; exact dec_congr ⟨fun h => .inr (.inr h), fun h => h.elim (fun h => absurd h h2) (fun h => h.elim (fun h => absurd h h1) id)⟩
    rw [hf]
    simp only [Option.bind_some]
    by_cases hfit : fitC t.index (dataOf w t).ctors[k]
    · rw [if_pos (dec_of hfit), if_pos (by omega), if_pos (by omega), ih (k + 1) _ (by omega) (by simp; omega) (by omega), if_pos (dec_of hfit)]; simp
    · rw [if_neg (by rw [dec_not hfit]; simp), if_pos (by omega), ih (k + 1) _ (by omega) (by omega) (by omega), if_neg (by rw [dec_not hfit]; simp)]; simp
theorem P.spec_l1Ctors (w : List Data) (hw : worldOk w) (t : Ty) (h : tOk w t) : F.spec_l1Ctors w t = some (ctorList w t) := by
  unfold F.spec_l1Ctors ctorList
  by_cases hn : t.data = -1
  · rw [if_pos hn, if_pos hn]
  · rw [if_neg hn, if_neg hn, P.spec_ctors_l1 w hw t h hn _ 0 [] rfl (by simp) (by omega)]; simp
theorem P.impl_ctors_l1 (w : List Data) (hw : worldOk w) (t : Ty) (h : tOk w t) (hn : t.data ≠ -1) : ∀ (m k : Nat) (out : List Int), (dataOf w t).ctors.length - k = m → out.length ≤ k → k ≤ (dataOf w t).ctors.length →
    F.impl_ctorsOf_l1 t (dataOf w t) k out = some (out ++ selC t.index k ((dataOf w t).ctors.drop k)) := by
  have h4 := (world_ctors hw h hn).1
  intro m
  induction m with
  | zero =>
    intro k out hm ho hk
    rw [F.impl_ctorsOf_l1, if_neg (by omega), List.drop_eq_nil_of_le (by omega)]; simp [selC]
  | succ m ih =>
    intro k out hm ho hk
    have hlt : k < (dataOf w t).ctors.length := by omega
    rw [F.impl_ctorsOf_l1, if_pos hlt, List.getElem?_eq_getElem hlt, List.drop_eq_getElem_cons hlt]
    simp only [Option.bind_eq_bind, Option.bind_some, selC]
    have yes : fitC t.index (dataOf w t).ctors[k] → (if out.length + 1 ≤ 67108864 then F.impl_ctorsOf_l1 t (dataOf w t) (k + 1) (out ++ [(k : Int)]) else none) =
        some (out ++ ((if dec (fitC t.index (dataOf w t).ctors[k]) = true then [(k : Int)] else []) ++ selC t.index (k + 1) ((dataOf w t).ctors.drop (k + 1)))) := by
      intro hfit
      rw [if_pos (by omega), ih (k + 1) _ (by omega) (by simp; omega) (by omega), if_pos (dec_of hfit)]; simp
    by_cases h1 : t.index = 0
    · rw [if_pos h1]; exact yes (.inl h1)
    by_cases h2 : (dataOf w t).ctors[k].index = 0
    · rw [if_neg h1, if_pos h2]; exact yes (.inr (.inl h2))
    by_cases h3 : (dataOf w t).ctors[k].index = t.index
    · rw [if_neg h1, if_neg h2, if_pos h3]; exact yes (.inr (.inr h3))
    · have hfit : ¬ fitC t.index (dataOf w t).ctors[k] := fun h => h.elim h1 (fun h => h.elim h2 h3)
      rw [if_neg h1, if_neg h2, if_neg h3, ih (k + 1) _ (by omega) (by omega) (by omega), if_neg (by rw [dec_not hfit]; simp)]; simp
theorem P.impl_ctorsOf (w : List Data) (hw : worldOk w) (t : Ty) (h : tOk w t) : F.impl_ctorsOf w t = some (ctorList w t) := by
  unfold F.impl_ctorsOf ctorList
  by_cases hn : t.data = -1
  · rw [if_pos hn, if_pos hn]
  · rw [if_neg hn, if_neg hn, (at_data h hn).1]
    simp only [Option.bind_eq_bind, Option.bind_some]
    rw [P.impl_ctors_l1 w hw t h hn _ 0 [] rfl (by simp) (by omega)]; simp
theorem ctorList_mem {w : List Data} {t : Ty} {c : Int} (h : c ∈ ctorList w t) : t.data ≠ -1 ∧ 0 ≤ c ∧ c < (dataOf w t).ctors.length := by
  unfold ctorList at h
  split at h
  · cases h
  · next hn =>
    have := selC_mem t.index h
    exact ⟨hn, by omega, by omega⟩
theorem at_ctor {w : List Data} {t : Ty} {c : Int} (h : c ∈ ctorList w t) : at? (dataOf w t).ctors c = some (ctorOf w t c) ∧ ctorOf w t c ∈ (dataOf w t).ctors := by
  obtain ⟨_, h1, h2⟩ := ctorList_mem h
  have hlt : c.toNat < (dataOf w t).ctors.length := by omega
  unfold at? ctorOf
  rw [if_pos h1, List.getElem?_eq_getElem hlt, List.getD_eq_getElem?_getD, List.getElem?_eq_getElem hlt]
  exact ⟨rfl, List.getElem_mem hlt⟩
theorem arg_tOk {w : List Data} (hw : worldOk w) {t : Ty} (ht : tOk w t) {c : Int} (h : c ∈ ctorList w t) : (argList w t c).length ≤ 3 ∧ ∀ a, a ∈ argList w t c → tOk w a := by
  have hc := (world_ctors hw ht (ctorList_mem h).1).2 _ (at_ctor h).2
  refine ⟨by unfold argList; rw [List.length_map]; exact hc.2.1, fun a ha => ?_⟩
  obtain ⟨b, hb, rfl⟩ := List.mem_map.1 ha
  obtain ⟨j, hj, rfl⟩ := List.getElem_of_mem hb
  have := tOk_of (hc.2.2.2.2 j (by omega) hj)
  unfold argOf
  split
  · exact this
  · exact this
theorem P.spec_l1Args (w : List Data) (hw : worldOk w) (t : Ty) (ht : tOk w t) (c : Int) (h : c ∈ ctorList w t) : F.spec_l1Args w t c = some (argList w t c) := by
  have hc := (world_ctors hw ht (ctorList_mem h).1).2 _ (at_ctor h).2
  unfold F.spec_l1Args
  rw [(at_data ht (ctorList_mem h).1).1]
  simp only [Option.bind_eq_bind, Option.bind_some]
  rw [(at_ctor h).1]
  simp only [Option.bind_some]
  rw [appLoop (L := F.spec_l1Args_l1 t (ctorOf w t c)) (a := (ctorOf w t c).args) (g := argOf t (ctorOf w t c)) (f := fun a => some (argOf t (ctorOf w t c) a)) (fun out i => ?_) (fun _ _ => rfl) _ 0 [] rfl (by have := hc.2.1; simp; omega)]
  · simp [argList]
  · rw [F.spec_l1Args_l1]
    split
    · cases (ctorOf w t c).args[i]? with
      | none => rfl
      | some a =>
        simp only [Option.bind_eq_bind, Option.bind_some, F.spec_l1Result, argOf]
        split
        · split <;> simp
        · simp
    · rfl
theorem P.impl_argTypes (w : List Data) (hw : worldOk w) (t : Ty) (ht : tOk w t) (c : Int) (h : c ∈ ctorList w t) : F.impl_argTypes w t c = some (argList w t c) := by
  have hc := (world_ctors hw ht (ctorList_mem h).1).2 _ (at_ctor h).2
  unfold F.impl_argTypes
  rw [(at_data ht (ctorList_mem h).1).1]
  simp only [Option.bind_eq_bind, Option.bind_some]
  rw [(at_ctor h).1]
  simp only [Option.bind_some]
  by_cases h0 : (ctorOf w t c).index = 0
  · rw [if_pos h0, appLoop (L := fun out i => F.impl_argTypes_l1 t (ctorOf w t c) i out) (a := (ctorOf w t c).args) (g := argOf t (ctorOf w t c)) (f := fun a => some (argOf t (ctorOf w t c) a)) (fun out i => ?_) (fun _ _ => rfl) _ 0 [] rfl (by have := hc.2.1; simp; omega)]
    · simp [argList]
    · show F.impl_argTypes_l1 t (ctorOf w t c) i out = _
      rw [F.impl_argTypes_l1]
      split
      · cases (ctorOf w t c).args[i]? with
        | none => rfl
        | some a =>
          simp only [Option.bind_eq_bind, Option.bind_some, argOf]
          split
          · first | rfl | rw [if_pos h0]
          · rfl
      · rfl
  · rw [if_neg h0, appLoop (L := fun out i => F.impl_argTypes_l2 (ctorOf w t c) i out) (a := (ctorOf w t c).args) (g := argOf t (ctorOf w t c)) (f := fun a => some (argOf t (ctorOf w t c) a)) (fun out i => ?_) (fun _ _ => rfl) _ 0 [] rfl (by have := hc.2.1; simp; omega)]
    · simp [argList]
    · show F.impl_argTypes_l2 (ctorOf w t c) i out = _
      rw [F.impl_argTypes_l2]
      split
      · cases (ctorOf w t c).args[i]? with
        | none => rfl
        | some a =>
          simp only [Option.bind_eq_bind, Option.bind_some, argOf]
          split
          · first | rfl | rw [if_neg h0]
          · rfl
      · rfl
theorem P.spec_l1Has (l : List Int) (n : Int) : F.spec_l1Has l n = some (dec (n ∈ l)) := by
  unfold F.spec_l1Has
  rw [allN (n := l.length) (r := true) (Q := fun j => ∀ h : j < l.length, l[j] ≠ n) (L := F.spec_l1Has_l1 l n) (fun k hk => by rw [F.spec_l1Has_l1, if_neg (by omega)])
    (fun k hk hq => by
      rw [F.spec_l1Has_l1, if_pos hk, List.getElem?_eq_getElem hk]
      simp only [Option.bind_eq_bind, Option.bind_some]
      rw [if_neg (hq hk)])
    (fun k hk hq => by
      rw [F.spec_l1Has_l1, if_pos hk, List.getElem?_eq_getElem hk]
      simp only [Option.bind_eq_bind, Option.bind_some]
      rw [if_pos (Classical.byContradiction fun h => hq fun _ => h)]) _ 0 rfl]
  simp only [Option.bind_eq_bind, Option.bind_some]
  by_cases hm : n ∈ l
  · obtain ⟨j, hj, e⟩ := List.getElem_of_mem hm
    rw [if_neg (by rw [dec_not fun hh => hh j (by omega) hj hj e]; simp), dec_of hm]
  · rw [if_pos (dec_of fun j _ hj h e => hm (by rw [← e]; exact List.getElem_mem h)), dec_not hm]
theorem P.slices_Contains_int (l : List Int) (n : Int) : F.slices_Contains_int l n = some (dec (n ∈ l)) := by
  unfold F.slices_Contains_int F.slices_Index_int
  have key : ∀ (m k : Nat), l.length - k = m → ∃ r, F.slices_Index_int_l1 l n k = some r ∧ match r with | .ret j => 0 ≤ j ∧ n ∈ l | .go _ => ∀ j, k ≤ j → ∀ h : j < l.length, l[j] ≠ n := by
    intro m
    induction m with
    | zero => intro k hm; rw [F.slices_Index_int_l1, if_neg (by omega)]; exact ⟨_, rfl, fun j h1 h2 => by omega⟩
    | succ m ih =>
      intro k hm
      have hk : k < l.length := by omega
      rw [F.slices_Index_int_l1, if_pos hk, List.getElem?_eq_getElem hk]
      simp only [Option.bind_eq_bind, Option.bind_some]
      by_cases h : n = l[k]
      · rw [if_pos h]; exact ⟨_, rfl, by omega, h ▸ List.getElem_mem hk⟩
      · rw [if_neg h]
        obtain ⟨r, hr, hx⟩ := ih (k + 1) (by omega)
        refine ⟨r, hr, ?_⟩
        cases r with
        | ret j => exact hx
        | go _ =>
          intro j hj hl
          by_cases e : k = j
          · subst e; exact fun e => h e.symm
          · exact hx j (by omega) hl
  obtain ⟨r, hr, hx⟩ := key _ 0 rfl
  rw [hr]
  cases r with
  | ret j =>
    simp only [Option.bind_eq_bind, Option.bind_some]
    rw [dec_of hx.2]; simp [hx.1]
  | go _ =>
    simp only [Option.bind_eq_bind, Option.bind_some]
    rw [dec_not fun hm => by obtain ⟨j, hj, e⟩ := List.getElem_of_mem hm; exact hx j (by omega) hj e]; simp
def pv (w : List Data) (holes : Bool) : Nat → Ty → Value → Prop
  | 0, _, _ => False
  | d + 1, t, v => (holes = true ∧ v.ctor = -2 ∧ v.n = 0 ∧ v.kids.length = 0) ∨ (¬ (holes = true ∧ v.ctor = -2) ∧
      ((t.data = -1 ∧ v.ctor = -1 ∧ 0 ≤ v.n ∧ v.n ≤ 9 ∧ v.kids.length = 0) ∨
       (t.data ≠ -1 ∧ v.n = 0 ∧ v.ctor ∈ ctorList w t ∧ v.kids.length = (argList w t v.ctor).length ∧
         ∀ i, 0 ≤ i → i < (argList w t v.ctor).length → ∀ (h : i < (argList w t v.ctor).length) (h' : i < v.kids.length), pv w holes d (argList w t v.ctor)[i] v.kids[i])))
theorem P.spec_l2Fits (w : List Data) (hw : worldOk w) : ∀ (d : Nat) (t : Ty) (v : Value), tOk w t → d ≤ 10 → F.spec_l2Fits w t v d = some (dec (pv w false d t v))
  | 0, t, v, ht, hd => by
    rw [F.spec_l2Fits, if_pos (by omega), dec_not (by simp [pv])]
  | d + 1, t, v, ht, hd => by
    rw [F.spec_l2Fits, if_neg (by omega)]
    by_cases h1 : t.data = -1
    · rw [if_pos h1]
      by_cases a1 : v.ctor = -1
      · by_cases a2 : 0 ≤ v.n
        · by_cases a3 : v.n ≤ 9
          · rw [if_pos a1, if_pos a2, if_pos a3, ← dec_eq]; congr 1
            exact dec_congr ⟨fun h => .inr ⟨by simp, .inl ⟨h1, a1, a2, a3, h⟩⟩, fun h => h.elim (fun h => by simp at h) (fun h => h.2.elim (fun h => h.2.2.2.2) (fun h => absurd h1 h.1))⟩
          · rw [if_pos a1, if_pos a2, if_neg a3, dec_not fun h => h.elim (fun h => by simp at h) (fun h => h.2.elim (fun h => a3 h.2.2.2.1) (fun h => h.1 h1))]
        · rw [if_pos a1, if_neg a2, dec_not fun h => h.elim (fun h => by simp at h) (fun h => h.2.elim (fun h => a2 h.2.2.1) (fun h => h.1 h1))]
      · rw [if_neg a1, dec_not fun h => h.elim (fun h => by simp at h) (fun h => h.2.elim (fun h => a1 h.2.1) (fun h => h.1 h1))]
    rw [if_neg h1]
    by_cases h2 : v.n = 0
    · rw [if_pos h2, P.spec_l1Ctors w hw t ht]
      simp only [Option.bind_eq_bind, Option.bind_some]
      rw [P.spec_l1Has]
      simp only [Option.bind_some]
      by_cases h3 : v.ctor ∈ ctorList w t
      · rw [if_pos (dec_of h3), P.spec_l1Args w hw t ht _ h3]
        simp only [Option.bind_some]
        by_cases h4 : v.kids.length = (argList w t v.ctor).length
        · rw [if_pos h4, allN (n := (argList w t v.ctor).length) (r := false) (Q := fun i => ∀ (h : i < (argList w t v.ctor).length) (h' : i < v.kids.length), pv w false d (argList w t v.ctor)[i] v.kids[i]) (L := F.spec_l2Fits_l1 w v ((d + 1 : Nat) : Int) (argList w t v.ctor))
            (fun k hk => by rw [F.spec_l2Fits_l1, if_neg (by omega)])
            (fun k hk hq => by
              have hk' : k < v.kids.length := by rw [h4]; exact hk
              rw [F.spec_l2Fits_l1, if_pos hk, List.getElem?_eq_getElem hk, List.getElem?_eq_getElem hk']
              simp only [Option.bind_eq_bind, Option.bind_some]
              rw [wrap_in (by omega) (by omega), show ((d + 1 : Nat) : Int) - 1 = (d : Int) from by omega, P.spec_l2Fits w hw d _ _ ((arg_tOk hw ht h3).2 _ (List.getElem_mem hk)) (by omega)]
              simp only [Option.bind_some]
              rw [if_pos (dec_of (hq hk hk'))])
            (fun k hk hq => by
              have hk' : k < v.kids.length := by rw [h4]; exact hk
              rw [F.spec_l2Fits_l1, if_pos hk, List.getElem?_eq_getElem hk, List.getElem?_eq_getElem hk']
              simp only [Option.bind_eq_bind, Option.bind_some]
              rw [wrap_in (by omega) (by omega), show ((d + 1 : Nat) : Int) - 1 = (d : Int) from by omega, P.spec_l2Fits w hw d _ _ ((arg_tOk hw ht h3).2 _ (List.getElem_mem hk)) (by omega)]
              simp only [Option.bind_some]
              rw [if_neg (by rw [dec_not fun h => hq fun _ _ => h]; simp)]) _ 0 rfl]
          simp only [Option.bind_some]
          by_cases hall : ∀ i, 0 ≤ i → i < (argList w t v.ctor).length → ∀ (h : i < (argList w t v.ctor).length) (h' : i < v.kids.length), pv w false d (argList w t v.ctor)[i] v.kids[i]
          · rw [if_pos (dec_of hall), dec_of (.inr ⟨by simp, .inr ⟨h1, h2, h3, h4, hall⟩⟩)]
          · rw [if_neg (by rw [dec_not hall]; simp), dec_not fun h => h.elim (fun h => by simp at h) (fun h => h.2.elim (fun h => h1 h.1) (fun h => hall h.2.2.2.2))]
        · rw [if_neg h4, dec_not fun h => h.elim (fun h => by simp at h) (fun h => h.2.elim (fun h => h1 h.1) (fun h => h4 h.2.2.2.1))]
      · rw [if_neg (by rw [dec_not h3]; simp), dec_not fun h => h.elim (fun h => by simp at h) (fun h => h.2.elim (fun h => h1 h.1) (fun h => h3 h.2.2.1))]
    · rw [if_neg h2, dec_not fun h => h.elim (fun h => by simp at h) (fun h => h.2.elim (fun h => h1 h.1) (fun h => h2 h.2.1))]
theorem P.spec_l10Hole (v : Value) (h : v.ctor = -2) : F.spec_l10Hole v = some (dec (v.n = 0 ∧ v.kids.length = 0)) := by
  unfold F.spec_l10Hole
  rw [if_pos h]
  by_cases h1 : v.n = 0
  · rw [if_pos h1, ← dec_eq]; congr 1; exact dec_congr ⟨fun h => ⟨h1, h⟩, fun h => h.2⟩
  · rw [if_neg h1, dec_not fun h => h1 h.1]
theorem P.spec_l10Fits (w : List Data) (hw : worldOk w) : ∀ (d : Nat) (t : Ty) (v : Value), tOk w t → d ≤ 10 → F.spec_l10Fits w t v d = some (dec (pv w true d t v))
  | 0, t, v, ht, hd => by
    rw [F.spec_l10Fits, if_pos (by omega), dec_not (by simp [pv])]
  | d + 1, t, v, ht, hd => by
    rw [F.spec_l10Fits, if_neg (by omega)]
    by_cases h0 : v.ctor = -2
    · rw [if_pos h0, P.spec_l10Hole v h0]
      simp only [Option.bind_eq_bind, Option.bind_some]
      congr 1; exact dec_congr ⟨fun h => .inl ⟨rfl, h0, h.1, h.2⟩, fun h => h.elim (fun h => ⟨h.2.2.1, h.2.2.2⟩) (fun h => absurd ⟨rfl, h0⟩ h.1)⟩
    rw [if_neg h0]
    have hno : ¬ (true = true ∧ v.ctor = -2) := fun h => h0 h.2
    by_cases h1 : t.data = -1
    · rw [if_pos h1, P.spec_l2Fits w hw (d + 1) t v ht hd]
      simp only [Option.bind_eq_bind, Option.bind_some]
      congr 1
      exact dec_congr ⟨fun h => h.elim (fun h => by simp at h) (fun h => h.2.elim (fun h => .inr ⟨hno, .inl h⟩) (fun h => absurd h1 h.1)), fun h => h.elim (fun h => absurd h.2.1 h0) (fun h => h.2.elim (fun h => .inr ⟨by simp, .inl h⟩) (fun h => absurd h1 h.1))⟩
    rw [if_neg h1]
    by_cases h2 : v.n = 0
    · rw [if_pos h2, P.spec_l1Ctors w hw t ht]
      simp only [Option.bind_eq_bind, Option.bind_some]
      rw [P.spec_l1Has]
      simp only [Option.bind_some]
      by_cases h3 : v.ctor ∈ ctorList w t
      · rw [if_pos (dec_of h3), P.spec_l1Args w hw t ht _ h3]
        simp only [Option.bind_some]
        by_cases h4 : v.kids.length = (argList w t v.ctor).length
        · rw [if_pos h4, allN (n := (argList w t v.ctor).length) (r := false) (Q := fun i => ∀ (h : i < (argList w t v.ctor).length) (h' : i < v.kids.length), pv w true d (argList w t v.ctor)[i] v.kids[i]) (L := F.spec_l10Fits_l1 w v ((d + 1 : Nat) : Int) (argList w t v.ctor))
            (fun k hk => by rw [F.spec_l10Fits_l1, if_neg (by omega)])
            (fun k hk hq => by
              have hk' : k < v.kids.length := by rw [h4]; exact hk
              rw [F.spec_l10Fits_l1, if_pos hk, List.getElem?_eq_getElem hk, List.getElem?_eq_getElem hk']
              simp only [Option.bind_eq_bind, Option.bind_some]
              rw [wrap_in (by omega) (by omega), show ((d + 1 : Nat) : Int) - 1 = (d : Int) from by omega, P.spec_l10Fits w hw d _ _ ((arg_tOk hw ht h3).2 _ (List.getElem_mem hk)) (by omega)]
              simp only [Option.bind_some]
              rw [if_pos (dec_of (hq hk hk'))])
            (fun k hk hq => by
              have hk' : k < v.kids.length := by rw [h4]; exact hk
              rw [F.spec_l10Fits_l1, if_pos hk, List.getElem?_eq_getElem hk, List.getElem?_eq_getElem hk']
              simp only [Option.bind_eq_bind, Option.bind_some]
              rw [wrap_in (by omega) (by omega), show ((d + 1 : Nat) : Int) - 1 = (d : Int) from by omega, P.spec_l10Fits w hw d _ _ ((arg_tOk hw ht h3).2 _ (List.getElem_mem hk)) (by omega)]
              simp only [Option.bind_some]
              rw [if_neg (by rw [dec_not fun h => hq fun _ _ => h]; simp)]) _ 0 rfl]
          simp only [Option.bind_some]
          by_cases hall : ∀ i, 0 ≤ i → i < (argList w t v.ctor).length → ∀ (h : i < (argList w t v.ctor).length) (h' : i < v.kids.length), pv w true d (argList w t v.ctor)[i] v.kids[i]
          · rw [if_pos (dec_of hall), dec_of (.inr ⟨hno, .inr ⟨h1, h2, h3, h4, hall⟩⟩)]
          · rw [if_neg (by rw [dec_not hall]; simp), dec_not fun h => h.elim (fun h => h0 h.2.1) (fun h => h.2.elim (fun h => h1 h.1) (fun h => hall h.2.2.2.2))]
        · rw [if_neg h4, dec_not fun h => h.elim (fun h => h0 h.2.1) (fun h => h.2.elim (fun h => h1 h.1) (fun h => h4 h.2.2.2.1))]
      · rw [if_neg (by rw [dec_not h3]; simp), dec_not fun h => h.elim (fun h => h0 h.2.1) (fun h => h.2.elim (fun h => h1 h.1) (fun h => h3 h.2.2.1))]
    · rw [if_neg h2, dec_not fun h => h.elim (fun h => h0 h.2.1) (fun h => h.2.elim (fun h => h1 h.1) (fun h => h2 h.2.1))]
theorem P.spec_count (v : Value) (hv : v.wt ≤ 1048576) : ∀ (most : Nat), most ≤ 60 → ∃ c : Nat, F.spec_l2Count v most = some (c : Int) ∧ 1 ≤ c ∧ c ≤ 1 + v.wt ∧ (1 + v.wt ≤ most → c = 1 + v.wt) ∧ (most < 1 + v.wt → most < c) := by
  induction v using Value.ind with
  | _ v ih =>
    intro most hm
    have hw := v.wt_eq
    have key : ∀ (m i : Nat) (n : Nat), v.kids.length - i = m → 1 ≤ n → n + ((v.kids.drop i).map fun k => 1 + k.wt).sum ≤ 1 + v.wt →
        ∃ c : Nat, F.spec_l2Count_l1 v most n i = some (c : Int) ∧ n ≤ c ∧ c ≤ n + ((v.kids.drop i).map fun k => 1 + k.wt).sum ∧ (n + ((v.kids.drop i).map fun k => 1 + k.wt).sum ≤ most → c = n + ((v.kids.drop i).map fun k => 1 + k.wt).sum) ∧ (most < n + ((v.kids.drop i).map fun k => 1 + k.wt).sum → most < c) := by
      intro m
      induction m with
      | zero =>
        intro i n hmi hn hb
        rw [F.spec_l2Count_l1, if_neg (by omega), List.drop_eq_nil_of_le (by omega)]
        exact ⟨n, rfl, by omega, by simp, by simp, by simp⟩
      | succ m ih2 =>
        intro i n hmi hn hb
        have hi : i < v.kids.length := by omega
        rw [List.drop_eq_getElem_cons hi] at hb ⊢
        simp only [List.map_cons, List.sum_cons] at hb ⊢
        rw [F.spec_l2Count_l1, if_pos hi]
        by_cases hle : n ≤ most
        · rw [if_pos (by omega), List.getElem?_eq_getElem hi]
          simp only [Option.bind_eq_bind, Option.bind_some]
          have hk : v.kids[i].wt ≤ 1048576 := by omega
          obtain ⟨c, h1, h2, h3, h4, h5⟩ := ih v.kids[i] (List.getElem_mem hi) hk (most - n) (by omega)
          rw [wrap_in (by omega) (by omega), show ((most : Int) - (n : Int)) = ((most - n : Nat) : Int) from by omega, h1]
          simp only [Option.bind_some]
          rw [wrap_in (by omega) (by omega), show ((n : Int) + (c : Int)) = ((n + c : Nat) : Int) from by omega]
          obtain ⟨c', g1, g2, g3, g4, g5⟩ := ih2 (i + 1) (n + c) (by omega) (by omega) (by omega)
          refine ⟨c', g1, by omega, by omega, fun h => ?_, fun h => ?_⟩
          · have := h4 (by omega)
            have := g4 (by omega)
            omega
          · by_cases hx : 1 + v.kids[i].wt ≤ most - n
            · have := h4 hx
              exact g5 (by omega)
            · have := h5 (by omega)
              omega
        · rw [if_neg (by omega)]
          exact ⟨n, rfl, by omega, by omega, fun h => by omega, fun h => by omega⟩
    have hs : ((v.kids.drop 0).map fun k => 1 + k.wt).sum = v.wt := by
      rw [List.drop_zero, hw]
      have : ∀ l : List Value, (l.map fun k => 1 + k.wt).sum = wtL Value.wt l := by
        intro l
        induction l with
        | nil => rfl
        | cons a r ih => simp [ih]
      exact this _
    obtain ⟨c, h1, h2, h3, h4, h5⟩ := key _ 0 1 rfl (by omega) (by omega)
    rw [hs] at h3 h4 h5
    unfold F.spec_l2Count
    have h1' : F.spec_l2Count_l1 v most (1 : Int) 0 = some (c : Int) := h1
    rw [h1']
    exact ⟨c, rfl, by omega, h3, h4, h5⟩
theorem wt_kids (v : Value) : v.wt = ((v.kids.drop 0).map fun k => 1 + k.wt).sum := by
  rw [List.drop_zero, v.wt_eq]
  have : ∀ l : List Value, (l.map fun k => 1 + k.wt).sum = wtL Value.wt l := by
    intro l
    induction l with
    | nil => rfl
    | cons a r ih => simp [ih]
  exact (this _).symm
def scanned (w : List Data) (holes : Bool) (d : Nat) (t : Ty) (v : Value) (count : Nat) (b : Bool) (c : Nat) : Prop :=
  (b = true ↔ pv w holes d t v ∧ count + (1 + v.wt) ≤ 60) ∧ (b = true → c = count + (1 + v.wt))
theorem P.scan_loop (w : List Data) (hw : worldOk w) (holes : Bool) (d : Nat) (hd : d + 1 ≤ 10) (v : Value) (args : List Ty) (hl : args.length = v.kids.length) (hargs : ∀ a, a ∈ args → tOk w a)
    (L : Int → Nat → Option (Lo (Bool × Int) Int))
    (hL : ∀ z i, L z i = if i < v.kids.length then v.kids[i]? >>= fun x => args[i]? >>= fun y => F.impl_valueScan w y x (IntKind.i64.wrap (((11 - (d + 1) : Nat) : Int) + 1)) holes z >>= fun r => if r.1 = true then L r.2 (i + 1) else some (.ret (false, r.2)) else some (.go z))
    (ih : ∀ (t : Ty) (x : Value) (count : Nat), tOk w t → count ≤ 60 → ∃ b c, F.impl_valueScan w t x ((11 - d : Nat) : Int) holes (count : Int) = some (b, ((c : Nat) : Int)) ∧ scanned w holes d t x count b c) :
    ∀ (m i : Nat) (z : Nat), v.kids.length - i = m → z ≤ 60 → ∃ o, L z i = some o ∧
      match o with
      | .ret (b, c) => b = false ∧ ∃ c' : Nat, c = (c' : Int) ∧ ¬ ((∀ j, i ≤ j → j < args.length → ∀ (h : j < args.length) (h' : j < v.kids.length), pv w holes d args[j] v.kids[j]) ∧ z + ((v.kids.drop i).map fun k => 1 + k.wt).sum ≤ 60)
      | .go c => c = ((z + ((v.kids.drop i).map fun k => 1 + k.wt).sum : Nat) : Int) ∧ (∀ j, i ≤ j → j < args.length → ∀ (h : j < args.length) (h' : j < v.kids.length), pv w holes d args[j] v.kids[j]) ∧ z + ((v.kids.drop i).map fun k => 1 + k.wt).sum ≤ 60 := by
  intro m
  induction m with
  | zero =>
    intro i z hm hz
    rw [hL, if_neg (by omega)]
    refine ⟨_, rfl, ?_⟩
    rw [List.drop_eq_nil_of_le (by omega)]
    exact ⟨by simp, fun j h1 h2 => by omega, by simpa using hz⟩
  | succ m ihm =>
    intro i z hm hz
    have hi : i < v.kids.length := by omega
    have hi' : i < args.length := by omega
    rw [hL, if_pos hi, List.getElem?_eq_getElem hi, List.getElem?_eq_getElem hi', List.drop_eq_getElem_cons hi]
    simp only [Option.bind_eq_bind, Option.bind_some, List.map_cons, List.sum_cons]
    rw [wrap_in (by omega) (by omega), show (((11 - (d + 1) : Nat) : Int) + 1) = ((11 - d : Nat) : Int) from by omega]
    obtain ⟨b, c, h1, h2, h3⟩ := ih args[i] v.kids[i] z (hargs _ (List.getElem_mem hi')) hz
    rw [h1]
    simp only [Option.bind_some]
    cases b with
    | true =>
      rw [if_pos rfl]
      have hc := h3 rfl
      obtain ⟨hp, hle⟩ := h2.1 rfl
      obtain ⟨o, g1, g2⟩ := ihm (i + 1) c (by omega) (by omega)
      refine ⟨o, g1, ?_⟩
      cases o with
      | ret r =>
        obtain ⟨b', c'⟩ := r
        obtain ⟨q1, c2, q2, q3⟩ := g2
        exact ⟨q1, c2, q2, fun hh => q3 ⟨fun j a b e f => hh.1 j (by omega) b e f, by omega⟩⟩
      | go r =>
        obtain ⟨q1, q2, q3⟩ := g2
        refine ⟨by rw [q1]; congr 1; omega, fun j a b e f => ?_, by omega⟩
        by_cases hj : i = j
        · subst hj; exact hp
        · exact q2 j (by omega) b e f
    | false =>
      rw [if_neg (by simp)]
      refine ⟨_, rfl, rfl, c, rfl, fun hh => ?_⟩
      have := h2.2 ⟨hh.1 i (Nat.le_refl _) hi' hi' hi, by omega⟩
      cases this
theorem P.valueScan (w : List Data) (hw : worldOk w) (holes : Bool) : ∀ (d : Nat) (t : Ty) (v : Value) (count : Nat), d ≤ 10 → tOk w t → count ≤ 60 →
    ∃ b c, F.impl_valueScan w t v ((11 - d : Nat) : Int) holes (count : Int) = some (b, ((c : Nat) : Int)) ∧ scanned w holes d t v count b c
  | d, t, v, count, hd, ht, hc => by
    have e1 : IntKind.i64.wrap ((count : Int) + 1) = ((count + 1 : Nat) : Int) := by rw [wrap_in (by omega) (by omega)]; omega
    have no : ∀ (h : ¬ (pv w holes d t v ∧ count + (1 + v.wt) ≤ 60)), ∃ b c, (some (false, ((count + 1 : Nat) : Int)) : Option (Bool × Int)) = some (b, ((c : Nat) : Int)) ∧ scanned w holes d t v count b c :=
      fun h => ⟨false, count + 1, rfl, ⟨fun h => (by cases h), fun hh => absurd hh h⟩, fun h => by cases h⟩
    rw [F.impl_valueScan, e1]
    by_cases h60 : (60 : Int) < ((count + 1 : Nat) : Int)
    · rw [if_pos h60]; exact no fun h => by omega
    rw [if_neg h60]
    match d, hd with
    | 0, _ =>
      rw [if_pos (by omega)]
      exact no fun h => h.1.elim
    | d + 1, hd =>
      rw [if_neg (by omega)]
      -- a value without kids
      have leaf : v.kids.length = 0 → v.wt = 0 := by
        intro h
        rw [v.wt_eq, List.length_eq_zero_iff.1 h]; rfl
      have yes : ∀ (p : Prop) [Decidable p], (p → pv w holes (d + 1) t v ∧ v.wt = 0) → (pv w holes (d + 1) t v → p) →
          ∃ b c, (some (decide p, ((count + 1 : Nat) : Int)) : Option (Bool × Int)) = some (b, ((c : Nat) : Int)) ∧ scanned w holes (d + 1) t v count b c := by
        intro p _ h1 h2
        refine ⟨decide p, count + 1, rfl, ⟨fun h => ?_, fun h => by simpa using h2 h.1⟩, fun h => ?_⟩
        · have := h1 (by simpa using h); exact ⟨this.1, by omega⟩
        · have := h1 (by simpa using h); omega
      have ints : t.data = -1 → ¬ (holes = true ∧ v.ctor = -2) →
          ∃ b c, (if v.ctor = -1 then (F.impl_within v.n 0 9) >>= fun r => if r = true then some (decide (v.kids.length = 0), ((count + 1 : Nat) : Int)) else some (false, ((count + 1 : Nat) : Int)) else some (false, ((count + 1 : Nat) : Int))) = some (b, ((c : Nat) : Int)) ∧ scanned w holes (d + 1) t v count b c := by
        intro h1 hno
        by_cases a1 : v.ctor = -1
        · rw [if_pos a1, P.within]
          simp only [Option.bind_eq_bind, Option.bind_some]
          by_cases a2 : 0 ≤ v.n ∧ v.n ≤ 9
          · rw [if_pos (dec_of a2)]
            exact yes _ (fun h => ⟨.inr ⟨hno, .inl ⟨h1, a1, a2.1, a2.2, h⟩⟩, leaf h⟩) (fun h => h.elim (fun h => h.2.2.2) (fun h => h.2.elim (fun h => h.2.2.2.2) (fun h => absurd h1 h.1)))
          · rw [if_neg (by rw [dec_not a2]; simp)]
            exact no fun h => h.1.elim (fun h => hno ⟨h.1, h.2.1⟩) (fun h => h.2.elim (fun h => a2 ⟨h.2.2.1, h.2.2.2.1⟩) (fun h => h.1 h1))
        · rw [if_neg a1]
          exact no fun h => h.1.elim (fun h => hno ⟨h.1, h.2.1⟩) (fun h => h.2.elim (fun h => a1 h.2.1) (fun h => h.1 h1))
      -- a value with a constructor
      have ctors : ∀ (L : List Ty → Int → Nat → Option (Lo (Bool × Int) Int)), (∀ a z i, L a z i = if i < v.kids.length then v.kids[i]? >>= fun x => a[i]? >>= fun y => F.impl_valueScan w y x (IntKind.i64.wrap (((11 - (d + 1) : Nat) : Int) + 1)) holes z >>= fun r => if r.1 = true then L a r.2 (i + 1) else some (.ret (false, r.2)) else some (.go z)) →
          ¬ (holes = true ∧ v.ctor = -2) → t.data ≠ -1 →
          ∃ b c, (if v.n = 0 then (F.impl_ctorsOf w t) >>= fun x => (F.slices_Contains_int x v.ctor) >>= fun y => if y = true then (F.impl_argTypes w t v.ctor) >>= fun a => if a.length = v.kids.length then (L a ((count + 1 : Nat) : Int) 0) >>= fun o => match o with | .ret r => some r | .go s => some (true, s) else some (false, ((count + 1 : Nat) : Int)) else some (false, ((count + 1 : Nat) : Int)) else some (false, ((count + 1 : Nat) : Int))) = some (b, ((c : Nat) : Int)) ∧ scanned w holes (d + 1) t v count b c := by
        intro L hL hno h1
        by_cases h2 : v.n = 0
        · rw [if_pos h2, P.impl_ctorsOf w hw t ht]
          simp only [Option.bind_eq_bind, Option.bind_some]
          rw [P.slices_Contains_int]
          simp only [Option.bind_some]
          by_cases h3 : v.ctor ∈ ctorList w t
          · rw [if_pos (dec_of h3), P.impl_argTypes w hw t ht _ h3]
            simp only [Option.bind_some]
            by_cases h4 : (argList w t v.ctor).length = v.kids.length
            · rw [if_pos h4]
              obtain ⟨o, g1, g2⟩ := P.scan_loop w hw holes d hd v (argList w t v.ctor) h4 (arg_tOk hw ht h3).2 (L (argList w t v.ctor)) (hL _) (fun t x c ht hc => P.valueScan w hw holes d t x c (by omega) ht hc) _ 0 (count + 1) rfl (by omega)
              rw [g1]
              simp only [Option.bind_some]
              have hwt := wt_kids v
              cases o with
              | ret r =>
                obtain ⟨b, c⟩ := r
                obtain ⟨rfl, c', rfl, q3⟩ := g2
                refine ⟨false, c', rfl, ⟨fun h => (by cases h), fun hh => absurd ⟨?_, ?_⟩ q3⟩, fun h => by cases h⟩
                · exact hh.1.elim (fun h => absurd ⟨h.1, h.2.1⟩ hno) (fun h => h.2.elim (fun h => absurd h.1 h1) (fun h => h.2.2.2.2))
                · have := hh.2; omega
              | go c =>
                obtain ⟨rfl, q2, q3⟩ := g2
                exact ⟨true, _, rfl, ⟨fun _ => ⟨.inr ⟨hno, .inr ⟨h1, h2, h3, h4.symm, q2⟩⟩, by omega⟩, fun _ => rfl⟩, fun _ => by omega⟩
            · rw [if_neg h4]
              exact no fun h => h.1.elim (fun h => hno ⟨h.1, h.2.1⟩) (fun h => h.2.elim (fun h => h1 h.1) (fun h => h4 h.2.2.2.1.symm))
          · rw [if_neg (by rw [dec_not h3]; simp)]
            exact no fun h => h.1.elim (fun h => hno ⟨h.1, h.2.1⟩) (fun h => h.2.elim (fun h => h1 h.1) (fun h => h3 h.2.2.1))
        · rw [if_neg h2]
          exact no fun h => h.1.elim (fun h => hno ⟨h.1, h.2.1⟩) (fun h => h.2.elim (fun h => h1 h.1) (fun h => h2 h.2.1))
      by_cases hh : holes = true
      · rw [if_pos hh]
        by_cases h0 : v.ctor = -2
        · rw [if_pos h0]
          by_cases hn : v.n = 0
          · rw [if_pos hn]
            exact yes _ (fun h => ⟨.inl ⟨hh, h0, hn, h⟩, leaf h⟩) (fun h => h.elim (fun h => h.2.2.2) (fun h => absurd ⟨hh, h0⟩ h.1))
          · rw [if_neg hn]
            exact no fun h => h.1.elim (fun h => hn h.2.2.1) (fun h => h.1 ⟨hh, h0⟩)
        rw [if_neg h0]
        have hno : ¬ (holes = true ∧ v.ctor = -2) := fun h => h0 h.2
        by_cases h1 : t.data = -1
        · rw [if_pos h1]; exact ints h1 hno
        · rw [if_neg h1]
          exact ctors (fun a => F.impl_valueScan_l1 w v ((11 - (d + 1) : Nat) : Int) holes a) (fun a z i => by
            show F.impl_valueScan_l1 w v ((11 - (d + 1) : Nat) : Int) holes a z i = _
            rw [F.impl_valueScan_l1]) hno h1
      · rw [if_neg hh]
        have hno : ¬ (holes = true ∧ v.ctor = -2) := fun h => hh h.1
        by_cases h1 : t.data = -1
        · rw [if_pos h1]; exact ints h1 hno
        · rw [if_neg h1]
          exact ctors (fun a => F.impl_valueScan_l2 w v ((11 - (d + 1) : Nat) : Int) holes a) (fun a z i => by
            show F.impl_valueScan_l2 w v ((11 - (d + 1) : Nat) : Int) holes a z i = _
            rw [F.impl_valueScan_l2]) hno h1
termination_by d => d
def partialOk (w : List Data) (t : Ty) (v : Value) : Prop := typeValid w t ∧ pv w true 10 t v ∧ 1 + v.wt ≤ 60
theorem P.spec_PartialValid (w : List Data) (t : Ty) (v : Value) (hw : smallW w) (hv : v.wt ≤ 1048576) : F.spec_PartialValid w t v = some (dec (partialOk w t v)) := by
  unfold F.spec_PartialValid
  rw [P.spec_TypeValid w t hw]
  simp only [Option.bind_eq_bind, Option.bind_some]
  by_cases h : typeValid w t
  · rw [if_pos (dec_of h)]
    unfold F.spec_l10Is
    have := P.spec_l10Fits w h.1 10 t v (tOk_of h.2.1) (by omega)
    have e : F.spec_l10Fits w t v 10 = some (dec (pv w true 10 t v)) := this
    rw [e]
    simp only [Option.bind_eq_bind, Option.bind_some]
    by_cases hp : pv w true 10 t v
    · rw [if_pos (dec_of hp)]
      obtain ⟨c, h1, h2, h3, h4, h5⟩ := P.spec_count v hv 60 (by omega)
      have h1' : F.spec_l2Count v 60 = some (c : Int) := h1
      rw [h1']
      simp only [Option.bind_some]
      rw [← dec_eq]; congr 1
      refine dec_congr ⟨fun hc => ⟨h, hp, ?_⟩, fun hh => ?_⟩
      · apply Classical.byContradiction; intro hn; have := h5 (by omega); omega
      · have := h4 hh.2.2; have := hh.2.2; omega
    · rw [if_neg (by rw [dec_not hp]; simp)]
      simp only [Option.bind_some]
      rw [dec_not fun hh => hp hh.2.1]
  · rw [if_neg (by rw [dec_not h]; simp), dec_not fun hh => h hh.1]
theorem P.impl_PartialValid (w : List Data) (t : Ty) (v : Value) (hw : smallW w) (hv : v.wt ≤ 1048576) : F.impl_PartialValid w t v = some (dec (partialOk w t v)) := by
  unfold F.impl_PartialValid
  rw [P.impl_TypeValid w t hw]
  simp only [Option.bind_eq_bind, Option.bind_some]
  by_cases h : typeValid w t
  · rw [if_pos (dec_of h)]
    obtain ⟨b, c, h1, h2, _⟩ := P.valueScan w h.1 true 10 t v 0 (by omega) (tOk_of h.2.1) (by omega)
    have h1' : F.impl_valueScan w t v 1 true 0 = some (b, (c : Int)) := h1
    rw [h1']
    simp only [Option.bind_some]
    congr 1
    cases b with
    | true => rw [dec_of ⟨h, (h2.1 rfl).1, by have := (h2.1 rfl).2; omega⟩]
    | false => rw [dec_not fun hh => by have := h2.2 ⟨hh.2.1, by have := hh.2.2; omega⟩; cases this]
  · rw [if_neg (by rw [dec_not h]; simp), dec_not fun hh => h hh.1]
theorem wt_of (c n : Int) (ks : List Value) : (⟨c, n, ks⟩ : Value).wt = ((ks.map fun k => 1 + k.wt).sum) := by
  have := wt_kids ⟨c, n, ks⟩
  simpa using this
theorem kid_wt {v k : Value} (h : k ∈ v.kids) : 1 + k.wt ≤ v.wt := by rw [v.wt_eq]; exact wtL_mem Value.wt h
theorem pv_kid {w : List Data} {h : Bool} {d : Nat} {t : Ty} {b : Value} (hb : pv w h (d + 1) t b) : ∀ i (h' : i < b.kids.length), ∃ t', pv w h d t' b.kids[i] := by
  intro i h'
  rcases hb with q | ⟨_, q | q⟩
  · omega
  · omega
  · have hk : i < (argList w t b.ctor).length := by omega
    exact ⟨_, q.2.2.2.2 i (by omega) hk hk h'⟩
theorem eqIntsG {a b : List Int} {L : Nat → Option (Lo Bool Unit)} (hl : a.length = b.length) (hL : ∀ i, L i = if i < a.length then a[i]? >>= fun x => b[i]? >>= fun y => if x = y then L (i + 1) else some (.ret false) else some (.go ())) :
    L 0 = some (if dec (a = b) = true then .go () else .ret false) := by
  rw [allN (n := a.length) (r := false) (Q := fun i => ∀ (h : i < a.length) (h' : i < b.length), a[i] = b[i]) (L := L)
    (fun k hk => by rw [hL, if_neg (by omega)])
    (fun k hk hq => by
      rw [hL, if_pos hk, List.getElem?_eq_getElem hk, List.getElem?_eq_getElem (show k < b.length by omega)]
      simp only [Option.bind_eq_bind, Option.bind_some]
      rw [if_pos (hq hk (by omega))])
    (fun k hk hq => by
      rw [hL, if_pos hk, List.getElem?_eq_getElem hk, List.getElem?_eq_getElem (show k < b.length by omega)]
      simp only [Option.bind_eq_bind, Option.bind_some]
      rw [if_neg fun h => hq fun _ _ => h]) _ 0 rfl]
  have : (∀ j, 0 ≤ j → j < a.length → ∀ (h : j < a.length) (h' : j < b.length), a[j] = b[j]) ↔ a = b :=
    ⟨fun h => List.ext_getElem hl fun i hi hi' => h i (by omega) hi hi hi', fun e => by subst e; exact fun _ _ _ _ _ => rfl⟩
  rw [dec_congr this]
theorem P.slices_Equal_int (a b : List Int) : F.slices_Equal_int a b = some (dec (a = b)) := by
  unfold F.slices_Equal_int
  by_cases hl : a.length = b.length
  · rw [if_pos hl, eqIntsG hl (L := F.slices_Equal_int_l1 a b) (fun i => by rw [F.slices_Equal_int_l1])]
    by_cases h : a = b
    · rw [if_pos (dec_of h), dec_of h]; rfl
    · rw [if_neg (by rw [dec_not h]; simp), dec_not h]; rfl
  · rw [if_neg hl, dec_not fun h => hl (by rw [h])]
theorem P.spec_l7SamePath (a b : List Int) : F.spec_l7SamePath a b = some (dec (a = b)) := by
  unfold F.spec_l7SamePath
  by_cases hl : a.length = b.length
  · rw [if_pos hl, eqIntsG hl (L := F.spec_l7SamePath_l1 a b) (fun i => by rw [F.spec_l7SamePath_l1])]
    by_cases h : a = b
    · rw [if_pos (dec_of h), dec_of h]; rfl
    · rw [if_neg (by rw [dec_not h]; simp), dec_not h]; rfl
  · rw [if_neg hl, dec_not fun h => hl (by rw [h])]
theorem P.spec_l10Path (l : List (List Int)) (p : List Int) : F.spec_l10Path l p = some (dec (p ∈ l)) := by
  unfold F.spec_l10Path
  rw [allN (n := l.length) (r := true) (Q := fun i => ∀ (h : i < l.length), l[i] ≠ p) (L := F.spec_l10Path_l1 l p)
    (fun k hk => by rw [F.spec_l10Path_l1, if_neg (by omega)])
    (fun k hk hq => by
      rw [F.spec_l10Path_l1, if_pos hk, List.getElem?_eq_getElem hk]
      simp only [Option.bind_eq_bind, Option.bind_some]
      rw [P.spec_l7SamePath]
      simp only [Option.bind_some]
      rw [if_neg (by rw [dec_not (hq hk)]; simp)])
    (fun k hk hq => by
      rw [F.spec_l10Path_l1, if_pos hk, List.getElem?_eq_getElem hk]
      simp only [Option.bind_eq_bind, Option.bind_some]
      rw [P.spec_l7SamePath]
      simp only [Option.bind_some]
      rw [if_pos (dec_of (Classical.byContradiction fun h => hq fun _ => h))]) _ 0 rfl]
  simp only [Option.bind_eq_bind, Option.bind_some]
  by_cases h : p ∈ l
  · rw [if_neg (by rw [dec_not fun hh => by obtain ⟨j, hj, e⟩ := List.getElem_of_mem h; exact hh j (by omega) hj hj e]; simp), dec_of h]
  · rw [if_pos (dec_of fun j _ hj _ e => h (by rw [← e]; exact List.getElem_mem hj)), dec_not h]
theorem P.impl_hasPath (l : List (List Int)) (p : List Int) : F.impl_hasPath l p = some (dec (p ∈ l)) := by
  unfold F.impl_hasPath F.slices_ContainsFunc__int__impl_hasPath_1 F.slices_IndexFunc__int__impl_hasPath_1
  have one : ∀ q, F.impl_hasPath_1 q p = some (dec (q = p)) := by
    intro q; unfold F.impl_hasPath_1; rw [P.slices_Equal_int]; rfl
  rw [findG (a := l) (p := fun q => q = p) (L := F.slices_IndexFunc__int__impl_hasPath_1_l1 l p) (fun k hk => by rw [F.slices_IndexFunc__int__impl_hasPath_1_l1, if_neg (by omega)])
    (fun k hk hp => by rw [F.slices_IndexFunc__int__impl_hasPath_1_l1, if_pos hk, List.getElem?_eq_getElem hk]; simp only [Option.bind_eq_bind, Option.bind_some]; rw [one]; simp only [Option.bind_some]; rw [if_neg (by rw [dec_not hp]; simp)])
    (fun k hk hp => by rw [F.slices_IndexFunc__int__impl_hasPath_1_l1, if_pos hk, List.getElem?_eq_getElem hk]; simp only [Option.bind_eq_bind, Option.bind_some]; rw [one]; simp only [Option.bind_some]; rw [if_pos (dec_of hp)]) _ 0 rfl, List.drop_zero]
  cases hf : fixN (fun q => q = p) 0 l with
  | none =>
    have := fixN_none hf
    simp only [Option.bind_eq_bind, Option.bind_some]
    rw [dec_not fun h => this p h rfl]; rfl
  | some j =>
    obtain ⟨_, h2, h3, _⟩ := fixN_some hf
    simp only [Option.bind_eq_bind, Option.bind_some]
    rw [dec_of (h3 ▸ List.getElem_mem h2)]; simp
def maskG (paths : List (List Int)) : Nat → List Int → Value → Value
  | 0, _, _ => ⟨-2, 0, []⟩
  | d + 1, path, v => if path ∈ paths then ⟨v.ctor, v.n, v.kids.mapIdx fun i k => maskG paths d (path ++ [(i : Int)]) k⟩ else ⟨-2, 0, []⟩
theorem maskLoop {v : Value} {f : Nat → Value → Value} {L : List Value → Nat → Option (List Value)} (hv : v.kids.length ≤ 1048576)
    (h0 : ∀ out i, ¬ i < v.kids.length → L out i = some out) (h1 : ∀ out i (h : i < v.kids.length), out.length = i → L out i = L (out ++ [f i v.kids[i]]) (i + 1)) :
    ∀ (m i : Nat) (out : List Value), v.kids.length - i = m → out.length = i → L out i = some (out ++ (v.kids.mapIdx f).drop i) := by
  intro m
  induction m with
  | zero =>
    intro i out hm ho
    rw [h0 out i (by omega), List.drop_eq_nil_of_le (by simp; omega), List.append_nil]
  | succ m ih =>
    intro i out hm ho
    have hi : i < v.kids.length := by omega
    have hi' : i < (v.kids.mapIdx f).length := by simpa using hi
    rw [h1 out i hi ho, ih (i + 1) _ (by omega) (by simp [ho]), List.drop_eq_getElem_cons hi']
    simp
theorem kids_wt (v : Value) : v.kids.length ≤ v.wt := by rw [v.wt_eq]; exact wtL_len _ _
theorem P.impl_mask (w : List Data) (paths : List (List Int)) : ∀ (d : Nat) (t : Ty) (v : Value) (path : List Int), pv w true d t v → path.length + d ≤ 1000 → v.wt ≤ 1048576 → F.impl_mask v path paths = some (maskG paths d path v)
  | 0, t, v, path, hv, _, _ => hv.elim
  | d + 1, t, v, path, hv, hp, hw => by
    rw [F.impl_mask, P.impl_hasPath]
    simp only [Option.bind_eq_bind, Option.bind_some, maskG]
    have hk := kids_wt v
    by_cases h : path ∈ paths
    · rw [if_pos (dec_of h), if_pos h, maskLoop (v := v) (f := fun i k => maskG paths d (path ++ [(i : Int)]) k) (L := F.impl_mask_l1 v path paths) (by omega)
        (fun out i hi => by rw [F.impl_mask_l1, if_neg hi])
        (fun out i hi ho => by
          rw [F.impl_mask_l1, if_pos hi, List.getElem?_eq_getElem hi]
          simp only [Option.bind_eq_bind, Option.bind_some]
          unfold F.slices_Clone_int
          rw [if_pos (by omega)]
          simp only [Option.bind_some]
          rw [if_pos (by omega)]
          obtain ⟨s, hs⟩ := pv_kid hv i hi
          have := kid_wt (List.getElem_mem hi)
          rw [P.impl_mask w paths d s _ _ hs (by simp; omega) (by omega)]
          simp only [Option.bind_some]
          rw [if_pos (by omega)]) _ 0 [] rfl rfl]
      simp
    · rw [if_neg (by rw [dec_not h]; simp), if_neg h]; rfl
theorem P.spec_l10Mask (w : List Data) (paths : List (List Int)) : ∀ (d : Nat) (t : Ty) (v : Value) (path : List Int), pv w true d t v → path.length + d ≤ 1000 → v.wt ≤ 1048576 → F.spec_l10Mask v paths path = some (maskG paths d path v)
  | 0, t, v, path, hv, _, _ => hv.elim
  | d + 1, t, v, path, hv, hp, hw => by
    rw [F.spec_l10Mask, P.spec_l10Path]
    simp only [Option.bind_eq_bind, Option.bind_some, maskG]
    have hk := kids_wt v
    by_cases h : path ∈ paths
    · rw [if_pos (dec_of h), if_pos h, maskLoop (v := v) (f := fun i k => maskG paths d (path ++ [(i : Int)]) k) (L := F.spec_l10Mask_l1 v paths path) (by omega)
        (fun out i hi => by rw [F.spec_l10Mask_l1, if_neg hi])
        (fun out i hi ho => by
          rw [F.spec_l10Mask_l1, if_pos hi, List.getElem?_eq_getElem hi]
          simp only [Option.bind_eq_bind, Option.bind_some]
          unfold F.spec_l7Path
          rw [if_pos (by omega), if_pos (by omega)]
          simp only [Option.bind_some]
          obtain ⟨s, hs⟩ := pv_kid hv i hi
          have := kid_wt (List.getElem_mem hi)
          rw [P.spec_l10Mask w paths d s _ _ hs (by simp; omega) (by omega)]
          simp only [Option.bind_some]
          rw [if_pos (by omega)]) _ 0 [] rfl rfl]
      simp
    · rw [if_neg (by rw [dec_not h]; simp), if_neg h]
theorem sum_mapIdx_le {l : List Value} {f : Nat → Value → Value} (h : ∀ i (hi : i < l.length), (f i l[i]).wt ≤ l[i].wt) : ((l.mapIdx f).map fun k => 1 + k.wt).sum ≤ (l.map fun k => 1 + k.wt).sum := by
  induction l generalizing f with
  | nil => simp
  | cons a r ih =>
    simp only [List.mapIdx_cons, List.map_cons, List.sum_cons]
    have h0 := h 0 (by simp)
    have := ih (f := fun i => f (i + 1)) (fun i hi => h (i + 1) (Nat.succ_lt_succ hi))
    simp at h0
    omega
theorem mask_wt (paths : List (List Int)) : ∀ (d : Nat) (path : List Int) (v : Value), (maskG paths d path v).wt ≤ v.wt
  | 0, path, v => by rw [maskG, wt_of]; simp
  | d + 1, path, v => by
    rw [maskG]
    split
    · rw [wt_of]
      have h1 := wt_kids v
      rw [List.drop_zero] at h1
      have := sum_mapIdx_le (l := v.kids) (f := fun i k => maskG paths d (path ++ [(i : Int)]) k) (fun i hi => mask_wt paths d _ _)
      omega
    · rw [wt_of]; simp
theorem P.impl_MaskValue (w : List Data) (t : Ty) (v : Value) (paths : List (List Int)) (hw : smallW w) (hv : v.wt ≤ 1048576) :
    F.impl_MaskValue w t v paths = some (if dec (partialOk w t v) = true then (maskG paths 10 [] v, true) else (⟨0, 0, []⟩, false)) := by
  unfold F.impl_MaskValue
  rw [P.impl_PartialValid w t v hw hv]
  simp only [Option.bind_eq_bind, Option.bind_some]
  by_cases h : partialOk w t v
  · rw [if_pos (dec_of h), if_pos (dec_of h), P.impl_mask w paths 10 t v [] h.2.1 (by simp) hv]; rfl
  · rw [if_neg (by rw [dec_not h]; simp), if_neg (by rw [dec_not h]; simp)]
theorem P.spec_MaskValue (w : List Data) (t : Ty) (v : Value) (paths : List (List Int)) (hw : smallW w) (hv : v.wt ≤ 1048576) :
    F.spec_MaskValue w t v paths = some (if dec (partialOk w t v) = true then (maskG paths 10 [] v, true) else (⟨0, 0, []⟩, false)) := by
  unfold F.spec_MaskValue
  rw [P.spec_PartialValid w t v hw hv]
  simp only [Option.bind_eq_bind, Option.bind_some]
  by_cases h : partialOk w t v
  · rw [if_pos (dec_of h), if_pos (dec_of h), P.spec_l10Mask w paths 10 t v [] h.2.1 (by simp) hv]; rfl
  · rw [if_neg (by rw [dec_not h]; simp), if_neg (by rw [dec_not h]; simp)]
def hasV (v : Int) : Nat → Pattern → Prop
  | 0, _ => False
  | d + 1, p => (∃ i, ∃ h : i < p.kids.length, hasV v d p.kids[i]) ∨ ((p.op = 2 ∨ p.op = 6) ∧ p.var = v)
def hv (d : Nat) (p : Pattern) : Prop := ∃ v, hasV v d p
end Go.Vl
