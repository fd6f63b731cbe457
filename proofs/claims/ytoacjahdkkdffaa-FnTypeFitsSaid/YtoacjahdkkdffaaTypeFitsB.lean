/- Plain laws that this one rests on (printed by gen_l.py). -/
import Derived.Test.YtoacjahdkkdffaaTypeFitsP
import Derived.Test.YtoacjahdkkdffaaVlQ
import Derived.Test.YtoacjahdkkdffaaTypeFitsE
set_option linter.unusedSimpArgs false
set_option linter.unusedVariables false
set_option maxRecDepth 100000
namespace Go.Vl
open Go Go.RowKit

def bigC (c : Nat) : Prop := 65 ≤ c ∧ c ≤ 90
def dataName (s : ByteArray) : Prop := s.size = 1 ∧ bigC (byteAt s 0) ∧ s ≠ ⟨#[73]⟩
def nameOk (s : ByteArray) : Prop := 1 ≤ s.size ∧ s.size ≤ 5 ∧ bigC (byteAt s 0) ∧ ∀ i, 1 ≤ i → i < s.size → 97 ≤ byteAt s i ∧ byteAt s i ≤ 122
def argOk (n : Nat) (t : Ty) : Prop := (t.data = -1 ∧ t.index = 0) ∨ (0 ≤ t.data ∧ t.data < n ∧ -1 ≤ t.index ∧ t.index ≤ 3)
def ctorOk (n : Nat) (c : Ctor) : Prop := nameOk c.name ∧ c.args.length ≤ 3 ∧ 0 ≤ c.index ∧ c.index ≤ 3 ∧ ∀ j, 0 ≤ j → (h : j < c.args.length) → argOk n c.args[j]
theorem P.spec_l1Big (c : Nat) : F.spec_l1Big c = some (dec (bigC c)) := by
  unfold F.spec_l1Big
  by_cases h : 65 ≤ (c : Int)
  · rw [if_pos h]; congr 1; rw [← dec_eq]; exact dec_congr ⟨fun h' => ⟨by omega, by omega⟩, fun h' => by have := h'.2; omega⟩
  · rw [if_neg h, dec_not fun h' => h (by have := h'.1; omega)]
theorem P.spec_l1Data (s : ByteArray) : F.spec_l1Data s = some (dec (dataName s)) := by
  unfold F.spec_l1Data
  by_cases h : s.size = 1
  · rw [if_pos h, if_pos (by omega), P.spec_l1Big]
    simp only [Option.bind_eq_bind, Option.bind_some]
    by_cases hb : bigC (byteAt s 0)
    · rw [if_pos (dec_of hb)]; congr 1; rw [← dec_eq]; exact dec_congr ⟨fun h' => ⟨h, hb, fun e => h' (by rw [e])⟩, fun h' e => h'.2.2 (bytes_eq.1 e)⟩
    · rw [if_neg (by rw [dec_not hb]; simp), dec_not fun h' => hb h'.2.1]
  · rw [if_neg h, dec_not fun h' => h h'.1]
theorem P.spec_name_l1 (s : ByteArray) (hs : s.size ≤ 1048576) : F.spec_NameValid_l1 s 1 = some (if dec (∀ i, 1 ≤ i → i < s.size → 97 ≤ byteAt s i ∧ byteAt s i ≤ 122) = true then .go () else .ret false) := by
  refine allN (L := F.spec_NameValid_l1 s) (fun k hk => ?_) (fun k hk hq => ?_) (fun k hk hq => ?_) _ 1 rfl
  · rw [F.spec_NameValid_l1, if_neg (by omega)]
  · rw [F.spec_NameValid_l1, if_pos hk, if_neg (by omega), if_neg (by omega), if_pos (by omega)]
  · rw [F.spec_NameValid_l1, if_pos hk]
    by_cases h : byteAt s k < 97
    · rw [if_pos h]
    · rw [if_neg h, if_pos (by omega)]
theorem P.impl_name_l1 (s : ByteArray) (hs : s.size ≤ 1048576) : F.impl_NameValid_l1 s 1 = some (if dec (∀ i, 1 ≤ i → i < s.size → 97 ≤ byteAt s i ∧ byteAt s i ≤ 122) = true then .go () else .ret false) := by
  refine allN (L := F.impl_NameValid_l1 s) (fun k hk => ?_) (fun k hk hq => ?_) (fun k hk hq => ?_) _ 1 rfl
  · rw [F.impl_NameValid_l1, if_neg (by omega)]
  · rw [F.impl_NameValid_l1, if_pos hk, if_neg (by omega), if_neg (by omega), if_pos (by omega)]
  · rw [F.impl_NameValid_l1, if_pos hk]
    by_cases h : byteAt s k < 97
    · rw [if_pos h]
    · rw [if_neg h, if_pos (by omega)]
theorem P.spec_NameValid (s : ByteArray) (hs : s.size ≤ 1048576) : F.spec_NameValid s = some (dec (nameOk s)) := by
  unfold F.spec_NameValid
  by_cases h0 : s.size = 0
  · rw [if_pos h0, dec_not fun h => by have := h.1; omega]
  by_cases h5 : 5 < s.size
  · rw [if_neg h0, if_pos h5, dec_not fun h => by have := h.2.1; omega]
  rw [if_neg h0, if_neg h5, if_pos (by omega), P.spec_l1Big]
  simp only [Option.bind_eq_bind, Option.bind_some]
  by_cases hb : bigC (byteAt s 0)
  · rw [if_pos (dec_of hb), P.spec_name_l1 s hs]
    simp only [Option.bind_some]
    by_cases hall : ∀ i, 1 ≤ i → i < s.size → 97 ≤ byteAt s i ∧ byteAt s i ≤ 122
    · rw [if_pos (dec_of hall), dec_of ⟨by omega, by omega, hb, hall⟩]
    · rw [if_neg (by rw [dec_not hall]; simp), dec_not fun h => hall h.2.2.2]
  · rw [if_neg (by rw [dec_not hb]; simp), dec_not fun h => hb h.2.2.1]
theorem P.within (n low high : Int) : F.impl_within n low high = some (dec (low ≤ n ∧ n ≤ high)) := by
  unfold F.impl_within
  by_cases h : low ≤ n
  · rw [if_pos h]; congr 1; rw [← dec_eq]; exact dec_congr ⟨fun h' => ⟨h, h'⟩, fun h' => h'.2⟩
  · rw [if_neg h, dec_not fun h' => h h'.1]
theorem P.impl_NameValid (s : ByteArray) (hs : s.size ≤ 1048576) : F.impl_NameValid s = some (dec (nameOk s)) := by
  unfold F.impl_NameValid
  rw [P.within]
  simp only [Option.bind_eq_bind, Option.bind_some]
  by_cases h0 : 1 ≤ (s.size : Int) ∧ (s.size : Int) ≤ 5
  · rw [if_pos (dec_of h0), if_pos (by omega)]
    by_cases a1 : byteAt s 0 < 65
    · rw [if_pos a1, dec_not fun h => by have := h.2.2.1.1; omega]
    by_cases a2 : 90 < byteAt s 0
    · rw [if_neg a1, if_pos a2, dec_not fun h => by have := h.2.2.1.2; omega]
    rw [if_neg a1, if_neg a2, P.impl_name_l1 s hs]
    simp only [Option.bind_some]
    by_cases hall : ∀ i, 1 ≤ i → i < s.size → 97 ≤ byteAt s i ∧ byteAt s i ≤ 122
    · rw [if_pos (dec_of hall), dec_of ⟨by omega, by omega, ⟨by omega, by omega⟩, hall⟩]
    · rw [if_neg (by rw [dec_not hall]; simp), dec_not fun h => hall h.2.2.2]
  · rw [if_neg (by rw [dec_not h0]; simp), dec_not fun h => h0 ⟨by have := h.1; omega, by have := h.2.1; omega⟩]
theorem P.spec_l1Arg (n : Nat) (t : Ty) : F.spec_l1Arg n t = some (dec (argOk n t)) := by
  unfold F.spec_l1Arg
  by_cases h : t.data = -1
  · rw [if_pos h]; congr 1; rw [← dec_eq]; exact dec_congr ⟨fun h' => .inl ⟨h, h'⟩, fun h' => h'.elim (·.2) (fun h' => by have := h'.1; omega)⟩
  rw [if_neg h]
  by_cases h1 : 0 ≤ t.data
  · by_cases h2 : t.data < n
    · by_cases h3 : -1 ≤ t.index
      · rw [if_pos h1, if_pos h2, if_pos h3]; congr 1; rw [← dec_eq]; exact dec_congr ⟨fun h' => .inr ⟨h1, h2, h3, h'⟩, fun h' => h'.elim (fun h' => absurd h'.1 h) (fun h' => h'.2.2.2)⟩
      · rw [if_pos h1, if_pos h2, if_neg h3, dec_not fun h' => h'.elim (fun h' => h h'.1) (fun h' => h3 h'.2.2.1)]
    · rw [if_pos h1, if_neg h2, dec_not fun h' => h'.elim (fun h' => h h'.1) (fun h' => h2 h'.2.1)]
  · rw [if_neg h1, dec_not fun h' => h'.elim (fun h' => h h'.1) (fun h' => h1 h'.1)]
theorem P.impl_argOk (w : List Data) (t : Ty) (hw : w.length ≤ 1048576) : F.impl_argOk w t = some (dec (argOk w.length t)) := by
  unfold F.impl_argOk
  by_cases h : eq2 (t.data, t.index) (-1, 0)
  · rw [if_pos (dec_of h), dec_of (.inl h)]
  rw [if_neg (by rw [dec_not h]; simp), P.within, wrap_in (by omega) (by omega)]
  simp only [Option.bind_eq_bind, Option.bind_some]
  by_cases h1 : 0 ≤ t.data ∧ t.data ≤ (w.length : Int) - 1
  · rw [if_pos (dec_of h1), P.within]
    simp only [Option.bind_some]
    congr 1; exact dec_congr ⟨fun h' => .inr ⟨h1.1, by omega, h'.1, h'.2⟩, fun h' => h'.elim (fun h' => absurd h' h) (fun h' => h'.2.2)⟩
  · rw [if_neg (by rw [dec_not h1]; simp), dec_not fun h' => h'.elim (fun h' => h h') (fun h' => h1 ⟨h'.1, by have := h'.2.1; omega⟩)]
theorem P.spec_l1Ctor (n : Nat) (c : Ctor) (hs : c.name.size ≤ 1048576) : F.spec_l1Ctor n c = some (dec (ctorOk n c)) := by
  unfold F.spec_l1Ctor
  rw [P.spec_NameValid _ hs]
  simp only [Option.bind_eq_bind, Option.bind_some]
  by_cases h1 : nameOk c.name
  · rw [if_pos (dec_of h1)]
    by_cases h2 : 3 < c.args.length
    · rw [if_pos h2, dec_not fun h => by have := h.2.1; omega]
    by_cases h3 : c.index < 0
    · rw [if_neg h2, if_pos h3, dec_not fun h => by have := h.2.2.1; omega]
    by_cases h4 : 3 < c.index
    · rw [if_neg h2, if_neg h3, if_pos h4, dec_not fun h => by have := h.2.2.2.1; omega]
    rw [if_neg h2, if_neg h3, if_neg h4]
    have key : F.spec_l1Ctor_l1 n c 0 = some (if dec (∀ j, 0 ≤ j → j < c.args.length → ∀ h : j < c.args.length, argOk n c.args[j]) = true then .go () else .ret false) := by
      refine allN (n := c.args.length) (Q := fun j => ∀ h : j < c.args.length, argOk n c.args[j]) (L := F.spec_l1Ctor_l1 n c) (fun k hk => ?_) (fun k hk hq => ?_) (fun k hk hq => ?_) _ 0 rfl
      · rw [F.spec_l1Ctor_l1, if_neg (by omega)]
      · rw [F.spec_l1Ctor_l1, if_pos hk, List.getElem?_eq_getElem hk]
        simp only [Option.bind_eq_bind, Option.bind_some]
        rw [P.spec_l1Arg]
        simp only [Option.bind_some]
        rw [if_pos (dec_of (hq hk))]
      · rw [F.spec_l1Ctor_l1, if_pos hk, List.getElem?_eq_getElem hk]
        simp only [Option.bind_eq_bind, Option.bind_some]
        rw [P.spec_l1Arg]
        simp only [Option.bind_some]
        rw [if_neg (by rw [dec_not fun h => hq fun _ => h]; simp)]
    rw [key]
    simp only [Option.bind_some]
    by_cases hall : ∀ j, 0 ≤ j → j < c.args.length → ∀ h : j < c.args.length, argOk n c.args[j]
    · rw [if_pos (dec_of hall), dec_of ⟨h1, by omega, by omega, by omega, fun j h0 hj => hall j h0 hj hj⟩]
    · rw [if_neg (by rw [dec_not hall]; simp), dec_not fun h => hall fun j h0 _ hj => h.2.2.2.2 j h0 hj]
  · rw [if_neg (by rw [dec_not h1]; simp), dec_not fun h => h1 h.1]
theorem P.impl_ctorOk_1 (t : Ty) (w : List Data) (hw : w.length ≤ 1048576) : F.impl_ctorOk_1 t w = some (!dec (argOk w.length t)) := by
  unfold F.impl_ctorOk_1
  rw [P.impl_argOk w t hw]; rfl
theorem P.args_index (w : List Data) (hw : w.length ≤ 1048576) (s : List Ty) : ∃ v, F.slices_IndexFunc_Type__impl_ctorOk_1 s w = some v ∧ (0 ≤ v ↔ ¬ ∀ j, 0 ≤ j → (h : j < s.length) → argOk w.length s[j]) := by
  unfold F.slices_IndexFunc_Type__impl_ctorOk_1
  have key : ∀ (m k : Nat), s.length - k = m → ∃ r, F.slices_IndexFunc_Type__impl_ctorOk_1_l1 s w k = some r ∧
      match r with | .ret j => 0 ≤ j ∧ ¬ ∀ j, k ≤ j → (h : j < s.length) → argOk w.length s[j] | .go _ => ∀ j, k ≤ j → (h : j < s.length) → argOk w.length s[j] := by
    intro m
    induction m with
    | zero =>
      intro k hm
      rw [F.slices_IndexFunc_Type__impl_ctorOk_1_l1, if_neg (by omega)]
      exact ⟨_, rfl, fun j hj h => by omega⟩
    | succ m ih =>
      intro k hm
      have hk : k < s.length := by omega
      rw [F.slices_IndexFunc_Type__impl_ctorOk_1_l1, if_pos hk, List.getElem?_eq_getElem hk]
      simp only [Option.bind_eq_bind, Option.bind_some]
      rw [P.impl_ctorOk_1 _ _ hw]
      simp only [Option.bind_some]
      by_cases h : argOk w.length s[k]
      · rw [if_neg (by rw [dec_of h]; simp)]
        obtain ⟨r, hr, hx⟩ := ih (k + 1) (by omega)
        refine ⟨r, hr, ?_⟩
        cases r with
        | ret j => exact ⟨hx.1, fun hh => hx.2 fun j hj hl => hh j (by omega) hl⟩
        | go _ =>
          intro j hj hl
          by_cases e : k = j
          · subst e; exact h
          · exact hx j (by omega) hl
      · rw [if_pos (by rw [dec_not h]; simp)]
        exact ⟨_, rfl, by omega, fun hh => h (hh k (Nat.le_refl _) hk)⟩
  obtain ⟨r, hr, hx⟩ := key _ 0 rfl
  rw [hr]
  cases r with
  | ret j => exact ⟨j, rfl, fun _ => hx.2, fun _ => hx.1⟩
  | go _ => exact ⟨-1, rfl, fun h => by omega, fun h => absurd hx h⟩
theorem P.impl_ctorOk (w : List Data) (c : Ctor) (hw : w.length ≤ 1048576) (hs : c.name.size ≤ 1048576) : F.impl_ctorOk w c = some (dec (ctorOk w.length c)) := by
  unfold F.impl_ctorOk
  rw [P.impl_NameValid _ hs]
  simp only [Option.bind_eq_bind, Option.bind_some]
  by_cases h1 : nameOk c.name
  · rw [if_pos (dec_of h1)]
    by_cases h2 : c.args.length ≤ 3
    · rw [if_pos h2, P.within]
      simp only [Option.bind_some]
      by_cases h3 : 0 ≤ c.index ∧ c.index ≤ 3
      · rw [if_pos (dec_of h3)]
        unfold F.slices_ContainsFunc_Type__impl_ctorOk_1
        obtain ⟨v, hv, hx⟩ := P.args_index w hw c.args
        rw [hv]
        simp only [Option.bind_eq_bind, Option.bind_some]
        by_cases hall : ∀ j, 0 ≤ j → (h : j < c.args.length) → argOk w.length c.args[j]
        · have : ¬ 0 ≤ v := fun h => (hx.1 h) hall
          rw [dec_of ⟨h1, h2, h3.1, h3.2, hall⟩]; simp [this]
        · have : 0 ≤ v := hx.2 hall
          rw [dec_not fun h => hall h.2.2.2.2]; simp [this]
      · rw [if_neg (by rw [dec_not h3]; simp), dec_not fun h => h3 ⟨h.2.2.1, h.2.2.2.1⟩]
    · rw [if_neg h2, dec_not fun h => h2 h.2.1]
  · rw [if_neg (by rw [dec_not h1]; simp), dec_not fun h => h1 h.1]
abbrev cnames (d : Data) : List ByteArray := d.ctors.map (·.name)
/-- What is asked of the k-th constructor of the i-th type. -/
structure ctorAt (w : List Data) (i : Nat) (d : Data) (k : Nat) (c : Ctor) : Prop where
  ok : ctorOk w.length c
  new : c.name ∉ (w.take i).flatMap cnames ++ (d.ctors.take k).map (·.name)
structure dataAt (w : List Data) (i : Nat) (d : Data) : Prop where
  name : dataName d.name
  new : d.name ∉ (w.take i).map (·.name)
  some : 1 ≤ d.ctors.length
  few : d.ctors.length ≤ 4
  ctors : ∀ k, 0 ≤ k → k < d.ctors.length → ∀ h : k < d.ctors.length, ctorAt w i d k d.ctors[k]
def worldOk (w : List Data) : Prop := w.length ≤ 4 ∧ ∀ i, 0 ≤ i → i < w.length → ∀ h : i < w.length, dataAt w i w[i]
def smallW (w : List Data) : Prop := w.length ≤ 1048576 ∧ ∀ d, d ∈ w → ∀ c, c ∈ d.ctors → c.name.size ≤ 1048576
theorem P.impl_world_l2 (w : List Data) (hw : smallW w) (met4 : List ByteArray) (i : Nat) (hi : i < w.length) : F.impl_WorldValid_l2 w met4 i w[i] ((w.take i).flatMap cnames) 0 =
    some (if dec (∀ k, 0 ≤ k → k < w[i].ctors.length → ∀ h : k < w[i].ctors.length, ctorAt w i w[i] k w[i].ctors[k]) = true then .go ((w.take i).flatMap cnames ++ cnames w[i]) else .ret false) := by
  have key := allG (n := w[i].ctors.length) (r := false) (p := (w.take i).flatMap cnames ++ cnames w[i]) (Q := fun k => ∀ h : k < w[i].ctors.length, ctorAt w i w[i] k w[i].ctors[k]) (L := fun k => F.impl_WorldValid_l2 w met4 i w[i] ((w.take i).flatMap cnames ++ (w[i].ctors.take k).map (·.name)) k)
    (fun k hk => by
      show F.impl_WorldValid_l2 w met4 i w[i] ((w.take i).flatMap cnames ++ (w[i].ctors.take k).map (·.name)) k = _
      rw [F.impl_WorldValid_l2, if_neg (by omega), List.take_of_length_le hk])
    (fun k hk hq => by
      show F.impl_WorldValid_l2 w met4 i w[i] ((w.take i).flatMap cnames ++ (w[i].ctors.take k).map (·.name)) k = F.impl_WorldValid_l2 w met4 i w[i] ((w.take i).flatMap cnames ++ (w[i].ctors.take (k + 1)).map (·.name)) (k + 1)
      have hc := hq hk
      rw [F.impl_WorldValid_l2, if_pos hk, List.getElem?_eq_getElem hk]
      simp only [Option.bind_eq_bind, Option.bind_some]
      rw [P.impl_ctorOk w _ hw.1 (hw.2 _ (List.getElem_mem hi) _ (List.getElem_mem hk))]
      simp only [Option.bind_some]
      rw [if_pos (dec_of hc.ok), if_neg (by rw [dec_not hc.new]; simp), msIns, if_neg (by rw [dec_not hc.new]; simp), take_map_succ hk, List.append_assoc])
    (fun k hk hq => by
      show F.impl_WorldValid_l2 w met4 i w[i] ((w.take i).flatMap cnames ++ (w[i].ctors.take k).map (·.name)) k = _
      rw [F.impl_WorldValid_l2, if_pos hk, List.getElem?_eq_getElem hk]
      simp only [Option.bind_eq_bind, Option.bind_some]
      rw [P.impl_ctorOk w _ hw.1 (hw.2 _ (List.getElem_mem hi) _ (List.getElem_mem hk))]
      simp only [Option.bind_some]
      by_cases h1 : ctorOk w.length w[i].ctors[k]
      · rw [if_pos (dec_of h1), if_pos (dec_of ?_)]
        apply Classical.byContradiction
        intro h2
        exact hq fun _ => ⟨h1, h2⟩
      · rw [if_neg (by rw [dec_not h1]; simp)]) _ 0 rfl
  simpa using key
theorem P.impl_world_l1 (w : List Data) (hw : smallW w) : F.impl_WorldValid_l1 w [] [] 0 = some (if dec (∀ i, 0 ≤ i → i < w.length → ∀ h : i < w.length, dataAt w i w[i]) = true then .go (w.flatMap cnames, w.map (·.name)) else .ret false) := by
  have key := allG (n := w.length) (r := false) (p := (w.flatMap cnames, w.map (·.name))) (Q := fun i => ∀ h : i < w.length, dataAt w i w[i]) (L := fun i => F.impl_WorldValid_l1 w ((w.take i).flatMap cnames) ((w.take i).map (·.name)) i)
    (fun i hi => by
      show F.impl_WorldValid_l1 w ((w.take i).flatMap cnames) ((w.take i).map (·.name)) i = _
      rw [F.impl_WorldValid_l1, if_neg (by omega), List.take_of_length_le hi])
    (fun i hi hq => by
      show F.impl_WorldValid_l1 w ((w.take i).flatMap cnames) ((w.take i).map (·.name)) i = F.impl_WorldValid_l1 w ((w.take (i + 1)).flatMap cnames) ((w.take (i + 1)).map (·.name)) (i + 1)
      have hd := hq hi
      have hn := hd.name
      have hbig := hn.2.1
      unfold bigC at hbig
      have := hw.1
      rw [F.impl_WorldValid_l1, if_pos hi, List.getElem?_eq_getElem hi]
      simp only [Option.bind_eq_bind, Option.bind_some]
      have := hd.some; have := hd.few
      rw [if_pos hn.1, if_pos (by have := hn.1; omega), if_neg (by omega), if_neg (by omega), if_neg (fun h => hn.2.2 (bytes_eq.1 h)), if_neg (by rw [dec_not hd.new]; simp), P.within]
      simp only [Option.bind_some]
      rw [if_pos (dec_of (by omega)), P.impl_world_l2 w hw _ i hi, if_pos (dec_of hd.ctors)]
      simp only [Option.bind_some]
      rw [if_pos (by omega), msIns, if_neg (by rw [dec_not hd.new]; simp), take_map_succ hi, take_flatMap_succ hi])
    (fun i hi hq => by
      show F.impl_WorldValid_l1 w ((w.take i).flatMap cnames) ((w.take i).map (·.name)) i = _
      have := hw.1
      rw [F.impl_WorldValid_l1, if_pos hi, List.getElem?_eq_getElem hi]
      simp only [Option.bind_eq_bind, Option.bind_some]
      by_cases h1 : w[i].name.size = 1
      · rw [if_pos h1, if_pos (by omega)]
        by_cases h2 : byteAt w[i].name 0 < 65
        · rw [if_pos h2]
        by_cases h3 : 90 < byteAt w[i].name 0
        · rw [if_neg h2, if_pos h3]
        by_cases h4 : w[i].name.toList = (⟨#[73]⟩ : ByteArray).toList
        · rw [if_neg h2, if_neg h3, if_pos h4]
        by_cases h5 : w[i].name ∈ (w.take i).map (·.name)
        · rw [if_neg h2, if_neg h3, if_neg h4, if_pos (dec_of h5)]
        rw [if_neg h2, if_neg h3, if_neg h4, if_neg (by rw [dec_not h5]; simp), P.within]
        simp only [Option.bind_some]
        by_cases h6 : 1 ≤ (w[i].ctors.length : Int) ∧ (w[i].ctors.length : Int) ≤ 4
        · rw [if_pos (dec_of h6), P.impl_world_l2 w hw _ i hi, if_neg (by
            rw [dec_not fun hh => hq fun _ => ⟨⟨h1, ⟨by omega, by omega⟩, fun e => h4 (by rw [e])⟩, h5, by omega, by omega, hh⟩]; simp)]
          rfl
        · rw [if_neg (by rw [dec_not h6]; simp)]
      · rw [if_neg h1]) _ 0 rfl
  simpa using key
theorem P.impl_WorldValid (w : List Data) (hw : smallW w) : F.impl_WorldValid w = some (dec (worldOk w)) := by
  unfold F.impl_WorldValid
  by_cases h : 4 < w.length
  · rw [if_pos h, dec_not fun hh => by have := hh.1; omega]
  rw [if_neg h, P.impl_world_l1 w hw]
  simp only [Option.bind_eq_bind, Option.bind_some]
  by_cases hall : ∀ i, 0 ≤ i → i < w.length → ∀ h : i < w.length, dataAt w i w[i]
  · rw [if_pos (dec_of hall), dec_of ⟨by omega, hall⟩]
  · rw [if_neg (by rw [dec_not hall]; simp), dec_not fun hh => hall hh.2]
/-- The reference's search for a name that stands twice. -/
theorem P.twice_l2 (w : List Data) (hw : smallW w) (d k i : Nat) (hd : d < w.length) (hk : k < w[d].ctors.length) (hi : i < d) (hl : w[d].ctors.length ≤ 4) (hli : w[i].ctors.length ≤ 4) : F.spec_l1Twice_l2 w d k i 0 =
    some (if dec (∀ j, 0 ≤ j → j < w[i].ctors.length → ∀ h : j < w[i].ctors.length, w[i].ctors[j].name ≠ w[d].ctors[k].name) = true then .go () else .ret true) := by
  have hi' : i < w.length := by omega
  refine allN (n := w[i].ctors.length) (r := true) (Q := fun j => ∀ h : j < w[i].ctors.length, w[i].ctors[j].name ≠ w[d].ctors[k].name) (L := F.spec_l1Twice_l2 w d k i) (fun j hj => ?_) (fun j hj hq => ?_) (fun j hj hq => ?_) _ 0 rfl
  · rw [F.spec_l1Twice_l2, List.getElem?_eq_getElem hi']
    simp only [Option.bind_eq_bind, Option.bind_some]
    rw [if_neg (by omega)]
  · rw [F.spec_l1Twice_l2, List.getElem?_eq_getElem hi']
    simp only [Option.bind_eq_bind, Option.bind_some]
    rw [if_pos hj, if_pos (by omega), at_lt hd]
    simp only [Option.bind_some]
    rw [if_pos (by omega), List.getElem?_eq_getElem hj, at_lt hk]
    simp only [Option.bind_some]
    rw [if_neg (fun h => hq hj (bytes_eq.1 h)), if_pos (by omega)]
  · rw [F.spec_l1Twice_l2, List.getElem?_eq_getElem hi']
    simp only [Option.bind_eq_bind, Option.bind_some]
    rw [if_pos hj, if_pos (by omega), at_lt hd]
    simp only [Option.bind_some]
    rw [if_pos (by omega), List.getElem?_eq_getElem hj, at_lt hk]
    simp only [Option.bind_some]
    rw [if_pos (bytes_eq.2 (Classical.byContradiction fun h => hq fun _ => h))]
theorem P.twice_l3 (w : List Data) (hw : smallW w) (d k : Nat) (hd : d < w.length) (hk : k < w[d].ctors.length) (hl : w[d].ctors.length ≤ 4) : F.spec_l1Twice_l3 w d k d 0 =
    some (if dec (∀ j, 0 ≤ j → j < k → ∀ h : j < w[d].ctors.length, w[d].ctors[j].name ≠ w[d].ctors[k].name) = true then .go () else .ret true) := by
  refine allN (n := k) (r := true) (Q := fun j => ∀ h : j < w[d].ctors.length, w[d].ctors[j].name ≠ w[d].ctors[k].name) (L := F.spec_l1Twice_l3 w d k d) (fun j hj => ?_) (fun j hj hq => ?_) (fun j hj hq => ?_) _ 0 rfl
  · rw [F.spec_l1Twice_l3, List.getElem?_eq_getElem hd]
    simp only [Option.bind_eq_bind, Option.bind_some]
    rcases Nat.lt_or_ge j w[d].ctors.length with h | h
    · rw [if_pos h, if_neg (by omega), if_neg (by omega)]
    · rw [if_neg (by omega)]
  · have hj' : j < w[d].ctors.length := Nat.lt_trans hj hk
    rw [F.spec_l1Twice_l3, List.getElem?_eq_getElem hd]
    simp only [Option.bind_eq_bind, Option.bind_some]
    rw [if_pos hj', if_neg (by omega), if_pos (by omega), at_lt hd]
    simp only [Option.bind_some]
    rw [if_pos (by omega), List.getElem?_eq_getElem hj', at_lt hk]
    simp only [Option.bind_some]
    rw [if_neg (fun h => hq hj' (bytes_eq.1 h)), if_pos (by omega)]
  · have hj' : j < w[d].ctors.length := Nat.lt_trans hj hk
    rw [F.spec_l1Twice_l3, List.getElem?_eq_getElem hd]
    simp only [Option.bind_eq_bind, Option.bind_some]
    rw [if_pos hj', if_neg (by omega), if_pos (by omega), at_lt hd]
    simp only [Option.bind_some]
    rw [if_pos (by omega), List.getElem?_eq_getElem hj', at_lt hk]
    simp only [Option.bind_some]
    rw [if_pos (bytes_eq.2 (Classical.byContradiction fun h => hq fun _ => h))]
/-- Nothing up to the k-th constructor of the d-th type bears its name. -/
structure fresh (w : List Data) (d k i : Nat) (hd : d < w.length) (hk : k < w[d].ctors.length) : Prop where
  data : i < d → ∀ h : i < w.length, w[i].name ≠ w[d].name
  ctor : i < d → ∀ h : i < w.length, ∀ j, 0 ≤ j → j < w[i].ctors.length → ∀ h : j < w[i].ctors.length, w[i].ctors[j].name ≠ w[d].ctors[k].name
  own : i = d → ∀ j, 0 ≤ j → j < k → ∀ h : j < w[d].ctors.length, w[d].ctors[j].name ≠ w[d].ctors[k].name
theorem P.spec_l1Twice (w : List Data) (hw : smallW w) (d k : Nat) (hd : d < w.length) (hk : k < w[d].ctors.length) (hw4 : w.length ≤ 4) (hl : ∀ i, i ≤ d → ∀ h : i < w.length, w[i].ctors.length ≤ 4) : F.spec_l1Twice w d k = some (!dec (∀ i, 0 ≤ i → i < d + 1 → fresh w d k i hd hk)) := by
  unfold F.spec_l1Twice
  have key : F.spec_l1Twice_l1 w d k 0 = some (if dec (∀ i, 0 ≤ i → i < d + 1 → fresh w d k i hd hk) = true then .go () else .ret true) := by
    refine allN (n := d + 1) (r := true) (Q := fun i => fresh w d k i hd hk) (L := F.spec_l1Twice_l1 w d k) (fun i hi => ?_) (fun i hi hq => ?_) (fun i hi hq => ?_) _ 0 rfl
    · rw [F.spec_l1Twice_l1, if_neg (by omega)]
    · rw [F.spec_l1Twice_l1, if_pos (by omega)]
      by_cases h : i < d
      · have hi' : i < w.length := by omega
        rw [if_pos (by omega), List.getElem?_eq_getElem hi', at_lt hd]
        simp only [Option.bind_eq_bind, Option.bind_some]
        rw [if_neg (fun e => hq.data h hi' (bytes_eq.1 e)), P.twice_l2 w hw d k i hd hk h (hl d (Nat.le_refl _) hd) (hl i (by omega) hi'), if_pos (dec_of (hq.ctor h hi'))]
        simp only [Option.bind_some]
        rw [if_pos (by omega)]
      · obtain rfl : i = d := by omega
        rw [if_neg (by omega), P.twice_l3 w hw i k hd hk (hl i (Nat.le_refl _) hd), if_pos (dec_of (hq.own rfl))]
        simp only [Option.bind_eq_bind, Option.bind_some]
        rw [if_pos (by omega)]
    · rw [F.spec_l1Twice_l1, if_pos (by omega)]
      by_cases h : i < d
      · have hi' : i < w.length := by omega
        rw [if_pos (by omega), List.getElem?_eq_getElem hi', at_lt hd]
        simp only [Option.bind_eq_bind, Option.bind_some]
        by_cases hn : w[i].name = w[d].name
        · rw [if_pos (bytes_eq.2 hn)]
        · rw [if_neg (fun e => hn (bytes_eq.1 e)), P.twice_l2 w hw d k i hd hk h (hl d (Nat.le_refl _) hd) (hl i (by omega) hi'), if_neg (by rw [dec_not fun hh => hq ⟨fun _ _ => hn, fun _ _ => hh, fun e => by omega⟩]; simp)]
          rfl
      · obtain rfl : i = d := by omega
        rw [if_neg (by omega), P.twice_l3 w hw i k hd hk (hl i (Nat.le_refl _) hd), if_neg (by rw [dec_not fun hh => hq ⟨fun e => by omega, fun e => by omega, fun _ => hh⟩]; simp)]
        rfl
  rw [key]
  simp only [Option.bind_eq_bind, Option.bind_some]
  by_cases hall : ∀ i, 0 ≤ i → i < d + 1 → fresh w d k i hd hk
  · rw [if_pos (dec_of hall), dec_of hall]; rfl
  · rw [if_neg (by rw [dec_not hall]; simp), dec_not hall]; rfl
theorem fresh_iff (w : List Data) (d k : Nat) (hd : d < w.length) (hk : k < w[d].ctors.length) : (∀ i, 0 ≤ i → i < d + 1 → fresh w d k i hd hk) ↔ w[d].name ∉ (w.take d).map (·.name) ∧ w[d].ctors[k].name ∉ (w.take d).flatMap cnames ++ (w[d].ctors.take k).map (·.name) := by
  constructor
  · intro h
    refine ⟨fun hm => ?_, fun hm => ?_⟩
    · obtain ⟨x, hx, e⟩ := List.mem_map.1 hm
      obtain ⟨i, hi, rfl⟩ := List.mem_take_iff_getElem.1 hx
      exact (h i (by omega) (by omega)).data (by omega) (by omega) e
    · rcases List.mem_append.1 hm with hm | hm
      · obtain ⟨x, hx, hc⟩ := List.mem_flatMap.1 hm
        obtain ⟨i, hi, rfl⟩ := List.mem_take_iff_getElem.1 hx
        obtain ⟨c, hc, e⟩ := List.mem_map.1 hc
        obtain ⟨j, hj, rfl⟩ := List.getElem_of_mem hc
        exact (h i (by omega) (by omega)).ctor (by omega) (by omega) j (by omega) hj hj e
      · obtain ⟨c, hc, e⟩ := List.mem_map.1 hm
        obtain ⟨j, hj, rfl⟩ := List.mem_take_iff_getElem.1 hc
        exact (h d (by omega) (by omega)).own rfl j (by omega) (by omega) (by omega) e
  · rintro ⟨h1, h2⟩ i _ hi
    refine ⟨fun hid hiw e => h1 (List.mem_map.2 ⟨w[i], List.mem_take_iff_getElem.2 ⟨i, by omega, rfl⟩, e⟩), fun hid hiw j _ hj hj' e => h2 (List.mem_append_left _ (List.mem_flatMap.2 ⟨w[i], List.mem_take_iff_getElem.2 ⟨i, by omega, rfl⟩, List.mem_map.2 ⟨_, List.getElem_mem hj, e⟩⟩)), fun e j _ hj hj' e => h2 (List.mem_append_right _ (List.mem_map.2 ⟨_, List.mem_take_iff_getElem.2 ⟨j, by omega, rfl⟩, e⟩))⟩
theorem P.spec_world_l2 (w : List Data) (hw : smallW w) (d : Nat) (hd : d < w.length) (hw4 : w.length ≤ 4) (hl : ∀ i, i ≤ d → ∀ h : i < w.length, w[i].ctors.length ≤ 4) : F.spec_WorldValid_l2 w d 0 =
    some (if dec (∀ k, 0 ≤ k → k < w[d].ctors.length → ∀ h : k < w[d].ctors.length, w[d].name ∉ (w.take d).map (·.name) ∧ ctorAt w d w[d] k w[d].ctors[k]) = true then .go () else .ret false) := by
  have hl0 := hl d (Nat.le_refl _) hd
  refine allN (n := w[d].ctors.length) (r := false) (Q := fun k => ∀ h : k < w[d].ctors.length, w[d].name ∉ (w.take d).map (·.name) ∧ ctorAt w d w[d] k w[d].ctors[k]) (L := F.spec_WorldValid_l2 w d) (fun k hk => ?_) (fun k hk hq => ?_) (fun k hk hq => ?_) _ 0 rfl
  · rw [F.spec_WorldValid_l2, List.getElem?_eq_getElem hd]
    simp only [Option.bind_eq_bind, Option.bind_some]
    rw [if_neg (by omega)]
  · obtain ⟨h1, h2⟩ := hq hk
    rw [F.spec_WorldValid_l2, List.getElem?_eq_getElem hd]
    simp only [Option.bind_eq_bind, Option.bind_some]
    rw [if_pos hk, List.getElem?_eq_getElem hk]
    simp only [Option.bind_some]
    rw [P.spec_l1Ctor _ _ (hw.2 _ (List.getElem_mem hd) _ (List.getElem_mem hk))]
    simp only [Option.bind_some]
    rw [if_pos (dec_of h2.ok), P.spec_l1Twice w hw d k hd hk hw4 hl]
    simp only [Option.bind_some]
    rw [dec_of ((fresh_iff w d k hd hk).2 ⟨h1, h2.new⟩), if_neg (by simp), if_pos (by omega)]
  · rw [F.spec_WorldValid_l2, List.getElem?_eq_getElem hd]
    simp only [Option.bind_eq_bind, Option.bind_some]
    rw [if_pos hk, List.getElem?_eq_getElem hk]
    simp only [Option.bind_some]
    rw [P.spec_l1Ctor _ _ (hw.2 _ (List.getElem_mem hd) _ (List.getElem_mem hk))]
    simp only [Option.bind_some]
    by_cases h1 : ctorOk w.length w[d].ctors[k]
    · rw [if_pos (dec_of h1), P.spec_l1Twice w hw d k hd hk hw4 hl]
      simp only [Option.bind_some]
      rw [dec_not fun hh => hq fun _ => ⟨((fresh_iff w d k hd hk).1 hh).1, ⟨h1, ((fresh_iff w d k hd hk).1 hh).2⟩⟩, if_pos (by simp)]
    · rw [if_neg (by rw [dec_not h1]; simp)]
theorem P.spec_WorldValid (w : List Data) (hw : smallW w) : F.spec_WorldValid w = some (dec (worldOk w)) := by
  unfold F.spec_WorldValid
  by_cases h4 : 4 < w.length
  · rw [if_pos h4, dec_not fun hh => by have := hh.1; omega]
  rw [if_neg h4]
  -- the loop runs only on over types that are right
  have key : ∀ (m d : Nat), w.length - d = m → (∀ i, i < d → ∀ h : i < w.length, w[i].ctors.length ≤ 4) → F.spec_WorldValid_l1 w d = some (if dec (∀ i, d ≤ i → i < w.length → ∀ h : i < w.length, dataAt w i w[i]) = true then .go () else .ret false) := by
    intro m
    induction m with
    | zero =>
      intro d hm hl
      rw [F.spec_WorldValid_l1, if_neg (by omega), if_pos (dec_of fun i h1 h2 => by omega)]
    | succ m ih =>
      intro d hm hl
      have hd : d < w.length := by omega
      rw [F.spec_WorldValid_l1, if_pos hd, List.getElem?_eq_getElem hd]
      simp only [Option.bind_eq_bind, Option.bind_some]
      rw [P.spec_l1Data]
      simp only [Option.bind_some]
      have no : ¬ dataAt w d w[d] → ¬ ∀ i, d ≤ i → i < w.length → ∀ h : i < w.length, dataAt w i w[i] := fun h hh => h (hh d (Nat.le_refl _) hd hd)
      by_cases h1 : dataName w[d].name
      · rw [if_pos (dec_of h1)]
        by_cases h2 : w[d].ctors.length = 0
        · rw [if_pos h2, if_neg (by rw [dec_not (no fun h => by have := h.some; omega)]; simp)]
        by_cases h3 : 4 < w[d].ctors.length
        · rw [if_neg h2, if_pos h3, if_neg (by rw [dec_not (no fun h => by have := h.few; omega)]; simp)]
        have hl' : ∀ i, i ≤ d → ∀ h : i < w.length, w[i].ctors.length ≤ 4 := fun i hi h => by
          by_cases e : i = d
          · subst e; omega
          · exact hl i (by omega) h
        rw [if_neg h2, if_neg h3, P.spec_world_l2 w hw d hd (by omega) hl']
        simp only [Option.bind_some]
        by_cases hq : ∀ k, 0 ≤ k → k < w[d].ctors.length → ∀ h : k < w[d].ctors.length, w[d].name ∉ (w.take d).map (·.name) ∧ ctorAt w d w[d] k w[d].ctors[k]
        · have hda : dataAt w d w[d] := ⟨h1, (hq 0 (by omega) (by omega) (by omega)).1, by omega, by omega, fun k a b c => (hq k a b c).2⟩
          rw [if_pos (dec_of hq)]
          simp only
          rw [if_pos (by omega), ih (d + 1) (by omega) fun i hi h => hl' i (by omega) h]
          by_cases hall : ∀ i, d + 1 ≤ i → i < w.length → ∀ h : i < w.length, dataAt w i w[i]
          · rw [if_pos (dec_of hall), if_pos (dec_of fun i a b c => ?_)]
            by_cases e : i = d
            · subst e; exact hda
            · exact hall i (by omega) b c
          · rw [if_neg (by rw [dec_not hall]; simp), if_neg (by rw [dec_not fun hh => hall fun i a b c => hh i (by omega) b c]; simp)]
        · rw [if_neg (by rw [dec_not hq]; simp)]
          simp only
          rw [if_neg (by rw [dec_not (no fun h => hq fun k a b c => ⟨h.new, h.ctors k a b c⟩)]; simp)]
      · rw [if_neg (by rw [dec_not h1]; simp), if_neg (by rw [dec_not (no fun h => h1 h.name)]; simp)]
  rw [key _ 0 rfl fun i hi => by omega]
  simp only [Option.bind_eq_bind, Option.bind_some]
  by_cases hall : ∀ i, 0 ≤ i → i < w.length → ∀ h : i < w.length, dataAt w i w[i]
  · rw [if_pos (dec_of hall), dec_of ⟨by omega, hall⟩]
  · rw [if_neg (by rw [dec_not hall]; simp), dec_not fun hh => hall hh.2]
/-- A type of a world. -/
def typeOk (w : List Data) (t : Ty) : Prop := argOk w.length t ∧ 0 ≤ t.index
theorem P.spec_l1Is (w : List Data) (t : Ty) : F.spec_l1Is w t = some (dec (typeOk w t)) := by
  unfold F.spec_l1Is
  rw [P.spec_l1Arg]
  simp only [Option.bind_eq_bind, Option.bind_some]
  by_cases h : argOk w.length t
  · rw [if_pos (dec_of h), ← dec_eq]; congr 1; exact dec_congr ⟨fun h' => ⟨h, h'⟩, fun h' => h'.2⟩
  · rw [if_neg (by rw [dec_not h]; simp), dec_not fun h' => h h'.1]
theorem P.impl_typeOk (w : List Data) (t : Ty) (hw : w.length ≤ 1048576) : F.impl_typeOk w t = some (dec (typeOk w t)) := by
  unfold F.impl_typeOk
  by_cases h : eq2 (t.data, t.index) (-1, 0)
  · rw [if_pos (dec_of h), dec_of ⟨.inl h, by have := h.2; simp at this; omega⟩]
  rw [if_neg (by rw [dec_not h]; simp), P.within, wrap_in (by omega) (by omega)]
  simp only [Option.bind_eq_bind, Option.bind_some]
  by_cases h1 : 0 ≤ t.data ∧ t.data ≤ (w.length : Int) - 1
  · rw [if_pos (dec_of h1), P.within]
    simp only [Option.bind_some]
    congr 1; exact dec_congr ⟨fun h' => ⟨.inr ⟨h1.1, by omega, by omega, h'.2⟩, h'.1⟩, fun h' => h'.1.elim (fun h' => absurd h' h) (fun h2 => ⟨h'.2, h2.2.2.2⟩)⟩
  · rw [if_neg (by rw [dec_not h1]; simp), dec_not fun h' => h'.1.elim (fun h' => h h') (fun h' => h1 ⟨h'.1, by have := h'.2.1; omega⟩)]
def typeValid (w : List Data) (t : Ty) : Prop := worldOk w ∧ typeOk w t
theorem P.spec_TypeValid (w : List Data) (t : Ty) (hw : smallW w) : F.spec_TypeValid w t = some (dec (typeValid w t)) := by
  unfold F.spec_TypeValid
  rw [P.spec_WorldValid w hw]
  simp only [Option.bind_eq_bind, Option.bind_some]
  by_cases h : worldOk w
  · rw [if_pos (dec_of h), P.spec_l1Is]
    simp only [Option.bind_some]
    congr 1; exact dec_congr ⟨fun h' => ⟨h, h'⟩, fun h' => h'.2⟩
  · rw [if_neg (by rw [dec_not h]; simp), dec_not fun h' => h h'.1]
theorem P.impl_TypeValid (w : List Data) (t : Ty) (hw : smallW w) : F.impl_TypeValid w t = some (dec (typeValid w t)) := by
  unfold F.impl_TypeValid
  rw [P.impl_WorldValid w hw]
  simp only [Option.bind_eq_bind, Option.bind_some]
  by_cases h : worldOk w
  · rw [if_pos (dec_of h), P.impl_typeOk w t hw.1]
    simp only [Option.bind_some]
    congr 1; exact dec_congr ⟨fun h' => ⟨h, h'⟩, fun h' => h'.2⟩
  · rw [if_neg (by rw [dec_not h]; simp), dec_not fun h' => h h'.1]
theorem smallW_of {w : List Data} (h : wtL Data.wt w ≤ 1048576) : smallW w := by
  refine ⟨by have := wtL_len Data.wt w; omega, fun d hd c hc => ?_⟩
  have h1 := wtL_mem Data.wt hd
  have h2 := wtL_mem Ctor.wt hc
  have e1 : d.wt = d.name.size + wtL Ctor.wt d.ctors := rfl
  have e2 : c.wt = c.name.size + wtL Ty.wt c.args := rfl
  omega
def tOk (w : List Data) (t : Ty) : Prop := t.data = -1 ∨ (0 ≤ t.data ∧ t.data < w.length)
theorem tOk_of {w : List Data} {t : Ty} (h : argOk w.length t) : tOk w t := h.elim (fun h => .inl h.1) (fun h => .inr ⟨h.1, h.2.1⟩)
/-- The constructors that fit an index, by their places. -/
def fitC (i : Int) (c : Ctor) : Prop := i = 0 ∨ c.index = 0 ∨ c.index = i
noncomputable def selC (i : Int) : Nat → List Ctor → List Int
  | _, [] => []
  | k, c :: r => (if dec (fitC i c) = true then [(k : Int)] else []) ++ selC i (k + 1) r
def dataOf (w : List Data) (t : Ty) : Data := w.getD t.data.toNat Data.z
noncomputable def ctorList (w : List Data) (t : Ty) : List Int := if t.data = -1 then [] else selC t.index 0 (dataOf w t).ctors
theorem at_data {w : List Data} {t : Ty} (h : tOk w t) (hn : t.data ≠ -1) : at? w t.data = some (dataOf w t) ∧ dataOf w t ∈ w ∧ ∃ h : t.data.toNat < w.length, dataOf w t = w[t.data.toNat] := by
  obtain ⟨h1, h2⟩ := h.resolve_left hn
  have hlt : t.data.toNat < w.length := by omega
  unfold at? dataOf
  rw [if_pos h1, List.getElem?_eq_getElem hlt, List.getD_eq_getElem?_getD, List.getElem?_eq_getElem hlt]
  exact ⟨rfl, List.getElem_mem hlt, hlt, rfl⟩
theorem world_ctors {w : List Data} (hw : worldOk w) {t : Ty} (h : tOk w t) (hn : t.data ≠ -1) : (dataOf w t).ctors.length ≤ 4 ∧ ∀ c, c ∈ (dataOf w t).ctors → ctorOk w.length c := by
  obtain ⟨_, _, hlt, e⟩ := at_data h hn
  have hd := hw.2 t.data.toNat (by omega) hlt hlt
  rw [e]
  refine ⟨hd.few, fun c hc => ?_⟩
  obtain ⟨k, hk, rfl⟩ := List.getElem_of_mem hc
  exact (hd.ctors k (by omega) hk hk).ok
theorem P.impl_ctors_l1 (w : List Data) (hw : worldOk w) (t : Ty) (h : tOk w t) (hn : t.data ≠ -1) : ∀ (m k : Nat) (out : List Int), (dataOf w t).ctors.length - k = m → out.length ≤ k → k ≤ (dataOf w t).ctors.length →
    F.impl_ctorsOf_l1 t (dataOf w t) k out = some (out ++ selC t.index k ((dataOf w t).ctors.drop k)) := by
  have h4 := (world_ctors hw h hn).1
  intro m
  induction m with
  | zero =>
    intro k out hm ho hk
    rw [F.impl_ctorsOf_l1, if_neg (by omega), List.drop_eq_nil_of_le (by omega)]; simp [selC]
  | succ m ih =>
    intro k out hm ho hk
    have hlt : k < (dataOf w t).ctors.length := by omega
    rw [F.impl_ctorsOf_l1, if_pos hlt, List.getElem?_eq_getElem hlt, List.drop_eq_getElem_cons hlt]
    simp only [Option.bind_eq_bind, Option.bind_some, selC]
    have yes : fitC t.index (dataOf w t).ctors[k] → (if out.length + 1 ≤ 67108864 then F.impl_ctorsOf_l1 t (dataOf w t) (k + 1) (out ++ [(k : Int)]) else none) =
        some (out ++ ((if dec (fitC t.index (dataOf w t).ctors[k]) = true then [(k : Int)] else []) ++ selC t.index (k + 1) ((dataOf w t).ctors.drop (k + 1)))) := by
      intro hfit
      rw [if_pos (by omega), ih (k + 1) _ (by omega) (by simp; omega) (by omega), if_pos (dec_of hfit)]; simp
    by_cases h1 : t.index = 0
    · rw [if_pos h1]; exact yes (.inl h1)
    by_cases h2 : (dataOf w t).ctors[k].index = 0
    · rw [if_neg h1, if_pos h2]; exact yes (.inr (.inl h2))
    by_cases h3 : (dataOf w t).ctors[k].index = t.index
    · rw [if_neg h1, if_neg h2, if_pos h3]; exact yes (.inr (.inr h3))
    · have hfit : ¬ fitC t.index (dataOf w t).ctors[k] := fun h => h.elim h1 (fun h => h.elim h2 h3)
      rw [if_neg h1, if_neg h2, if_neg h3, ih (k + 1) _ (by omega) (by omega) (by omega), if_neg (by rw [dec_not hfit]; simp)]; simp
theorem P.impl_ctorsOf (w : List Data) (hw : worldOk w) (t : Ty) (h : tOk w t) : F.impl_ctorsOf w t = some (ctorList w t) := by
  unfold F.impl_ctorsOf ctorList
  by_cases hn : t.data = -1
  · rw [if_pos hn, if_pos hn]
  · rw [if_neg hn, if_neg hn, (at_data h hn).1]
    simp only [Option.bind_eq_bind, Option.bind_some]
    rw [P.impl_ctors_l1 w hw t h hn _ 0 [] rfl (by simp) (by omega)]; simp
/-- A source of numbers that was asked at most K times. -/
def rok (K : Nat) (r : T_spec_l17Rd) : Prop := r.f0.length ≤ 2000 ∧ (∀ x, x ∈ r.f0 → 0 ≤ x ∧ x ≤ 255) ∧ 0 ≤ r.f1 ∧ r.f1 ≤ (K : Int)
theorem rok.mono {K L : Nat} {r : T_spec_l17Rd} (h : rok K r) (hl : K ≤ L) : rok L r := ⟨h.1, h.2.1, h.2.2.1, by have := h.2.2.2; omega⟩
theorem xor_pos {a b : Int} (ha : 0 ≤ a) (hb : 0 ≤ b) (ha' : a < 4611686018427387904) (hb' : b < 4611686018427387904) : 0 ≤ xorI .i64 a b := by
  unfold xorI
  obtain ⟨m, rfl⟩ := Int.eq_ofNat_of_zero_le ha
  obtain ⟨n, rfl⟩ := Int.eq_ofNat_of_zero_le hb
  have hm : m < 2 ^ 62 := by omega
  have hn : n < 2 ^ 62 := by omega
  have h : (BitVec.ofInt IntKind.i64.bits (m : Int) ^^^ BitVec.ofInt IntKind.i64.bits (n : Int)).toNat < 2 ^ 62 := by
    rw [BitVec.toNat_xor]
    refine Nat.xor_lt_two_pow ?_ ?_
    · show (BitVec.ofInt 64 (m : Int)).toNat < 2 ^ 62
      rw [BitVec.toNat_ofInt]; omega
    · show (BitVec.ofInt 64 (n : Int)).toNat < 2 ^ 62
      rw [BitVec.toNat_ofInt]; omega
  rw [wrap_in (by omega) (by omega)]
  exact Int.natCast_nonneg _
theorem at_mem {α : Type} {xs : List α} {i : Int} (h0 : 0 ≤ i) (h1 : i < xs.length) : ∃ x, at? xs i = some x ∧ x ∈ xs := by
  have hi : i.toNat < xs.length := by omega
  refine ⟨xs[i.toNat], ?_, List.getElem_mem hi⟩
  unfold at?
  rw [if_pos h0, List.getElem?_eq_getElem hi]
theorem P.pick {K : Nat} {r : T_spec_l17Rd} (h : rok K r) (hK : K ≤ 1099511627776) (n : Int) : ∃ v r', F.spec_l17Rd_pick r n = some (v, r') ∧ rok (K + 1) r' ∧ 0 ≤ v ∧ (1 ≤ n → v < n) ∧ (n < 1 → v = 0) := by
  obtain ⟨h1, h2, h3, h4⟩ := h
  unfold F.spec_l17Rd_pick
  have e1 : IntKind.i64.wrap (r.f1 + 1) = r.f1 + 1 := wrap_in (by omega) (by omega)
  have e2 : IntKind.i64.wrap (r.f1 + 1 - 1) = r.f1 := by rw [wrap_in (by omega) (by omega)]; omega
  have hr' : rok (K + 1) ⟨r.f0, r.f1 + 1⟩ := ⟨h1, h2, by show 0 ≤ r.f1 + 1; omega, by show r.f1 + 1 ≤ ((K + 1 : Nat) : Int); omega⟩
  rw [e1, e2]
  by_cases hn : n < 1
  · rw [if_pos hn]; exact ⟨0, _, rfl, hr', by omega, by omega, fun _ => rfl⟩
  rw [if_neg hn]
  by_cases hl : r.f0.length = 0
  · rw [if_pos hl]; exact ⟨0, _, rfl, hr', by omega, by omega, fun _ => rfl⟩
  rw [if_neg hl]
  have tm : ∀ x : Int, 0 ≤ x → 0 ≤ x.tmod n ∧ x.tmod n < n := fun x hx => ⟨Int.tmod_nonneg n hx, Int.tmod_lt_of_pos x (by omega)⟩
  have tl : ∀ x : Int, 0 ≤ x → 0 ≤ x.tmod (r.f0.length : Int) ∧ x.tmod (r.f0.length : Int) < r.f0.length := fun x hx => ⟨Int.tmod_nonneg _ hx, Int.tmod_lt_of_pos x (by omega)⟩
  by_cases hk : r.f1 < (r.f0.length : Int)
  · rw [if_pos hk]
    obtain ⟨x, hx, hm⟩ := at_mem h3 hk
    have hb := h2 x hm
    rw [hx]
    simp only [Option.bind_eq_bind, Option.bind_some]
    rw [if_pos (by omega), wrap_in (by omega) (by omega)]
    have := tm x hb.1
    exact ⟨_, _, rfl, hr', this.1, fun _ => this.2, fun h => by omega⟩
  · rw [if_neg hk, if_pos (by omega)]
    have e7 : IntKind.i64.wrap (r.f1 * 7) = r.f1 * 7 := wrap_in (by omega) (by omega)
    have e73 : IntKind.i64.wrap (r.f1 * 7 + 3) = r.f1 * 7 + 3 := wrap_in (by omega) (by omega)
    rw [e7, e73]
    have t1 := tl r.f1 h3
    have t2 := tl (r.f1 * 7 + 3) (by omega)
    obtain ⟨x, hx, hm⟩ := at_mem t1.1 t1.2
    obtain ⟨y, hy, hm'⟩ := at_mem t2.1 t2.2
    have hb := h2 x hm
    have hb' := h2 y hm'
    have hq0 : 0 ≤ r.f1.tdiv (r.f0.length : Int) := Int.tdiv_nonneg h3 (by omega)
    have hq1 : r.f1.tdiv (r.f0.length : Int) ≤ r.f1 := Int.tdiv_le_self _ h3
    rw [hx, hy]
    simp only [Option.bind_eq_bind, Option.bind_some]
    rw [if_pos (by omega)]
    generalize r.f1.tdiv (r.f0.length : Int) = q at hq0 hq1 ⊢
    rw [wrap_in (n := x) (by omega) (by omega), wrap_in (n := y) (by omega) (by omega), wrap_in (n := q) (by omega) (by omega), wrap_in (n := x * 131) (by omega) (by omega), wrap_in (n := y * 1117) (by omega) (by omega),
      wrap_in (n := r.f1 * 29) (by omega) (by omega), wrap_in (n := q * 53) (by omega) (by omega), wrap_in (n := x * 131 + y * 1117) (by omega) (by omega), wrap_in (n := x * 131 + y * 1117 + r.f1 * 29) (by omega) (by omega),
      wrap_in (n := x * 131 + y * 1117 + r.f1 * 29 + q * 53) (by omega) (by omega)]
    have hz0 : 0 ≤ x * 131 + y * 1117 + r.f1 * 29 + q * 53 := by omega
    have hz1 : x * 131 + y * 1117 + r.f1 * 29 + q * 53 < 4611686018427387904 := by omega
    generalize x * 131 + y * 1117 + r.f1 * 29 + q * 53 = z at hz0 hz1 ⊢
    have hd0 : 0 ≤ z.tdiv 64 := Int.tdiv_nonneg hz0 (by omega)
    have hd1 : z.tdiv 64 ≤ z := Int.tdiv_le_self _ hz0
    rw [wrap_in (n := z.tdiv 64) (by omega) (by omega)]
    have := tm _ (xor_pos hz0 hd0 hz1 (by omega))
    exact ⟨_, _, rfl, hr', this.1, fun _ => this.2, fun h => by omega⟩
theorem P.num {K : Nat} {r : T_spec_l17Rd} (h : rok K r) (hK : K ≤ 1099511627776) (l : List Int) (hl : l ≠ []) : ∃ v r', F.spec_l17Rd_num r l = some (v, r') ∧ rok (K + 1) r' ∧ v ∈ l := by
  unfold F.spec_l17Rd_num
  obtain ⟨v, r', e, h1, h2, h3, _⟩ := P.pick h hK (l.length : Int)
  have : 0 < l.length := List.length_pos_iff.2 hl
  obtain ⟨x, hx, hm⟩ := at_mem h2 (h3 (by omega))
  rw [e]
  simp only [Option.bind_eq_bind, Option.bind_some]
  rw [hx]
  exact ⟨x, r', rfl, h1, hm⟩
def W0 : List Data := [⟨⟨#[76]⟩, [⟨⟨#[78, 105, 108]⟩, [], 0⟩, ⟨⟨#[67, 111, 110, 115]⟩, [⟨-1, 0⟩, ⟨0, 0⟩], 0⟩]⟩]
theorem W0_parse : F.spec_ParseWorld ⟨#[76, 61, 78, 105, 108, 124, 67, 111, 110, 115, 40, 73, 44, 76, 41]⟩ = some (W0, true) := E.spec_ParseWorld_le 100 _ _ (by kernel_rfl)
def W1 : List Data := [⟨⟨#[66]⟩, [⟨⟨#[84, 114, 117]⟩, [], 0⟩, ⟨⟨#[70, 108, 115]⟩, [], 0⟩]⟩, ⟨⟨#[84]⟩, [⟨⟨#[76, 101, 97, 102]⟩, [], 0⟩, ⟨⟨#[78, 111, 100, 101]⟩, [⟨1, 0⟩, ⟨0, 0⟩, ⟨1, 0⟩], 0⟩]⟩]
theorem W1_parse : F.spec_ParseWorld ⟨#[66, 61, 84, 114, 117, 124, 70, 108, 115, 59, 84, 61, 76, 101, 97, 102, 124, 78, 111, 100, 101, 40, 84, 44, 66, 44, 84, 41]⟩ = some (W1, true) := E.spec_ParseWorld_le 100 _ _ (by kernel_rfl)
def W2 : List Data := [⟨⟨#[69]⟩, [⟨⟨#[78, 117, 109]⟩, [⟨-1, 0⟩], 1⟩, ⟨⟨#[66, 111, 108]⟩, [⟨1, 0⟩], 2⟩, ⟨⟨#[65, 100, 100]⟩, [⟨0, 1⟩, ⟨0, 1⟩], 1⟩, ⟨⟨#[73, 102]⟩, [⟨0, 2⟩, ⟨0, -1⟩, ⟨0, -1⟩], 0⟩]⟩, ⟨⟨#[66]⟩, [⟨⟨#[84, 114, 117]⟩, [], 0⟩, ⟨⟨#[70, 108, 115]⟩, [], 0⟩]⟩]
theorem W2_parse : F.spec_ParseWorld ⟨#[69, 61, 78, 117, 109, 40, 73, 41, 58, 49, 124, 66, 111, 108, 40, 66, 41, 58, 50, 124, 65, 100, 100, 40, 69, 49, 44, 69, 49, 41, 58, 49, 124, 73, 102, 40, 69, 50, 44, 69, 42, 44, 69, 42, 41, 59, 66, 61, 84, 114, 117, 124, 70, 108, 115]⟩ = some (W2, true) := E.spec_ParseWorld_le 100 _ _ (by kernel_rfl)
def W3 : List Data := [⟨⟨#[79]⟩, [⟨⟨#[78, 111, 110]⟩, [], 0⟩, ⟨⟨#[83, 111, 109]⟩, [⟨-1, 0⟩], 0⟩]⟩, ⟨⟨#[80]⟩, [⟨⟨#[80, 97, 105, 114]⟩, [⟨0, 0⟩, ⟨0, 0⟩], 0⟩]⟩]
theorem W3_parse : F.spec_ParseWorld ⟨#[79, 61, 78, 111, 110, 124, 83, 111, 109, 40, 73, 41, 59, 80, 61, 80, 97, 105, 114, 40, 79, 44, 79, 41]⟩ = some (W3, true) := E.spec_ParseWorld_le 100 _ _ (by kernel_rfl)
def W4 : List Data := [⟨⟨#[86]⟩, [⟨⟨#[69, 110, 100]⟩, [], 1⟩, ⟨⟨#[83, 111, 109, 101]⟩, [⟨-1, 0⟩, ⟨0, 1⟩], 2⟩, ⟨⟨#[84, 119, 111]⟩, [⟨0, -1⟩], 0⟩]⟩]
theorem W4_parse : F.spec_ParseWorld ⟨#[86, 61, 69, 110, 100, 58, 49, 124, 83, 111, 109, 101, 40, 73, 44, 86, 49, 41, 58, 50, 124, 84, 119, 111, 40, 86, 42, 41]⟩ = some (W4, true) := E.spec_ParseWorld_le 100 _ _ (by kernel_rfl)
def W5 : List Data := [⟨⟨#[78]⟩, [⟨⟨#[78, 101, 118, 101, 114]⟩, [⟨0, 0⟩], 0⟩]⟩, ⟨⟨#[66]⟩, [⟨⟨#[84, 114, 117]⟩, [], 0⟩, ⟨⟨#[70, 108, 115]⟩, [], 0⟩, ⟨⟨#[77, 97, 121]⟩, [⟨0, 0⟩], 0⟩]⟩]
theorem W5_parse : F.spec_ParseWorld ⟨#[78, 61, 78, 101, 118, 101, 114, 40, 78, 41, 59, 66, 61, 84, 114, 117, 124, 70, 108, 115, 124, 77, 97, 121, 40, 78, 41]⟩ = some (W5, true) := E.spec_ParseWorld_le 100 _ _ (by kernel_rfl)
def W6 : List Data := [⟨⟨#[83]⟩, [⟨⟨#[82, 101, 100]⟩, [], 0⟩, ⟨⟨#[71, 114, 101, 101, 110]⟩, [], 0⟩, ⟨⟨#[66, 108, 117, 101]⟩, [], 0⟩, ⟨⟨#[77, 105, 120]⟩, [⟨0, 0⟩, ⟨0, 0⟩], 0⟩]⟩]
theorem W6_parse : F.spec_ParseWorld ⟨#[83, 61, 82, 101, 100, 124, 71, 114, 101, 101, 110, 124, 66, 108, 117, 101, 124, 77, 105, 120, 40, 83, 44, 83, 41]⟩ = some (W6, true) := E.spec_ParseWorld_le 100 _ _ (by kernel_rfl)
def texts : List ByteArray := [⟨#[76, 61, 78, 105, 108, 124, 67, 111, 110, 115, 40, 73, 44, 76, 41]⟩, ⟨#[66, 61, 84, 114, 117, 124, 70, 108, 115, 59, 84, 61, 76, 101, 97, 102, 124, 78, 111, 100, 101, 40, 84, 44, 66, 44, 84, 41]⟩, ⟨#[69, 61, 78, 117, 109, 40, 73, 41, 58, 49, 124, 66, 111, 108, 40, 66, 41, 58, 50, 124, 65, 100, 100, 40, 69, 49, 44, 69, 49, 41, 58, 49, 124, 73, 102, 40, 69, 50, 44, 69, 42, 44, 69, 42, 41, 59, 66, 61, 84, 114, 117, 124, 70, 108, 115]⟩, ⟨#[79, 61, 78, 111, 110, 124, 83, 111, 109, 40, 73, 41, 59, 80, 61, 80, 97, 105, 114, 40, 79, 44, 79, 41]⟩, ⟨#[86, 61, 69, 110, 100, 58, 49, 124, 83, 111, 109, 101, 40, 73, 44, 86, 49, 41, 58, 50, 124, 84, 119, 111, 40, 86, 42, 41]⟩, ⟨#[78, 61, 78, 101, 118, 101, 114, 40, 78, 41, 59, 66, 61, 84, 114, 117, 124, 70, 108, 115, 124, 77, 97, 121, 40, 78, 41]⟩, ⟨#[83, 61, 82, 101, 100, 124, 71, 114, 101, 101, 110, 124, 66, 108, 117, 101, 124, 77, 105, 120, 40, 83, 44, 83, 41]⟩, ByteArray.empty]
theorem P.l1Texts : F.spec_l1Texts = some texts := rfl
def worlds : List (List Data) := [W0, W1, W2, W3, W4, W5, W6]
theorem P.l1World {K : Nat} {r : T_spec_l17Rd} (h : rok K r) (hK : K ≤ 1099511627776) : ∃ w r', F.spec_l1World r = some (w, r') ∧ rok (K + 1) r' ∧ w ∈ worlds := by
  unfold F.spec_l1World
  rw [P.l1Texts]
  simp only [Option.bind_eq_bind, Option.bind_some]
  obtain ⟨v, r', e, h1, h2, h3, _⟩ := P.pick h hK 7
  have e7 : IntKind.i64.wrap (((8 : Nat) : Int) - 1) = 7 := by rw [wrap_in (by omega) (by omega)]; rfl
  have e8 : texts.length = 8 := rfl
  rw [e8, e7, e]
  simp only [Option.bind_some]
  have h3 := h3 (by omega)
  have hv : v = 0 ∨ v = 1 ∨ v = 2 ∨ v = 3 ∨ v = 4 ∨ v = 5 ∨ v = 6 := by omega
  rcases hv with rfl | rfl | rfl | rfl | rfl | rfl | rfl
  · have : at? texts 0 = some (⟨#[76, 61, 78, 105, 108, 124, 67, 111, 110, 115, 40, 73, 44, 76, 41]⟩ : ByteArray) := rfl
    rw [this]; simp only [Option.bind_some]
    rw [W0_parse]
    exact ⟨W0, r', rfl, h1, by simp [worlds]⟩
  · have : at? texts 1 = some (⟨#[66, 61, 84, 114, 117, 124, 70, 108, 115, 59, 84, 61, 76, 101, 97, 102, 124, 78, 111, 100, 101, 40, 84, 44, 66, 44, 84, 41]⟩ : ByteArray) := rfl
    rw [this]; simp only [Option.bind_some]
    rw [W1_parse]
    exact ⟨W1, r', rfl, h1, by simp [worlds]⟩
  · have : at? texts 2 = some (⟨#[69, 61, 78, 117, 109, 40, 73, 41, 58, 49, 124, 66, 111, 108, 40, 66, 41, 58, 50, 124, 65, 100, 100, 40, 69, 49, 44, 69, 49, 41, 58, 49, 124, 73, 102, 40, 69, 50, 44, 69, 42, 44, 69, 42, 41, 59, 66, 61, 84, 114, 117, 124, 70, 108, 115]⟩ : ByteArray) := rfl
    rw [this]; simp only [Option.bind_some]
    rw [W2_parse]
    exact ⟨W2, r', rfl, h1, by simp [worlds]⟩
  · have : at? texts 3 = some (⟨#[79, 61, 78, 111, 110, 124, 83, 111, 109, 40, 73, 41, 59, 80, 61, 80, 97, 105, 114, 40, 79, 44, 79, 41]⟩ : ByteArray) := rfl
    rw [this]; simp only [Option.bind_some]
    rw [W3_parse]
    exact ⟨W3, r', rfl, h1, by simp [worlds]⟩
  · have : at? texts 4 = some (⟨#[86, 61, 69, 110, 100, 58, 49, 124, 83, 111, 109, 101, 40, 73, 44, 86, 49, 41, 58, 50, 124, 84, 119, 111, 40, 86, 42, 41]⟩ : ByteArray) := rfl
    rw [this]; simp only [Option.bind_some]
    rw [W4_parse]
    exact ⟨W4, r', rfl, h1, by simp [worlds]⟩
  · have : at? texts 5 = some (⟨#[78, 61, 78, 101, 118, 101, 114, 40, 78, 41, 59, 66, 61, 84, 114, 117, 124, 70, 108, 115, 124, 77, 97, 121, 40, 78, 41]⟩ : ByteArray) := rfl
    rw [this]; simp only [Option.bind_some]
    rw [W5_parse]
    exact ⟨W5, r', rfl, h1, by simp [worlds]⟩
  · have : at? texts 6 = some (⟨#[83, 61, 82, 101, 100, 124, 71, 114, 101, 101, 110, 124, 66, 108, 117, 101, 124, 77, 105, 120, 40, 83, 44, 83, 41]⟩ : ByteArray) := rfl
    rw [this]; simp only [Option.bind_some]
    rw [W6_parse]
    exact ⟨W6, r', rfl, h1, by simp [worlds]⟩
theorem P.l1Some {K : Nat} {r : T_spec_l17Rd} (h : rok K r) (hK : K + 4 ≤ 1099511627776) (w : List Data) : ∃ t r', F.spec_l1Some r w = some (t, r') ∧ rok (K + 4) r' := by
  unfold F.spec_l1Some
  obtain ⟨v1, r1, e1, h1, _⟩ := P.pick h (by omega) 16
  rw [e1]
  simp only [Option.bind_eq_bind, Option.bind_some]
  split
  · obtain ⟨v2, r2, e2, h2, _⟩ := P.num h1 (by omega) [-1, -2, 9, 0] (by simp)
    obtain ⟨v3, r3, e3, h3, _⟩ := P.num h2 (by omega) [0, 1, -1, 4] (by simp)
    rw [e2]; simp only [Option.bind_some]
    rw [e3]
    exact ⟨_, _, rfl, h3.mono (by omega)⟩
  · obtain ⟨v2, r2, e2, h2, _⟩ := P.pick h1 (by omega) 8
    rw [e2]; simp only [Option.bind_some]
    split
    · exact ⟨_, _, rfl, h2.mono (by omega)⟩
    · obtain ⟨v3, r3, e3, h3, _⟩ := P.pick h2 (by omega) (w.length : Int)
      obtain ⟨v4, r4, e4, h4, _⟩ := P.num h3 (by omega) [0, 0, 1, 2, 0, 3] (by simp)
      rw [e3]; simp only [Option.bind_some]
      rw [e4]
      exact ⟨_, _, rfl, h4.mono (by omega)⟩
/-- Bytes as they come from outside. -/
def bytesOk (code : List Int) : Prop := code.length ≤ maxLen ∧ ∀ x, x ∈ code → 0 ≤ x ∧ x ≤ 255
theorem rok_open {code : List Int} (h : bytesOk code) (hl : code.length ≤ 2000) : rok 0 ⟨code, 0⟩ := ⟨hl, h.2, Int.le_refl 0, Int.le_refl 0⟩
theorem rok_cut {code : List Int} (h : bytesOk code) : rok 0 ⟨(code.drop 0).take (2000 - 0), 0⟩ := ⟨by simp; omega, fun x hx => h.2 x (List.mem_of_mem_drop (List.mem_of_mem_take hx)), Int.le_refl 0, Int.le_refl 0⟩
theorem worlds_small {w : List Data} (h : w ∈ worlds) : smallW w := by
  simp only [worlds, List.mem_cons, List.not_mem_nil, or_false] at h
  rcases h with rfl | rfl | rfl | rfl | rfl | rfl | rfl <;> exact smallW_of (by decide)
def fitsP (a b : Ty) : Prop := a.data = b.data ∧ (b.index = 0 ∨ a.index = b.index)
theorem P.spec_fits (a b : Ty) : F.spec_l12Fits a b = some (dec (fitsP a b)) := by
  unfold F.spec_l12Fits
  by_cases h1 : a.data = b.data
  · rw [if_pos h1]
    by_cases h2 : b.index = 0
    · rw [if_pos h2, dec_of ⟨h1, .inl h2⟩]
    · rw [if_neg h2]; congr 1; rw [← dec_eq]; exact dec_congr ⟨fun h => ⟨h1, .inr h⟩, fun h => h.2.resolve_left h2⟩
  · rw [if_neg h1, dec_not fun h => h1 h.1]
theorem P.impl_fits (a b : Ty) : F.impl_fits a b = some (dec (fitsP a b)) := by
  unfold F.impl_fits
  by_cases h1 : a.data = b.data
  · rw [if_pos h1]
    by_cases h2 : b.index = 0
    · rw [if_pos h2, dec_of ⟨h1, .inl h2⟩]
    · rw [if_neg h2]; congr 1; rw [← dec_eq]; exact dec_congr ⟨fun h => ⟨h1, .inr h⟩, fun h => h.2.resolve_left h2⟩
  · rw [if_neg h1, dec_not fun h => h1 h.1]
theorem P.spec_TypeFits (w : List Data) (a b : Ty) (hw : smallW w) : F.spec_TypeFits w a b = some (dec (typeValid w a ∧ typeOk w b ∧ fitsP a b)) := by
  unfold F.spec_TypeFits
  rw [P.spec_TypeValid w a hw, P.spec_TypeValid w b hw, P.spec_fits]
  simp only [Option.bind_eq_bind, Option.bind_some]
  by_cases h : typeValid w a
  · rw [if_pos (dec_of h)]
    by_cases hb : typeOk w b
    · rw [if_pos (dec_of ⟨h.1, hb⟩)]; congr 1; exact dec_congr ⟨fun h' => ⟨h, hb, h'⟩, fun h' => h'.2.2⟩
    · rw [if_neg (by rw [dec_not fun hh => hb hh.2]; simp), dec_not fun hh => hb hh.2.1]
  · rw [if_neg (by rw [dec_not h]; simp), dec_not fun hh => h hh.1]
theorem P.impl_TypeFits (w : List Data) (a b : Ty) (hw : smallW w) : F.impl_TypeFits w a b = some (dec (typeValid w a ∧ typeOk w b ∧ fitsP a b)) := by
  unfold F.impl_TypeFits
  rw [P.impl_TypeValid w a hw, P.impl_typeOk w b hw.1, P.impl_fits]
  simp only [Option.bind_eq_bind, Option.bind_some]
  by_cases h : typeValid w a
  · rw [if_pos (dec_of h)]
    by_cases hb : typeOk w b
    · rw [if_pos (dec_of hb)]; congr 1; exact dec_congr ⟨fun h' => ⟨h, hb, h'⟩, fun h' => h'.2.2⟩
    · rw [if_neg (by rw [dec_not hb]; simp), dec_not fun hh => hb hh.2.1]
  · rw [if_neg (by rw [dec_not h]; simp), dec_not fun hh => h hh.1]
theorem P.DrawTypeFits (code : List Int) (hc : bytesOk code) : ∃ w a b, F.spec_DrawTypeFits code = some (w, a, b) ∧ w ∈ worlds := by
  have key : ∀ r, rok 0 r → ∃ w a b, ((F.spec_l1World r) >>= fun v =>
      (F.spec_l1Some v.2 v.1) >>= fun v6 =>
      (F.spec_l17Rd_pick v6.2 (2 : Int)) >>= fun v8 =>
      if v8.1 = 0 then
        (F.spec_l17Rd_num v8.2 [(0 : Int), (1 : Int), (2 : Int)]) >>= fun v12 =>
        some (v.1, v6.1, (⟨v6.1.data, v12.1⟩ : Vl.Ty))
      else
        (F.spec_l1Some v8.2 v.1) >>= fun v14 =>
        some (v.1, v6.1, v14.1)) = some (w, a, b) ∧ w ∈ worlds := by
    intro r hr
    obtain ⟨w, r1, e1, h1, hw⟩ := P.l1World hr (by omega)
    obtain ⟨a, r2, e2, h2⟩ := P.l1Some h1 (by omega) w
    obtain ⟨p, r3, e3, h3, _⟩ := P.pick h2 (by omega) 2
    obtain ⟨n, r4, e4, h4, _⟩ := P.num h3 (by omega) [0, 1, 2] (by simp)
    obtain ⟨b, r5, e5, h5⟩ := P.l1Some h3 (by omega) w
    simp only [Option.bind_eq_bind, e1, e2, e3, e4, e5, Option.bind_some]
    split
    · exact ⟨w, a, _, rfl, hw⟩
    · exact ⟨w, a, b, rfl, hw⟩
  unfold F.spec_DrawTypeFits
  split
  · rw [if_pos (by omega)]; exact key _ (rok_cut hc)
  · exact key _ (rok_open hc (by omega))
theorem P.laws_ptIn (l : List Int) (n : Int) : F.laws_ptIn l n = some (dec (n ∈ l)) := by
  unfold F.laws_ptIn
  have key : ∀ (m k : Nat), l.length - k = m → F.laws_ptIn_l1 l n k = some (if dec (n ∈ l.drop k) = true then .ret true else .go ()) := by
    intro m
    induction m with
    | zero =>
      intro k hm
      rw [F.laws_ptIn_l1, if_neg (by omega), List.drop_eq_nil_of_le (by omega), if_neg (by rw [dec_not (by simp)]; simp)]
    | succ m ih =>
      intro k hm
      have hk : k < l.length := by omega
      rw [F.laws_ptIn_l1, if_pos hk, List.getElem?_eq_getElem hk]
      simp only [Option.bind_eq_bind, Option.bind_some]
      rw [List.drop_eq_getElem_cons hk]
      by_cases h : l[k] = n
      · rw [if_pos h, if_pos (dec_of (by simp [h]))]
      · rw [if_neg h, ih (k + 1) (by omega)]
        have : (n ∈ l[k] :: l.drop (k + 1)) ↔ n ∈ l.drop (k + 1) := by rw [List.mem_cons]; exact ⟨fun h' => h'.resolve_left (Ne.symm h), .inr⟩
        rw [dec_congr this]
  rw [key _ 0 rfl, List.drop_zero]
  by_cases h : n ∈ l
  · rw [if_pos (dec_of h), dec_of h]; rfl
  · rw [if_neg (by rw [dec_not h]; simp), dec_not h]; rfl
end Go.Vl
