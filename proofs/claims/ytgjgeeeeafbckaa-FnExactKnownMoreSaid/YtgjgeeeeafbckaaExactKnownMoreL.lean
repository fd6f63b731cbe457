/- The plain law of KnownMore. -/
import Derived.Test.YtgjgeeeeafbckaaExactKnownMorePP
set_option linter.unusedSimpArgs false
set_option linter.unusedVariables false
namespace Go.Vl
open Go Go.RowKit

theorem P.more_same (w : List Data) : ∀ (d : Nat) (t : Ty) (a b : Value), pv w true d t a → pv w true d t b → ∃ r, F.spec_l10More a b = some r ∧ F.impl_more a b = some r
  | 0, t, a, b, ha, hb => ha.elim
  | d + 1, t, a, b, ha, hb => by
    rw [F.spec_l10More, F.impl_more]
    by_cases h0 : b.ctor = -2
    · rw [if_pos h0, if_pos h0]; exact ⟨_, rfl, rfl⟩
    by_cases h1 : a.ctor = b.ctor
    · by_cases h2 : a.n = b.n
      · rw [if_neg h0, if_pos h1, if_pos h2, if_neg h0, if_pos h1, if_pos h2]
        have hbn : ¬ (true = true ∧ b.ctor = -2) := fun h => h0 h.2
        have ha2 := ha.resolve_left fun h => h0 (by rw [← h1]; exact h.2.1)
        have hb2 := hb.resolve_left fun h => h0 h.2.1
        have hlen : a.kids.length = b.kids.length := by
          rcases ha2.2 with q | q
          · rcases hb2.2 with p | p
            · rw [q.2.2.2.2, p.2.2.2.2]
            · exact absurd q.1 p.1
          · rcases hb2.2 with p | p
            · exact absurd p.1 q.1
            · rw [q.2.2.2.1, p.2.2.2.1, h1]
        have kids : ∀ i (hi : i < a.kids.length) (hi' : i < b.kids.length), ∃ t', pv w true d t' a.kids[i] ∧ pv w true d t' b.kids[i] := by
          intro i hi hi'
          rcases ha2.2 with q | q
          · have := q.2.2.2.2; omega
          · rcases hb2.2 with p | p
            · exact absurd p.1 q.1
            · have hk : i < (argList w t a.ctor).length := by rw [← q.2.2.2.1]; exact hi
              have hk' : i < (argList w t b.ctor).length := by rw [← h1]; exact hk
              refine ⟨(argList w t a.ctor)[i], q.2.2.2.2 i (by omega) hk hk hi, ?_⟩
              have := p.2.2.2.2 i (by omega) hk' hk' hi'
              simpa only [h1] using this
        rw [if_pos hlen]
        have key : ∀ (m i : Nat), b.kids.length - i = m → ∃ o, F.spec_l10More_l1 a b i = some o ∧ F.impl_more_l1 a b i = some o := by
          intro m
          induction m with
          | zero =>
            intro i hm
            rw [F.spec_l10More_l1, F.impl_more_l1, if_neg (by omega), if_neg (by omega)]
            exact ⟨_, rfl, rfl⟩
          | succ m ih =>
            intro i hm
            have hi' : i < b.kids.length := by omega
            have hi : i < a.kids.length := by omega
            rw [F.spec_l10More_l1, F.impl_more_l1, if_pos hi', if_pos hi', List.getElem?_eq_getElem hi, List.getElem?_eq_getElem hi']
            simp only [Option.bind_eq_bind, Option.bind_some]
            obtain ⟨t', q1, q2⟩ := kids i hi hi'
            obtain ⟨r, r1, r2⟩ := P.more_same w d t' _ _ q1 q2
            rw [r1, r2]
            simp only [Option.bind_some]
            cases r with
            | true => rw [if_pos rfl, if_pos rfl]; exact ih (i + 1) (by omega)
            | false => rw [if_neg (by simp), if_neg (by simp)]; exact ⟨_, rfl, rfl⟩
        obtain ⟨o, o1, o2⟩ := key _ 0 rfl
        rw [o1, o2]
        simp only [Option.bind_eq_bind, Option.bind_some]
        cases o with
        | ret r => exact ⟨_, rfl, rfl⟩
        | go _ => exact ⟨_, rfl, rfl⟩
      · rw [if_neg h0, if_pos h1, if_neg h2, if_neg h0, if_pos h1, if_neg h2]; exact ⟨_, rfl, rfl⟩
    · rw [if_neg h0, if_neg h1, if_neg h0, if_neg h1]; exact ⟨_, rfl, rfl⟩

theorem P.KnownMore_same (w : List Data) (t : Ty) (a b : Value) (hw : smallW w) (ha : a.wt ≤ 1048576) (hb : b.wt ≤ 1048576) : ∃ r, F.spec_KnownMore w t a b = some r ∧ F.impl_KnownMore w t a b = some r := by
  unfold F.spec_KnownMore F.impl_KnownMore
  rw [P.spec_PartialValid w t a hw ha, P.spec_PartialValid w t b hw hb, P.impl_PartialValid w t a hw ha, P.impl_PartialValid w t b hw hb]
  simp only [Option.bind_eq_bind, Option.bind_some]
  by_cases h1 : partialOk w t a
  · rw [if_pos (dec_of h1), if_pos (dec_of h1)]
    by_cases h2 : partialOk w t b
    · rw [if_pos (dec_of h2), if_pos (dec_of h2)]
      obtain ⟨r, r1, r2⟩ := P.more_same w 10 t a b h1.2.1 h2.2.1
      rw [r1, r2]
      exact ⟨_, rfl, rfl⟩
    · rw [if_neg (by rw [dec_not h2]; simp), if_neg (by rw [dec_not h2]; simp)]; exact ⟨_, rfl, rfl⟩
  · rw [if_neg (by rw [dec_not h1]; simp), if_neg (by rw [dec_not h1]; simp)]; exact ⟨_, rfl, rfl⟩

theorem P.FnExactKnownMore (w : List Data) (t : Ty) (a b : Value) (ho : okL Data.Ok w) (_ : t.Ok) (ha : a.Ok) (hb : b.Ok) : F.laws_FnExactKnownMore w t a b = some true := by
  unfold F.laws_FnExactKnownMore
  rw [P.szDataS w ho _ (by omega) (by omega)]
  simp only [Option.bind_eq_bind, Option.bind_some]
  split
  · rfl
  · next h =>
    have hw := rem_small h
    have hr := rem_le (l := 1048576) (wtL Data.wt w) (by omega)
    rw [P.szValue a ha _ (by omega) (by omega)]
    simp only [Option.bind_some]
    split
    · rfl
    · next h2 =>
      have hv2 := rem_small h2
      have hr2 := rem_le (l := rem 1048576 (wtL Data.wt w)) a.wt (by omega)
      rw [P.szValue b hb _ (by omega) (by omega)]
      simp only [Option.bind_some]
      split
      · rfl
      · next h3 =>
        have hv3 := rem_small h3
        rw [P.toDataS w (by omega), P.toType t (by simp [Ty.wt]), P.toValue a (by omega), P.toValue b (by omega)]
        simp only [Option.bind_some]
        obtain ⟨r, r1, r2⟩ := P.KnownMore_same w t a b (smallW_of (by omega)) (by omega) (by omega)
        rw [r1, r2]
        simp [P.eqDataS, P.eqValue, dec_of]
end Go.Vl
