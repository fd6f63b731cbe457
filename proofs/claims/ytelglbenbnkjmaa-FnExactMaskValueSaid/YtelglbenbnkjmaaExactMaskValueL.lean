/- The plain law of MaskValue. -/
import Derived.Test.YtelglbenbnkjmaaExactMaskValueB
set_option linter.unusedSimpArgs false
set_option linter.unusedVariables false
namespace Go.Vl
open Go Go.RowKit

theorem P.FnExactMaskValue (w : List Data) (t : Ty) (v : Value) (paths : List (List Int)) (how : okL Data.Ok w) (hot : t.Ok) (hov : v.Ok) (hop : okL (okL inR) paths) : F.laws_FnExactMaskValue w t v paths = some true := by
  unfold F.laws_FnExactMaskValue
  rw [P.szDataS w how _ (by omega) (by omega)]
  rw [sbind]
  refine iteG (fun _ => rfl) fun h => ?_
  ·
    have hw := rem_small h
    have hr := rem_le (l := 1048576) (wtL Data.wt w) (by omega)
    rw [P.szValue v hov _ (by omega) (by omega)]
    rw [sbind]
    refine iteG (fun _ => rfl) fun h2 => ?_
    ·
      have hv := rem_small h2
      have hr2 := rem_le (l := rem 1048576 (wtL Data.wt w)) v.wt (by omega)
      rw [P.szIntSS paths hop _ (by omega) (by omega)]
      rw [sbind]
      refine iteG (fun _ => rfl) fun h3 => ?_
      ·
        have hp := rem_small h3
        rw [P.toDataS w (by omega), P.toType t (by simp [Ty.wt]), P.toValue v (by omega), P.toIntSS paths (by omega)]
        iterate 4 rw [sbind]
        have hsm : smallW w := smallW_of (by omega)
        obtain ⟨out, e1, e2, e3⟩ : ∃ out : Value × Bool, F.spec_MaskValue w t v paths = some out ∧ F.impl_MaskValue w t v paths = some out ∧ out.1.wt ≤ 1048576 := by
          refine ⟨_, P.spec_MaskValue w t v paths hsm (by omega), P.impl_MaskValue w t v paths hsm (by omega), ?_⟩
          split
          · have := mask_wt paths 10 [] v; show (maskG paths 10 [] v).wt ≤ _; omega
          · show Value.wt ⟨0, 0, []⟩ ≤ _; rw [Value.wt_eq]; simp
        have b1 := Data.cntL_le w
        have b2 := Value.cntL_le v.kids
        rw [← Value.wt_eq] at b2
        have b3 := cntII_le paths
        have b4 := Value.cntL_le out.1.kids
        rw [← Value.wt_eq] at b4
        have m1 := Data.mkL_snd mtF w 1 (by omega) (by omega)
        have m2 := Value.mkL_snd v.kids (Data.mkL mtF w 1).2 (by omega) (by omega)
        have m3 := mkII_snd paths (Value.mkL v.kids (Data.mkL mtF w 1).2).2 (by omega) (by omega)
        have m4 := Value.mkL_snd out.1.kids 1 (by omega) (by omega)
        have n3 : ¬ (mkII paths (Value.mkL v.kids (Data.mkL mtF w 1).2).2).2 < 0 := by rw [m3]; omega
        have n4 : ¬ (Value.mkL out.1.kids 1).2 < 0 := by rw [m4]; omega
        have m5 := P.heldValueS out.1.kids 1 (by omega) (by omega)
        simp [e1, e2, P.eqValue, P.eqDataS, P.eqIntSS, dec_of, F.laws_markDataS, F.laws_markValueS, F.laws_markIntSS, F.laws_heldValue, m5, n3, n4]
end Go.Vl
