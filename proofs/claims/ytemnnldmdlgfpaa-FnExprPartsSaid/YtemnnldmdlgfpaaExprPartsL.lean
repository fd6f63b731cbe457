/- The plain law of FnExprParts. -/
import Derived.Test.YtemnnldmdlgfpaaExprPartsB
set_option linter.unusedSimpArgs false
set_option linter.unusedVariables false
namespace Go.Vl
open Go Go.RowKit
theorem P.FnExprParts (code:List Int)(hc:bytesOk code):F.f126 code=some true:=by
  unfold F.f126
  split
  · rfl
  obtain⟨w,fs,vs,t,e,h,hw,hf,hv,he⟩:=P.DrawExprValid code hc
  have hs:=worlds_small hw
  rw[h]
  simp only[Option.bind_eq_bind,Option.bind_some]
  rw[P.spec_ExprValid w fs vs t e hs (by omega),P.impl_ExprValid w fs vs t e hs (by omega)]
  simp only[Option.bind_some,if_true,decide_true]
  split
  · next ht=>
    obtain⟨h1,h2⟩:t.data= -1∧t.index=0:=dec_iff.1 ht
    obtain rfl:t=⟨-1,0⟩:=by cases t;simp only at h1 h2;rw[h1,h2]
    rw[P.impl_ExprValid w fs vs _ _ hs (by simp[Expr.wt];omega)]
    simp only[Option.bind_some]
    split
    · next hx=>rw[dec_of (exprOk_part (dec_iff.1 hx))]
    · rfl
  · rfl
end Go.Vl
