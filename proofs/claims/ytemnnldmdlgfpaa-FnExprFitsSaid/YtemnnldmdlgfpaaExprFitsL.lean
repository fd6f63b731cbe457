/- The plain law of FnExprFits. -/
import Derived.Test.YtemnnldmdlgfpaaExprFitsB
set_option linter.unusedSimpArgs false
set_option linter.unusedVariables false
namespace Go.Vl
open Go Go.RowKit
theorem P.FnExprFits (code:List Int)(hc:bytesOk code):F.f127 code=some true:=by
  unfold F.f127
  split
  · rfl
  obtain⟨w,fs,vs,t,e,h,hw,hf,hv,he⟩:=P.DrawExprValid code hc
  have hs:=worlds_small hw
  rw[h]
  simp only[Option.bind_eq_bind,Option.bind_some]
  rw[P.spec_ExprValid w fs vs t e hs (by omega),P.impl_ExprValid w fs vs t e hs (by omega),P.impl_ExprValid w fs vs ⟨t.data,0⟩ e hs (by omega),P.impl_TypeFits w t ⟨t.data,0⟩ hs]
  simp only[Option.bind_some,if_true,decide_true]
  split
  · next hx=>
    split
    · rfl
    · next ho=>
      obtain⟨q1,q2,q3,q4⟩:=exprOk_wide ho (dec_iff.1 hx)
      rw[if_pos (dec_of ⟨q2,q3,q4⟩),dec_of q1]
  · rfl
end Go.Vl
