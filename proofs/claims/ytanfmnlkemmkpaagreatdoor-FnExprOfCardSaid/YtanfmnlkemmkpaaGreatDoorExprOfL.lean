/- The plain law of FnExprOf. -/
import Derived.Test.YtanfmnlkemmkpaaGreatDoorExprOfB
set_option linter.all false
set_option maxRecDepth 100000
namespace Go.Vl
open Go Go.RowKit
theorem P.FnExprOf (code:List Int)(hc:bytesOk code):F.f147 code=some true:=by
  unfold F.f147
  split
  · rfl
  obtain⟨w,t,v,e,hw,hv⟩:=P.DrawValueValid code hc
  unfold F.f67
  rw[e]
  simp only[Option.bind_eq_bind,Option.bind_some]
  obtain⟨h1,h2,h3⟩:=P.exprOf v (by omega)
  unfold F.f97 F.f110
  rw[P.impl_ValueValid w t v hw hv,P.spec_ValueValid w t v hw hv]
  simp only[Option.bind_eq_bind,Option.bind_some]
  by_cases hg:valueGood w t v
  · rw[if_pos (dec_of hg),if_pos (dec_of hg),h1,h2]
    simp only[Option.bind_some]
    rw[if_pos True.intro,P.exprSame_refl]
    simp only[Option.bind_some]
    rw[if_pos True.intro,if_pos True.intro,P.exprValid_of w hw t v hg]
    simp only[Option.bind_some]
    rw[if_pos True.intro,P.CallsOf_of v (by omega)]
    simp only[Option.bind_some]
    rw[if_pos List.length_nil]
    obtain⟨s,s1,s2,_⟩:=P.valueText w hg.1.1 hw 10 t v hg.1.2 hg.2.1 (by have:=hg.2.2;omega)
    unfold F.f143 F.f146
    rw[P.exprValid_of w hw t v hg,P.impl_ValueValid w t v hw hv,dec_of hg]
    simp only[Option.bind_eq_bind,Option.bind_some]
    rw[if_pos True.intro,if_pos True.intro,s1,s2]
    simp
  · rw[if_neg (by rw[dec_not hg];simp),if_neg (by rw[dec_not hg];simp)]
    simp only[Option.bind_some]
    rw[if_pos True.intro,P.exprSame_refl]
    simp only[Option.bind_some]
    rw[if_pos True.intro,if_neg (by simp)]
end Go.Vl
