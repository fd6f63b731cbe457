/- The plain law of FnPartialValid. -/
import Derived.Test.YtanfmnlkemmkpaaPartialValidB
set_option linter.unusedSimpArgs false
set_option linter.unusedVariables false
set_option maxRecDepth 100000
namespace Go.Vl
open Go Go.RowKit
theorem P.FnPartialValid (code:List Int)(hc:bytesOk code):F.f111 code=some true:=by
  unfold F.f111
  split
  · rfl
  obtain⟨w,t,v,e,hw,hv⟩:=P.DrawPartialValid code hc
  rw[e]
  simp only[Option.bind_eq_bind,Option.bind_some]
  rw[P.impl_PartialValid w t v hw hv,P.spec_PartialValid w t v hw hv]
  simp only[Option.bind_some]
  rw[if_pos True.intro,P.impl_ValueValid w t v hw hv]
  by_cases hp:partialOk w t v
  · obtain⟨e1,e2⟩:=P.ptHole 10 t v hp.2.1
    rw[if_pos (dec_of hp),e1]
    simp only[Option.bind_some]
    by_cases hh:holeN 10 v
    · rw[dec_of hh,dec_not fun q=>e2.1 q.2.1 hh];rfl
    · rw[dec_not hh,dec_of ⟨hp.1,e2.2 hh,hp.2.2⟩];rfl
  · rw[if_neg (by rw[dec_not hp];simp)]
    simp only[Option.bind_some]
    rw[if_pos True.intro,dec_not fun q=>hp ⟨q.1,pv_true q.2.1,q.2.2⟩]
    rfl
end Go.Vl
