/- A part of the proof. -/
import Derived.Test.YtkgcopogpmckdaaGreatSimplifySizeB
set_option linter.all false
set_option maxRecDepth 100000
namespace Go.Vl
open Go Go.RowKit
theorem P.FnSimplifySize (code:List Int)(hc:ZFE code):F.f184 code=some true:=by
  unfold F.f184
  split
  · rfl
  obtain⟨w,t,p,e,hw,hp⟩:=P.YV code hc
  obtain⟨q,b,e1,e2,hb⟩:=P.YT w hw t p hp
  rw[e]
  simp only[oE,oS]
  rw[e1,e2]
  simp only[oS]
  rw[if_pos True.intro,P.Yh]
  simp only[oS]
  rw[if_pos True.intro]
  by_cases h:b=true
  · obtain⟨h1,h2,h3,h4⟩:=hb h
    obtain⟨l,s1,s2⟩:=P.Ye w hw t p h1 h2
    obtain⟨l',s3,s4⟩:=P.Ye w hw t q h1 h3
    rw[if_pos h,s1,s3]
    simp only[oS]
    by_cases ha:p.alts<=400
    · have hb:=s2 ha
      have hd:=s4 (by omega)
      rw[if_pos (decide_eq_true ha),if_pos (decide_eq_true (by omega)),decide_eq_true (by omega)]
    · rw[if_neg (by rw[decide_eq_false ha];decide)]
  · rw[if_neg h]
end Go.Vl
