/- A part of the proof. -/
import Derived.Test.YtkgcopogpmckdaaGreatSharedTestsB
set_option linter.all false
namespace Go.Vl
open Go Go.RowKit
theorem P.FnSharedTests (code:List Int)(hc:ZAr code):F.f227 code=some true:=by
  unfold F.f227
  split
  · rfl
  obtain⟨x,e,hw⟩:=P.YAE code hc
  rw[e]
  simp only[oE,oS]
  rcases P.YAh x hw with⟨e1,e2⟩|⟨h1,h2,l,k,e1,e2,h3,hl,hb,hp⟩
  · rw[e1,e2]
    simp only[oS]
    rw[P.Ye [] [] (by simp) (by simp),ZI rfl]
    rfl
  · have hv:=h3.valid h2 h1
    have hlen:=h3.len
    rw[e1,e2]
    simp only[oS]
    rw[hp]
    simp only[oS]
    rw[if_pos True.intro,if_pos True.intro,if_pos True.intro,P.Yg h3 h2 h1 (by omega)]
    simp only[oS]
    rw[if_pos True.intro,P.Yy x (by omega)]
    simp only[oS]
    rw[if_pos True.intro,P.YW x (by omega)]
    simp only[oS]
    obtain⟨t,e3⟩:=P.YZ x (by omega)
    rw[if_pos True.intro,e3]
    simp only[oS]
    rw[P.YD,ZI rfl]
    rfl
end Go.Vl
