/- A part of the proof. -/
import Derived.Test.YtkgcopogpmckdaaGreatShareTwiceB
set_option linter.all false
namespace Go.Vl
open Go Go.RowKit
theorem P.FnShareTwice (code:List Int)(hc:ZAq code):F.f219 code=some true:=by
  unfold F.f219
  split
  · rfl
  obtain⟨x,e,hw⟩:=P.YAA code hc
  rw[e]
  simp only[oE,oS]
  rcases P.YAd x hw with⟨e1,e2⟩|⟨h1,h2,l,k,e1,e2,h3,hl,hb,hp⟩
  · rw[e1,e2]
    simp only[oS]
    rw[P.Yb [] [] (by simp) (by simp),ZI rfl]
    rfl
  · have hv:=h3.valid h2 h1
    have hlen:=h3.len
    rw[e1,e2]
    simp only[oS]
    rw[hp]
    simp only[oS]
    rw[if_pos True.intro,if_pos True.intro,if_pos True.intro,P.Yd h3 h2 h1 (by omega)]
    simp only[oS]
    rw[e2]
    simp only[oS]
    rw[if_pos True.intro,if_pos True.intro,hp]
    rfl
end Go.Vl
