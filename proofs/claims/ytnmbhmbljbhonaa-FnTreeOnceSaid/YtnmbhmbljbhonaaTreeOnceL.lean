/- The plain law of FnTreeOnce. -/
import Derived.Test.YtnmbhmbljbhonaaTreeOnceB
set_option linter.all false
namespace Go.Vl
open Go Go.RowKit
theorem P.FnTreeOnce (code:List Int)(hc:ZBP code):F.f168 code=some true:=by
  unfold F.f168
  split
  · rfl
  obtain⟨x,e,hx,ho,_⟩:=P.YAp code hc
  unfold F.f151
  rw[e]
  simp only[Option.bind_eq_bind,Option.bind_some]
  rw[P.Yi x (by omega),P.Yg x (by omega)]
  simp only[Option.bind_some]
  rw[if_pos True.intro,P.Yu x ho [] (by simp;omega) (by simp)]
  rfl
end Go.Vl
