/- The value-level layer: a value that owns all it holds is taken as an own slice, its cells' slices in a pack. -/
import Derived.Test.YtbibfeagkocjlaaVlDeep
set_option linter.all false
namespace Go.Vl
open Go Go.RowKit
section
variable {P : Program} {B nb N : Nat}
theorem ACall.after {f : FuncId} {args : List AV} {σ : ZA} {K0 K : AV → ZA → Prop} {b : Box K} (h : ACall P B f args σ (hold K0 .mk))
    (hh:∀r σ',K0 r σ'→∀(m:Map) (w:World) (u:Value),Sim B m σ' w→Conc B (Av m) w m r u→∃r2 σ2 m2,K r2 σ2∧Sim B m2 σ2 w∧Conc B (Av m2) w m2 r2 u∧Fr m w m2 w):ACall P B f args σ (hold K b):=by
  refine⟨h.1,fun m w vs hs hv=>(h.2 m w vs hs hv).mono ?_⟩
  rintro e w' ⟨u,r,σ',m',he,hK,h1,h2,h3⟩
  obtain⟨r2,σ2,m2,g1,g2,g3,g4⟩:=hh r σ' hK m' w' u h1 h2
  exact⟨u,r2,σ2,m2,he,g1,g2,g3,h3.trans g4 hs.mapOk⟩
end
end Go.Vl
