/- Part. -/
import Derived.Test.YtmjpphcloedceaaExactEmptyPatternB
set_option linter.all false
set_option maxRecDepth 100000
namespace Go.Vl
open Go Go.RowKit
theorem P.FnExactEmptyPattern (w:List Data)(t:Ty)(p:Pattern)(how:okL Data.Ok w)(hot:t.Ok)(hop:p.Ok):F.f146 w t p=some true:=by
  unfold F.f146
  rw[P.YAi w how _ (by omega) (by omega),ZKm]
  refine ZO9 (fun _=>rfl) fun h=> ?_
  have hw:=ZEM h
  have hr:=ZCh (l:=1048576) (wtL Data.wt w) (by omega)
  rw[P.Yv p hop _ (by omega) (by omega),ZKm]
  refine ZO9 (fun _=>rfl) fun h2=> ?_
  have hl:=ZEM h2
  rw[P.YAf w (by omega),P.YAZ t (by simp[Ty.wt]),P.Yu p (by omega)]
  iterate 3 rw[ZKm]
  obtain⟨b,e1,e2⟩:=P.YU w (ZH0 (by omega)) t p (by omega)
  simp[e1,e2,P.YAm,P.Yw,dec_of]
end Go.Vl
