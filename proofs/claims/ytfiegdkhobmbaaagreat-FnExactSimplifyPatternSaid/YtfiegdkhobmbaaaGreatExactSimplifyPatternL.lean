/- The plain law of SimplifyPattern. -/
import Derived.Test.YtfiegdkhobmbaaaGreatExactSimplifyPatternB
set_option linter.unusedSimpArgs false
set_option linter.unusedVariables false
set_option maxRecDepth 100000
namespace Go.Vl
open Go Go.RowKit
theorem P.FnExactSimplifyPattern (w:List Data)(t:Ty)(p:Pattern)(how:okL Data.Ok w)(hot:t.Ok)(hop:p.Ok):F.f165 w t p=some true:=by
  unfold F.f165
  rw[P.szDataS w how _ (by omega) (by omega),sbind]
  refine iteG (fun _=>rfl) fun h=> ?_
  have hw:=rem_small h
  have hr:=rem_le (l:=1048576) (wtL Data.wt w) (by omega)
  rw[P.szPattern p hop _ (by omega) (by omega),sbind]
  refine iteG (fun _=>rfl) fun h2=> ?_
  have hv:=rem_small h2
  rw[P.toDataS w (by omega),P.toType t (by simp[Ty.wt]),P.toPattern p (by omega)]
  iterate 3 rw[sbind]
  obtain⟨out,e1,e2,e3⟩:=P.SimplifyPattern_same w (smallW_of (by omega)) t p (by omega)
  have b1:=Data.cntL_le w
  have b2:=Pattern.cntL_le p.kids
  rw[←Pattern.wt_eq]at b2
  have b4:=Pattern.cntL_le out.1.kids
  rw[←Pattern.wt_eq]at b4
  have m1:=Data.mkL_snd mtF w 1 (by omega) (by omega)
  have m2:=Pattern.mkL_snd p.kids (Data.mkL mtF w 1).2 (by omega) (by omega)
  have m4:=Pattern.mkL_snd out.1.kids 1 (by omega) (by omega)
  have n3:¬(Pattern.mkL p.kids (Data.mkL mtF w 1).2).2<0:=by rw[m2];omega
  have n4:¬(Pattern.mkL out.1.kids 1).2<0:=by rw[m4];omega
  have m5:=P.heldPatternS out.1.kids 1 (by omega) (by omega)
  simp[e1,e2,P.eqPattern,P.eqDataS,dec_of,F.f164,F.f161,F.f160,m5,n3,n4]
end Go.Vl
