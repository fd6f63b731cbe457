/- Part. -/
import Derived.Test.YtmjpphcloedceaaGreatExactSamplePatternB
set_option linter.all false
set_option maxRecDepth 100000
namespace Go.Vl
open Go Go.RowKit
theorem P.FnExactSamplePattern (w:List Data)(t:Ty)(p:Pattern)(how:okL Data.Ok w)(hot:t.Ok)(hop:p.Ok):F.f183 w t p=some true:=by
  unfold F.f183
  rw[P.YAy w how _ (by omega) (by omega),ZLi]
  refine ZPw (fun _=>rfl) fun h=> ?_
  have hw:=ZFC h
  have hr:=ZDM (l:=1048576) (wtL Data.wt w) (by omega)
  rw[P.YAB p hop _ (by omega) (by omega),ZLi]
  refine ZPw (fun _=>rfl) fun h2=> ?_
  have hv:=ZFC h2
  rw[P.YAv w (by omega),P.YAn t (by simp[Ty.wt]),P.YAA p (by omega)]
  iterate 3 rw[ZLi]
  obtain⟨out,e1,e2,e3⟩:=P.YY w (ZIo (by omega)) t p (by omega)
  have b1:=Data.cntL_le w
  have b2:=Pattern.cntL_le p.kids
  rw[←Pattern.wt_eq]at b2
  have b4:=Value.cntL_le out.1.kids
  rw[←Value.wt_eq]at b4
  have m1:=Data.mkL_snd mtF w 1 (by omega) (by omega)
  have m2:=Pattern.mkL_snd p.kids (Data.mkL mtF w 1).2 (by omega) (by omega)
  have m4:=Value.mkL_snd out.1.kids 1 (by omega) (by omega)
  have n3:¬(Pattern.mkL p.kids (Data.mkL mtF w 1).2).2<0:=by rw[m2];omega
  have n4:¬(Value.mkL out.1.kids 1).2<0:=by rw[m4];omega
  have m5:=P.YAV out.1.kids 1 (by omega) (by omega)
  simp[e1,e2,P.YAc,P.YAC,P.YA1,dec_of,F.f182,F.f178,F.f179,F.f177,m5,n3,n4]
end Go.Vl
