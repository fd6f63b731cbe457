/- Part. -/
import Derived.Test.YtojdombnghnbmaaGreatExactRunStepsB
set_option linter.all false
set_option maxRecDepth 100000
namespace Go.Vl
open Go Go.RowKit
theorem P.FnExactRunSteps (w:List Data)(t:Ty)(l:List Clause)(v:Value)(how:okL Data.Ok w)(hot:t.Ok)(hol:okL Clause.Ok l)(hov:v.Ok):F.f249 w t l v=some true:=by
  unfold F.f249
  rw[P.YBW w how _ (by omega) (by omega),ZLF]
  refine ZQm (fun _=>rfl) fun h=> ?_
  have hw:=ZDX h
  have hr:=ZBl (l:=1048576) (wtL Data.wt w) (by omega)
  rw[P.YA9 l hol _ (by omega) (by omega),ZLF]
  refine ZQm (fun _=>rfl) fun h2=> ?_
  have hl:=ZDX h2
  have hr2:=ZBl (l:=rem 1048576 (wtL Data.wt w)) (wtL Clause.wt l) (by omega)
  rw[P.YA6 v hov _ (by omega) (by omega),ZLF]
  refine ZQm (fun _=>rfl) fun h3=> ?_
  have hv:=ZDX h3
  rw[P.YBT w (by omega),P.YBK t (by simp[Ty.wt]),P.YA8 l (by omega),P.YA5 v (by omega)]
  iterate 4 rw[ZLF]
  obtain⟨r,e1,e2,e3,e4⟩:=P.YAB w (ZJl (by omega)) t l v (fun c hc=>by have:=Za Clause.wt hc;have:Clause.wt c=c.pat.wt+c.guard.wt:=rfl;omega) (by omega)
  have b1:=Data.cntL_le w
  have b2:=Clause.cntL_le l
  have b3:=Value.cntL_le v.kids
  rw[←Value.wt_eq]at b3
  have b4:=Bind.cntL_le r.2.1
  have b5:wtL Bind.wt r.2.1<=r.2.1.length*(1+1048576):=ZFX e4
  have m1:=Data.mkL_snd mtF w 1 (by omega) (by omega)
  have m2:=Clause.mkL_snd l (Data.mkL mtF w 1).2 (by omega) (by omega)
  have m3:=Value.mkL_snd v.kids (Clause.mkL l (Data.mkL mtF w 1).2).2 (by omega) (by omega)
  have m4:=Bind.mkL_snd r.2.1 1 (by omega) (by omega)
  have n3:¬(Value.mkL v.kids (Clause.mkL l (Data.mkL mtF w 1).2).2).2<0:=by rw[m3];omega
  have n4:¬(Bind.mkL r.2.1 1).2<0:=by rw[m4];omega
  have m5:=P.YBI r.2.1 1 (by omega) (by omega)
  simp[e1,e2,P.YBf,P.YBd,P.YBJ,P.YAY,dec_of,F.f248,F.f245,F.f242,F.f243,m5,n3,n4]
end Go.Vl
