/- Part. -/
import Derived.Test.YtnockmfobogfpaaGreatExactTestedPathsB
set_option linter.all false
set_option maxRecDepth 100000
namespace Go.Vl
open Go Go.RowKit
theorem ZGc {k:Nat}:∀(r:List (List Int)),(∀p,p∈r->p.length<=k)->cntII r<=r.length*k
  | [],_=>by simp[cntII]
  |x::r,h=>by
    have h1:=ZGc r fun p hp=>h p (List.mem_cons_of_mem _ hp)
    have h2:=h x List.mem_cons_self
    simp only[cntII,cntI,List.length_cons,Nat.add_mul,Nat.one_mul]
    omega
theorem P.FnExactTestedPaths (w:List Data)(t:Ty)(l:List Clause)(v:Value)(how:okL Data.Ok w)(hot:t.Ok)(hol:okL Clause.Ok l)(hov:v.Ok):F.f262 w t l v=some true:=by
  unfold F.f262
  rw[P.YBZ w how _ (by omega) (by omega),ZLd]
  refine ZRA (fun _=>rfl) fun h=> ?_
  have hw:=ZDe h
  have hr:=ZBp (l:=1048576) (wtL Data.wt w) (by omega)
  rw[P.YBB l hol _ (by omega) (by omega),ZLd]
  refine ZRA (fun _=>rfl) fun h2=> ?_
  have hl:=ZDe h2
  have hr2:=ZBp (l:=rem 1048576 (wtL Data.wt w)) (wtL Clause.wt l) (by omega)
  rw[P.YA5 v hov _ (by omega) (by omega),ZLd]
  refine ZRA (fun _=>rfl) fun h3=> ?_
  have hv:=ZDe h3
  rw[P.YBW w (by omega),P.YBM t (by simp[Ty.wt]),P.YA8 l (by omega),P.YA4 v (by omega)]
  iterate 4 rw[ZLd]
  obtain⟨r,e1,e2,e3⟩:=P.Yb w (ZJ7 (by omega)) t l v (fun c hc=>by have:=Zb Clause.wt hc;have:Clause.wt c=c.pat.wt+c.guard.wt:=rfl;omega) (by omega)
  have b1:=Data.cntL_le w
  have b2:=Clause.cntL_le l
  have b3:=Value.cntL_le v.kids
  rw[←Value.wt_eq]at b3
  have b4:cntII r<=62914560000000:=by
    rcases e3 with rfl|⟨ps,rfl,q1,q2,_⟩
    · simp[cntII]
    · have h4:=ZGP ps []
      have h5:=ZGc (k:=1048576) (ps.foldl ZEF []) fun p hp=>by
        rcases(ZGO _ _).1 hp with h|h
        · cases h
        · exact q2 p h
      simp only[List.length_nil,Nat.zero_add]at h4
      have h6:(ps.foldl ZEF []).length<=60000000:=Nat.le_trans h4 q1
      have h7:(ps.foldl ZEF []).length*1048576<=62914560000000:=by omega
      exact Nat.le_trans h5 h7
  have m1:=Data.mkL_snd mtF w 1 (by omega) (by omega)
  have m2:=Clause.mkL_snd l (Data.mkL mtF w 1).2 (by omega) (by omega)
  have m3:=Value.mkL_snd v.kids (Clause.mkL l (Data.mkL mtF w 1).2).2 (by omega) (by omega)
  have m4:=ZIS r 1 (by omega) (by omega)
  have n3:¬(Value.mkL v.kids (Clause.mkL l (Data.mkL mtF w 1).2).2).2<0:=by rw[m3];omega
  have n4:¬(ZDD r 1).2<0:=by rw[m4];omega
  have m5:=P.YBK r 1 (by omega) (by omega)
  simp[e1,e2,P.YBf,P.YBh,P.YBL,P.YA7,dec_of,F.f261,F.f256,F.f254,F.f258,m5,n3,n4]
end Go.Vl
