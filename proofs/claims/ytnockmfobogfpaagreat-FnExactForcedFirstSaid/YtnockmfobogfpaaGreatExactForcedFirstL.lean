/- Part. -/
import Derived.Test.YtnockmfobogfpaaGreatExactForcedFirstB
set_option linter.all false
set_option maxRecDepth 100000
namespace Go.Vl
open Go Go.RowKit
theorem ZGl {k:Nat}:∀(r:List (List Int)),(∀p,p∈r->p.length<=k)->cntII r<=r.length*k
  | [],_=>by simp[cntII]
  |x::r,h=>by
    have h1:=ZGl r fun p hp=>h p (List.mem_cons_of_mem _ hp)
    have h2:=h x List.mem_cons_self
    simp only[cntII,cntI,List.length_cons,Nat.add_mul,Nat.one_mul]
    omega
theorem P.FnExactForcedFirst (w:List Data)(t:Ty)(l:List Clause)(v:Value)(how:okL Data.Ok w)(hot:t.Ok)(hol:okL Clause.Ok l)(hov:v.Ok):F.f264 w t l v=some true:=by
  unfold F.f264
  rw[P.YBW w how _ (by omega) (by omega),ZLj]
  refine ZRL (fun _=>rfl) fun h=> ?_
  have hw:=ZDg h
  have hr:=ZBs (l:=1048576) (wtL Data.wt w) (by omega)
  rw[P.YA9 l hol _ (by omega) (by omega),ZLj]
  refine ZRL (fun _=>rfl) fun h2=> ?_
  have hl:=ZDg h2
  have hr2:=ZBs (l:=rem 1048576 (wtL Data.wt w)) (wtL Clause.wt l) (by omega)
  rw[P.YA5 v hov _ (by omega) (by omega),ZLj]
  refine ZRL (fun _=>rfl) fun h3=> ?_
  have hv:=ZDg h3
  rw[P.YBT w (by omega),P.YBK t (by simp[Ty.wt]),P.YA8 l (by omega),P.YA4 v (by omega)]
  iterate 4 rw[ZLj]
  obtain⟨r,e1,e2,ps,rfl,q1,q2⟩:=P.Ye w (ZKC (by omega)) t l v (fun c hc=>by have:=Zf Clause.wt hc;have:Clause.wt c=c.pat.wt+c.guard.wt:=rfl;omega) (by omega)
  have b1:=Data.cntL_le w
  have b2:=Clause.cntL_le l
  have b3:=Value.cntL_le v.kids
  rw[←Value.wt_eq]at b3
  have b4:cntII (ps.foldl ZC5 [])<=62914560000000:=by
    have h4:=ZD3 ps []
    have h5:=ZGl (k:=1048576) (ps.foldl ZC5 []) fun p hp=>by
      rcases(ZGZ _ _).1 hp with h|h
      · cases h
      · exact q2 p h
    simp only[List.length_nil,Nat.zero_add]at h4
    have h6:(ps.foldl ZC5 []).length<=60000000:=Nat.le_trans h4 q1
    have h7:(ps.foldl ZC5 []).length*1048576<=62914560000000:=by omega
    exact Nat.le_trans h5 h7
  generalize ps.foldl ZC5 []=r at*
  have m1:=Data.mkL_snd mtF w 1 (by omega) (by omega)
  have m2:=Clause.mkL_snd l (Data.mkL mtF w 1).2 (by omega) (by omega)
  have m3:=Value.mkL_snd v.kids (Clause.mkL l (Data.mkL mtF w 1).2).2 (by omega) (by omega)
  have m4:=ZIc r 1 (by omega) (by omega)
  have n3:¬(Value.mkL v.kids (Clause.mkL l (Data.mkL mtF w 1).2).2).2<0:=by rw[m3];omega
  have n4:¬(ZDI r 1).2<0:=by rw[m4];omega
  have m5:=P.YBI r 1 (by omega) (by omega)
  simp[e1,e2,P.YBd,P.YBf,P.YBJ,P.YA7,dec_of,F.f263,F.f258,F.f256,F.f260,m5,n3,n4]
end Go.Vl
