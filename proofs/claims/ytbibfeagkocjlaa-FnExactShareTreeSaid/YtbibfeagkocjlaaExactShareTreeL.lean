/- The plain law of FnExactShareTree. -/
import Derived.Test.YtbibfeagkocjlaaExactShareTreeB
set_option linter.all false
set_option maxRecDepth 100000
namespace Go.Vl
open Go Go.RowKit
theorem P.FnExactShareTree (x:Tree)(hox:x.Ok):F.f100 x=some true:=by
  unfold F.f100
  rw[P.Ys x hox _ (by omega) (by omega),ZMT]
  refine ZO6 (fun _=>rfl) fun h=> ?_
  have hw:=ZIA h
  rw[P.Yq x (by omega)]
  iterate 1 rw[ZMT]
  obtain⟨r,e1,e2,e3⟩:=P.YY x (by omega)
  have m0:=x.wt_eq
  have b2:=PathBind.cntL_le x.binds
  have b3:=Zv (fun _:Int=>0) x.path
  have b4:=Branch.cntL_le x.branches
  have b5:=Tree.cntL_le x.els
  have m2:=PathBind.mkL_snd x.binds 1 (by omega) (by omega)
  have m3:=ZAz x.path (PathBind.mkL x.binds 1).2 (by omega) (by simp only[cntI];omega)
  simp only[cntI]at m3
  have m4:=Branch.mkL_snd x.branches (mkI x.path (PathBind.mkL x.binds 1).2).2 (by omega) (by omega)
  have m5:=Tree.mkL_snd x.els (Branch.mkL x.branches (mkI x.path (PathBind.mkL x.binds 1).2).2).2 (by omega) (by omega)
  have n5:¬(Tree.mkL x.els (Branch.mkL x.branches (mkI x.path (PathBind.mkL x.binds 1).2).2).2).2<0:=by omega
  have b6:=Node.cntL_le r.1
  have m6:=Node.mkL_snd r.1 1 (by omega) (by omega)
  have n6:¬(Node.mkL r.1 1).2<0:=by rw[m6];omega
  have h6:=P.YAA r.1 1 (by omega) (by omega)
  simp[e1,e2,P.Yv,P.YAF,dec_of,F.f97,F.f95,F.f94,F.f98,F.f99,h6,n5,n6]
end Go.Vl
