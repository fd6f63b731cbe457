/- The plain law of FnExactExpandNodes. -/
import Derived.Test.YtojdombnghnbmaaExactExpandNodesB
set_option linter.unusedSimpArgs false
set_option linter.unusedVariables false
set_option maxRecDepth 100000
namespace Go.Vl
open Go Go.RowKit
theorem P.FnExactExpandNodes (l:List Node)(hol:okL Node.Ok l):F.f76 l=some true:=by
  unfold F.f76
  rw[P.szNodeS l hol _ (by omega) (by omega),sbind]
  refine iteG (fun _=>rfl) fun h=> ?_
  have hw:=rem_small h
  rw[P.toNodeS l (by omega)]
  iterate 1 rw[sbind]
  have hlen:=wtL_len Node.wt l
  obtain⟨r,e1,e2,e3⟩:=P.ExpandNodes_same l (by omega) (fun n hn=>by have:=wtL_mem Node.wt hn;omega)
  have b1:=Node.cntL_le l
  have m1:=Node.mkL_snd l 1 (by omega) (by omega)
  have n3:¬(Node.mkL l 1).2<0:=by rw[m1];omega
  have hw2:=Tree.wt_eq r.1
  have b2:=PathBind.cntL_le r.1.binds
  have b3:=wtL_len (fun _:Int=>0) r.1.path
  have b4:=Branch.cntL_le r.1.branches
  have b5:=Tree.cntL_le r.1.els
  have m2:=PathBind.mkL_snd r.1.binds 1 (by omega) (by omega)
  have h2:=P.heldPathBindS r.1.binds 1 (by omega) (by omega)
  have m3:=mkI_snd r.1.path (PathBind.mkL r.1.binds 1).2 (by omega) (by simp only[cntI];omega)
  have h3:=P.heldIntS r.1.path (PathBind.mkL r.1.binds 1).2 (by omega) (by simp only[cntI];omega)
  simp only[cntI]at m3
  have m4:=Branch.mkL_snd r.1.branches (mkI r.1.path (PathBind.mkL r.1.binds 1).2).2 (by omega) (by omega)
  have h4:=P.heldBranchS r.1.branches (mkI r.1.path (PathBind.mkL r.1.binds 1).2).2 (by omega) (by omega)
  have m5:=Tree.mkL_snd r.1.els (Branch.mkL r.1.branches (mkI r.1.path (PathBind.mkL r.1.binds 1).2).2).2 (by omega) (by omega)
  have h5:=P.heldTreeS r.1.els (Branch.mkL r.1.branches (mkI r.1.path (PathBind.mkL r.1.binds 1).2).2).2 (by omega) (by omega)
  have p2:¬(PathBind.mkL r.1.binds 1).2<0:=by omega
  have p3:¬(mkI r.1.path (PathBind.mkL r.1.binds 1).2).2<0:=by omega
  have p4:¬(Branch.mkL r.1.branches (mkI r.1.path (PathBind.mkL r.1.binds 1).2).2).2<0:=by omega
  have p5:¬(Tree.mkL r.1.els (Branch.mkL r.1.branches (mkI r.1.path (PathBind.mkL r.1.binds 1).2).2).2).2<0:=by omega
  simp[e1,e2,P.eqTree,P.eqNodeS,dec_of,F.f73,F.f71,F.f70,F.f74,F.f75,F.f69,n3,h2,h3,h4,h5,p2,p3,p4,p5]
end Go.Vl
