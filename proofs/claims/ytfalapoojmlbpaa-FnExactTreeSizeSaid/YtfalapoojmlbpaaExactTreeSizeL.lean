/- The plain law of TreeSize. -/
import Derived.Test.YtfalapoojmlbpaaExactTreeSizeP
import Derived.Test.YtfalapoojmlbpaaVlQ
set_option linter.unusedSimpArgs false
set_option linter.unusedVariables false
namespace Go.Vl
open Go Go.RowKit

def Tree.nodes : Tree → Nat
  | ⟨_, _, _, _, branches, els⟩ => 1 + (branches.attach.map fun ⟨b, _⟩ => Tree.nodes b.tree).sum + (els.attach.map fun ⟨k, _⟩ => Tree.nodes k).sum
termination_by t => SizeOf.sizeOf t
decreasing_by
  · rename_i h
    have := List.sizeOf_lt_of_mem h
    cases b
    simp at this ⊢
    omega
  · rename_i h
    have := List.sizeOf_lt_of_mem h
    simp
    omega
def Branch.nodes (b : Branch) : Nat := b.tree.nodes
theorem Tree.nodes_eq (x : Tree) : x.nodes = 1 + (x.branches.map Branch.nodes).sum + (x.els.map Tree.nodes).sum := by
  cases x
  rw [Tree.nodes]
  simp only [List.map_attach_eq_pmap, List.pmap_eq_map]
  rfl
theorem sum_le_wtL {α : Type} {g f : α → Nat} {xs : List α} (h : ∀ x, x ∈ xs → g x ≤ 1 + f x) : (xs.map g).sum ≤ wtL f xs := by
  induction xs with
  | nil => simp
  | cons a r ih =>
    have := h a (by simp)
    have := ih fun x hx => h x (by simp [hx])
    simp; omega
theorem Tree.nodes_le (x : Tree) : x.nodes ≤ 1 + x.wt := by
  induction x using Tree.ind with
  | _ x ihb ihe =>
    rw [Tree.nodes_eq, Tree.wt_eq]
    have h1 : (x.branches.map Branch.nodes).sum ≤ wtL Branch.wt x.branches := sum_le_wtL (f := Branch.wt) ihb
    have h2 : (x.els.map Tree.nodes).sum ≤ wtL Tree.wt x.els := sum_le_wtL ihe
    omega

theorem P.spec_TreeSize (x : Tree) (hw : x.wt ≤ 1048576) : F.spec_TreeSize x = some (x.nodes : Int) := by
  induction x using Tree.ind with
  | _ x ihb ihe =>
    have hn := x.nodes_le
    rw [Tree.nodes_eq] at hn ⊢
    have hw2 := hw
    rw [Tree.wt_eq] at hw2
    unfold F.spec_TreeSize
    rw [sumLoop (L := F.spec_TreeSize_l1 x) (g := Branch.nodes) (fun n i => by rw [F.spec_TreeSize_l1]) (fun b hb => ihb b hb (by have := wtL_mem Branch.wt hb; have : Branch.wt b = b.tree.wt := rfl; omega)) _ 0 1 rfl (by omega) (by simp only [List.drop_zero]; omega)]
    simp only [Option.bind_eq_bind, Option.bind_some, List.drop_zero]
    rw [sumLoop (L := F.spec_TreeSize_l2 x) (g := Tree.nodes) (fun n i => by rw [F.spec_TreeSize_l2]) (fun k hk => ihe k hk (by have := wtL_mem Tree.wt hk; omega)) _ 0 _ rfl (by omega) (by simp only [List.drop_zero]; omega)]
    simp only [Option.bind_some, List.drop_zero]
    congr 1

theorem P.impl_subtrees (x : Tree) (hw : x.wt ≤ 1048576) : F.impl_subtrees x = some (x.branches.map (·.tree) ++ x.els) := by
  rw [Tree.wt_eq] at hw
  have h1 := wtL_len Branch.wt x.branches
  have h2 := wtL_len Tree.wt x.els
  unfold F.impl_subtrees
  rw [appLoop0 (L := F.impl_subtrees_l1 x) (a := x.branches) (g := fun b : Branch => b.tree) (fun n i => by rw [F.impl_subtrees_l1]) _ 0 [] rfl (by simp; omega)]
  simp only [Option.bind_eq_bind, Option.bind_some, List.drop_zero, List.nil_append]
  rw [if_pos (by simp; omega)]

theorem P.impl_TreeSize (x : Tree) (hw : x.wt ≤ 1048576) : F.impl_TreeSize x = some (x.nodes : Int) := by
  induction x using Tree.ind with
  | _ x ihb ihe =>
    have hn := x.nodes_le
    rw [Tree.nodes_eq] at hn ⊢
    have hw2 := hw
    rw [Tree.wt_eq] at hw2
    unfold F.impl_TreeSize
    rw [P.impl_subtrees x hw]
    simp only [Option.bind_eq_bind, Option.bind_some]
    rw [sumLoop (L := F.impl_TreeSize_l1 _) (g := Tree.nodes) (fun n i => by rw [F.impl_TreeSize_l1]) (fun k hk => ?_) _ 0 1 rfl (by omega) (by simp only [List.drop_zero, List.map_append, List.sum_append, List.map_map, Function.comp_def]; have e : (x.branches.map fun b => b.tree.nodes).sum = (x.branches.map Branch.nodes).sum := rfl; omega)]
    · simp only [Option.bind_some, List.drop_zero, List.map_append, List.sum_append, List.map_map, Function.comp_def]
      congr 1
      have e : (x.branches.map fun b => b.tree.nodes).sum = (x.branches.map Branch.nodes).sum := rfl
      omega
    · rcases List.mem_append.1 hk with hk | hk
      · obtain ⟨b, hb, rfl⟩ := List.mem_map.1 hk
        exact ihb b hb (by have := wtL_mem Branch.wt hb; have : Branch.wt b = b.tree.wt := rfl; omega)
      · exact ihe k hk (by have := wtL_mem Tree.wt hk; omega)

theorem rem_small {l : Int} {n : Nat} (h : ¬ rem l n < 0) : (n : Int) ≤ l := by simp only [rem] at h; split at h <;> omega

theorem P.FnExactTreeSize (x : Tree) (ho : x.Ok) : F.laws_FnExactTreeSize x = some true := by
  unfold F.laws_FnExactTreeSize
  rw [P.szTree x ho _ (by omega) (by omega)]
  simp only [Option.bind_eq_bind, Option.bind_some]
  split
  · rfl
  · next h =>
    have hw := rem_small h
    rw [P.toTree x (by omega)]
    simp only [Option.bind_some]
    rw [P.spec_TreeSize x (by omega), P.impl_TreeSize x (by omega)]
    simp [P.eqTree, dec_of]
end Go.Vl
