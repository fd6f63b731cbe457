/- The plain law of TreeTests. -/
import Derived.Test.YtoacjahdkkdffaaExactTreeTestsP
import Derived.Test.YtoacjahdkkdffaaVlQ
set_option linter.unusedSimpArgs false
set_option linter.unusedVariables false
namespace Go.Vl
open Go Go.RowKit

def Tree.depth : Tree → Nat
  | ⟨op, _, _, _, branches, els⟩ => (((branches.attach.map (fun ⟨b, _⟩ => Tree.depth b.tree) : List Nat) ++ (els.attach.map (fun ⟨k, _⟩ => Tree.depth k) : List Nat)).foldl max 0) + (if op = 2 then 1 else 0)
termination_by t => SizeOf.sizeOf t
decreasing_by
  · rename_i h
    have := List.sizeOf_lt_of_mem h
    cases b
    simp at this ⊢
    omega
  · rename_i h
    have := List.sizeOf_lt_of_mem h
    simp
    omega
def Branch.depth (b : Branch) : Nat := b.tree.depth
theorem Tree.depth_eq (x : Tree) : x.depth = ((x.branches.map Branch.depth ++ x.els.map Tree.depth).foldl max 0) + (if x.op = 2 then 1 else 0) := by
  cases x
  rw [Tree.depth]
  simp only [List.map_attach_eq_pmap, List.pmap_eq_map]
  rfl
theorem fold_le {l : List Nat} {n m : Nat} (hn : n ≤ m) (h : ∀ x, x ∈ l → x ≤ m) : l.foldl max n ≤ m := by
  induction l generalizing n with
  | nil => exact hn
  | cons a r ih => exact ih (Nat.max_le.2 ⟨hn, h a (by simp)⟩) fun x hx => h x (by simp [hx])
theorem Tree.depth_le (x : Tree) : x.depth ≤ 1 + x.wt := by
  induction x using Tree.ind with
  | _ x ihb ihe =>
    rw [Tree.depth_eq, Tree.wt_eq]
    have : (x.branches.map Branch.depth ++ x.els.map Tree.depth).foldl max 0 ≤ wtL Branch.wt x.branches + wtL Tree.wt x.els := by
      refine fold_le (by omega) fun y hy => ?_
      rcases List.mem_append.1 hy with hy | hy
      · obtain ⟨b, hb, rfl⟩ := List.mem_map.1 hy
        have h1 := ihb b hb
        have h2 := wtL_mem Branch.wt hb
        have h3 : Branch.depth b ≤ 1 + Branch.wt b := h1
        omega
      · obtain ⟨k, hk, rfl⟩ := List.mem_map.1 hy
        have h1 := ihe k hk
        have h2 := wtL_mem Tree.wt hk
        omega
    split <;> omega
theorem maxLoop {α : Type} {a : List α} {g : α → Nat} {f : α → Option Int} {L : Int → Nat → Option Int}
    (hL : ∀ (n : Nat) i, L n i = if i < a.length then a[i]? >>= fun x => f x >>= fun v => if (n : Int) < v then L v (i + 1) else L n (i + 1) else some (n : Int))
    (hf : ∀ x, x ∈ a → f x = some ((g x : Nat) : Int)) : ∀ (m i : Nat) (n : Nat), a.length - i = m → L n i = some ((((a.drop i).map g).foldl max n : Nat) : Int) := by
  intro m
  induction m with
  | zero =>
    intro i n hm
    rw [hL, if_neg (by omega), List.drop_eq_nil_of_le (by omega)]; rfl
  | succ m ih =>
    intro i n hm
    have hi : i < a.length := by omega
    rw [hL, if_pos hi, List.getElem?_eq_getElem hi, List.drop_eq_getElem_cons hi]
    simp only [List.map_cons, List.foldl_cons, Option.bind_eq_bind, Option.bind_some]
    rw [hf _ (List.getElem_mem hi)]
    simp only [Option.bind_some]
    split
    · next h => rw [ih (i + 1) _ (by omega), Nat.max_eq_right (by omega)]
    · next h => rw [ih (i + 1) _ (by omega), Nat.max_eq_left (by omega)]

theorem P.spec_TreeTests (x : Tree) (hw : x.wt ≤ 1048576) : F.spec_TreeTests x = some (x.depth : Int) := by
  induction x using Tree.ind with
  | _ x ihb ihe =>
    have hn := x.depth_le
    rw [Tree.depth_eq] at hn ⊢
    have hw2 := hw
    rw [Tree.wt_eq] at hw2
    unfold F.spec_TreeTests
    have e1 := maxLoop (L := F.spec_TreeTests_l1 x) (a := x.branches) (g := Branch.depth) (f := fun b => F.spec_TreeTests b.tree) (fun n i => by rw [F.spec_TreeTests_l1]) (fun b hb => ihb b hb (by have := wtL_mem Branch.wt hb; have : Branch.wt b = b.tree.wt := rfl; omega)) _ 0 0 rfl
    simp only [List.drop_zero] at e1
    rw [show ((0 : Int)) = ((0 : Nat) : Int) from rfl, e1]
    simp only [Option.bind_eq_bind, Option.bind_some]
    rw [maxLoop (L := F.spec_TreeTests_l2 x) (a := x.els) (g := Tree.depth) (f := F.spec_TreeTests) (fun n i => by rw [F.spec_TreeTests_l2]) (fun k hk => ihe k hk (by have := wtL_mem Tree.wt hk; omega)) _ 0 _ rfl]
    simp only [Option.bind_some, List.drop_zero]
    rw [List.foldl_append] at hn ⊢
    split
    · next h => rw [if_pos h] at hn; rw [wrap_in (by omega) (by omega)]; rfl
    · rfl

theorem P.impl_subtrees (x : Tree) (hw : x.wt ≤ 1048576) : F.impl_subtrees x = some (x.branches.map (·.tree) ++ x.els) := by
  rw [Tree.wt_eq] at hw
  have h1 := wtL_len Branch.wt x.branches
  have h2 := wtL_len Tree.wt x.els
  unfold F.impl_subtrees
  rw [appLoop0 (L := F.impl_subtrees_l1 x) (a := x.branches) (g := fun b : Branch => b.tree) (fun n i => by rw [F.impl_subtrees_l1]) _ 0 [] rfl (by simp; omega)]
  simp only [Option.bind_eq_bind, Option.bind_some, List.drop_zero, List.nil_append]
  rw [if_pos (by simp; omega)]

theorem P.impl_TreeTests (x : Tree) (hw : x.wt ≤ 1048576) : F.impl_TreeTests x = some (x.depth : Int) := by
  induction x using Tree.ind with
  | _ x ihb ihe =>
    have hn := x.depth_le
    rw [Tree.depth_eq] at hn ⊢
    have hw2 := hw
    rw [Tree.wt_eq] at hw2
    unfold F.impl_TreeTests
    rw [P.impl_subtrees x hw]
    simp only [Option.bind_eq_bind, Option.bind_some]
    have e1 := maxLoop (L := F.impl_TreeTests_l1 x (x.branches.map (·.tree) ++ x.els)) (a := x.branches.map (·.tree) ++ x.els) (g := Tree.depth) (f := F.impl_TreeTests) (fun n i => by
      rw [F.impl_TreeTests_l1]
      split
      · cases (x.branches.map (·.tree) ++ x.els)[i]? with
        | none => rfl
        | some y =>
          simp only [Option.bind_eq_bind, Option.bind_some]
          cases F.impl_TreeTests y with
          | none => rfl
          | some v => simp only [Option.bind_some]; split <;> rfl
      · rfl) (fun k hk => by
      rcases List.mem_append.1 hk with hk | hk
      · obtain ⟨b, hb, rfl⟩ := List.mem_map.1 hk
        exact ihb b hb (by have := wtL_mem Branch.wt hb; have : Branch.wt b = b.tree.wt := rfl; omega)
      · exact ihe k hk (by have := wtL_mem Tree.wt hk; omega)) _ 0 0 rfl
    simp only [List.drop_zero, List.map_append, List.map_map, Function.comp_def] at e1
    have e2 : (x.branches.map fun b => b.tree.depth) = x.branches.map Branch.depth := rfl
    rw [e2] at e1
    rw [show ((0 : Int)) = ((0 : Nat) : Int) from rfl, e1]
    simp only [Option.bind_some]
    split
    · next h => rw [if_pos h] at hn; rw [wrap_in (by omega) (by omega)]; rfl
    · rfl

theorem P.FnExactTreeTests (x : Tree) (ho : x.Ok) : F.laws_FnExactTreeTests x = some true := by
  unfold F.laws_FnExactTreeTests
  rw [P.szTree x ho _ (by omega) (by omega)]
  simp only [Option.bind_eq_bind, Option.bind_some]
  split
  · rfl
  · next h =>
    have hw := rem_small h
    rw [P.toTree x (by omega)]
    simp only [Option.bind_some]
    rw [P.spec_TreeTests x (by omega), P.impl_TreeTests x (by omega)]
    simp [P.eqTree, dec_of]
end Go.Vl
