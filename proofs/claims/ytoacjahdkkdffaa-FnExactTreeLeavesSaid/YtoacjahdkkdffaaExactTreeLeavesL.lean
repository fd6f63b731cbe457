/- The plain law of TreeLeaves. -/
import Derived.Test.YtoacjahdkkdffaaExactTreeLeavesB
set_option linter.unusedSimpArgs false
set_option linter.unusedVariables false
namespace Go.Vl
open Go Go.RowKit

theorem P.within_0_7 (n : Int) : F.impl_within n 0 7 = some (decide (0 ≤ n ∧ n ≤ 7)) := by
  unfold F.impl_within
  by_cases h : 0 ≤ n
  · simp [h]
  · simp [h]
theorem P.impl_subtrees (x : Tree) (hw : x.wt ≤ 1048576) : F.impl_subtrees x = some (x.branches.map (·.tree) ++ x.els) := by
  rw [Tree.wt_eq] at hw
  have h1 := wtL_len Branch.wt x.branches
  have h2 := wtL_len Tree.wt x.els
  unfold F.impl_subtrees
  rw [appLoop0 (L := F.impl_subtrees_l1 x) (a := x.branches) (g := fun b : Branch => b.tree) (fun n i => by rw [F.impl_subtrees_l1]) _ 0 [] rfl (by simp; omega)]
  simp only [Option.bind_eq_bind, Option.bind_some, List.drop_zero, List.nil_append]
  rw [if_pos (by simp; omega)]
abbrev fl8 (S : Nat → Bool) : List Bool := (List.range 8).map S

theorem P.leaves_same (x : Tree) (hw : x.wt ≤ 1048576) : ∀ S : Nat → Bool, ∃ S', F.impl_leaves x S = some S' ∧ F.spec_l7Leaves (fl8 S) x = some (fl8 S') := by
  induction x using Tree.ind with
  | _ x ihb ihe =>
    intro S
    have hw2 := hw
    rw [Tree.wt_eq] at hw2
    have sub := P.impl_subtrees x hw
    -- the parts, one behind the other
    have all : ∀ y, y ∈ x.branches.map (·.tree) ++ x.els → ∀ (s : Nat → Bool) (t : List Bool), t = fl8 s → ∃ s' t', F.impl_leaves y s = some s' ∧ F.spec_l7Leaves t y = some t' ∧ t' = fl8 s' := by
      intro y hy s t ht
      subst ht
      have : ∃ S', F.impl_leaves y s = some S' ∧ F.spec_l7Leaves (fl8 s) y = some (fl8 S') := by
        rcases List.mem_append.1 hy with hy | hy
        · obtain ⟨b, hb, rfl⟩ := List.mem_map.1 hy
          exact ihb b hb (by have := wtL_mem Branch.wt hb; have : Branch.wt b = b.tree.wt := rfl; omega) s
        · exact ihe y hy (by have := wtL_mem Tree.wt hy; omega) s
      obtain ⟨S', h1, h2⟩ := this
      exact ⟨S', _, h1, h2, rfl⟩
    have lp : ∀ S : Nat → Bool, ∃ S', (x.branches.map (·.tree) ++ x.els).foldlM (fun s y => F.impl_leaves y s) S = some S' ∧ ((x.branches.foldlM (fun t (b : Branch) => F.spec_l7Leaves t b.tree) (fl8 S)) >>= fun t => x.els.foldlM (fun t y => F.spec_l7Leaves t y) t) = some (fl8 S') := by
      intro S
      obtain ⟨s', t', h1, h2, h3⟩ := foldR (R := fun (s : Nat → Bool) (t : List Bool) => t = fl8 s) (l := x.branches.map (·.tree) ++ x.els) all (s := S) rfl
      subst h3
      refine ⟨s', h1, ?_⟩
      rw [List.foldlM_append, List.foldlM_map] at h2
      exact h2
    have i1 : ∀ S, F.impl_leaves_l1 (x.branches.map (·.tree) ++ x.els) S 0 = (x.branches.map (·.tree) ++ x.els).foldlM (fun s y => F.impl_leaves y s) S := fun S => loopFold (fun s i => by rw [F.impl_leaves_l1]) _ 0 S rfl
    have i2 : ∀ S, F.impl_leaves_l2 (x.branches.map (·.tree) ++ x.els) S 0 = (x.branches.map (·.tree) ++ x.els).foldlM (fun s y => F.impl_leaves y s) S := fun S => loopFold (fun s i => by rw [F.impl_leaves_l2]) _ 0 S rfl
    have i3 : ∀ S, F.impl_leaves_l3 (x.branches.map (·.tree) ++ x.els) S 0 = (x.branches.map (·.tree) ++ x.els).foldlM (fun s y => F.impl_leaves y s) S := fun S => loopFold (fun s i => by rw [F.impl_leaves_l3]) _ 0 S rfl
    have s1 : ∀ t, F.spec_l7Leaves_l1 x t 0 = x.branches.foldlM (fun t (b : Branch) => F.spec_l7Leaves t b.tree) t := fun t => loopFold (fun s i => by rw [F.spec_l7Leaves_l1]) _ 0 t rfl
    have s3 : ∀ t, F.spec_l7Leaves_l3 x t 0 = x.branches.foldlM (fun t (b : Branch) => F.spec_l7Leaves t b.tree) t := fun t => loopFold (fun s i => by rw [F.spec_l7Leaves_l3]) _ 0 t rfl
    have s5 : ∀ t, F.spec_l7Leaves_l5 x t 0 = x.branches.foldlM (fun t (b : Branch) => F.spec_l7Leaves t b.tree) t := fun t => loopFold (fun s i => by rw [F.spec_l7Leaves_l5]) _ 0 t rfl
    have s7 : ∀ t, F.spec_l7Leaves_l7 x t 0 = x.branches.foldlM (fun t (b : Branch) => F.spec_l7Leaves t b.tree) t := fun t => loopFold (fun s i => by rw [F.spec_l7Leaves_l7]) _ 0 t rfl
    have s2 : ∀ t, F.spec_l7Leaves_l2 x t 0 = x.els.foldlM (fun t y => F.spec_l7Leaves t y) t := fun t => loopFold (fun s i => by rw [F.spec_l7Leaves_l2]) _ 0 t rfl
    have s4 : ∀ t, F.spec_l7Leaves_l4 x t 0 = x.els.foldlM (fun t y => F.spec_l7Leaves t y) t := fun t => loopFold (fun s i => by rw [F.spec_l7Leaves_l4]) _ 0 t rfl
    have s6 : ∀ t, F.spec_l7Leaves_l6 x t 0 = x.els.foldlM (fun t y => F.spec_l7Leaves t y) t := fun t => loopFold (fun s i => by rw [F.spec_l7Leaves_l6]) _ 0 t rfl
    have s8 : ∀ t, F.spec_l7Leaves_l8 x t 0 = x.els.foldlM (fun t y => F.spec_l7Leaves t y) t := fun t => loopFold (fun s i => by rw [F.spec_l7Leaves_l8]) _ 0 t rfl
    have bs : ∀ (o : Option (List Bool)), (o >>= fun z => some z) = o := fun o => by cases o <;> rfl
    have bs2 : ∀ (o : Option (Nat → Bool)), (o >>= fun z => some z) = o := fun o => by cases o <;> rfl
    unfold F.impl_leaves F.spec_l7Leaves
    simp only [i1, i2, i3, s1, s2, s3, s4, s5, s6, s7, s8, P.within_0_7, sub, List.length_map, List.length_range, bs, bs2]
    simp only [Option.bind_eq_bind, Option.bind_some] at lp ⊢
    simp only [i1, i2, i3]
    by_cases ho : x.op = 1
    · rw [if_pos ho, if_pos ho]
      by_cases h0 : 0 ≤ x.clause
      · rw [if_pos h0]
        by_cases h3 : x.clause ≤ 7
        · have hlt : x.clause.toNat < 8 := by omega
          have hn : (x.clause.toNat : Int) = x.clause := by omega
          have hat : at? (fl8 S) x.clause = some (S x.clause.toNat) := by
            have := at_nat (fl8 S) x.clause.toNat
            rw [hn] at this
            rw [this]
            show ((List.range 8).map S)[x.clause.toNat]? = _
            rw [List.getElem?_map, List.getElem?_range hlt]; rfl
          rw [if_pos (by simp; omega), if_pos ⟨h0, hlt⟩, if_pos (by simp; omega), hat]
          simp only [Option.bind_some]
          rw [flags_upd hlt]
          exact lp (updF S x.clause.toNat true)
        · rw [if_neg (by simp; omega), if_neg (by simp; omega)]
          exact lp S
      · rw [if_neg (by simp; omega), if_neg h0]
        exact lp S
    · rw [if_neg ho, if_neg ho]
      exact lp S

theorem P.TreeLeaves_same (x : Tree) (hw : x.wt ≤ 1048576) : ∃ g, F.spec_TreeLeaves x = some g ∧ F.impl_TreeLeaves x = some g ∧ g.length ≤ 8 := by
  unfold F.spec_TreeLeaves F.impl_TreeLeaves
  rw [if_pos (by decide)]
  have e0 : List.replicate 8 false = fl8 (fun _ => false) := rfl
  obtain ⟨S, h1, h2⟩ := P.leaves_same x hw (fun _ => false)
  rw [e0, h2, h1]
  simp only [Option.bind_eq_bind, Option.bind_some]
  obtain ⟨r, h3, h4, h5⟩ := setEx (n := 8) (S := S) (L := F.spec_TreeLeaves_l1 ((List.range 8).map S)) (M := F.impl_TreeLeaves_l1 S) (by omega)
    (fun out i => by rw [F.spec_TreeLeaves_l1]) (fun i out => by rw [F.impl_TreeLeaves_l1]) 8 0 [] rfl (by simp) (by omega)
  exact ⟨r, by rw [h3]; rfl, by rw [h4]; rfl, h5⟩

theorem P.FnExactTreeLeaves (x : Tree) (ho : x.Ok) : F.laws_FnExactTreeLeaves x = some true := by
  unfold F.laws_FnExactTreeLeaves
  rw [P.szTree x ho _ (by omega) (by omega)]
  simp only [Option.bind_eq_bind, Option.bind_some]
  split
  · rfl
  · next h =>
    have hw := rem_small h
    rw [P.toTree x (by omega)]
    simp only [Option.bind_some]
    obtain ⟨g, h1, h2, h3⟩ := P.TreeLeaves_same x (by omega)
    have hc : cntI g ≤ 8 := h3
    have hw2 := hw
    rw [Tree.wt_eq] at hw2
    have b1 := PathBind.cntL_le x.binds
    have b2 := cntI_le x.path
    have b3 := Branch.cntL_le x.branches
    have b4 := Tree.cntL_le x.els
    have m1 := PathBind.mkL_snd x.binds 1 (by omega) (by omega)
    have n1 : ¬ (PathBind.mkL x.binds 1).2 < 0 := by rw [m1]; omega
    have m2 := mkI_snd x.path (PathBind.mkL x.binds 1).2 (by omega) (by omega)
    have n2 : ¬ (mkI x.path (PathBind.mkL x.binds 1).2).2 < 0 := by rw [m2]; omega
    have m3 := Branch.mkL_snd x.branches (mkI x.path (PathBind.mkL x.binds 1).2).2 (by omega) (by omega)
    have m4 := Tree.mkL_snd x.els (Branch.mkL x.branches (mkI x.path (PathBind.mkL x.binds 1).2).2).2 (by omega) (by omega)
    have n4 : ¬ (Tree.mkL x.els (Branch.mkL x.branches (mkI x.path (PathBind.mkL x.binds 1).2).2).2).2 < 0 := by rw [m4]; omega
    have m5 := mkI_snd g 1 (by omega) (by omega)
    have m6 := P.heldIntS g 1 (by omega) (by omega)
    have n5 : ¬ (mkI g 1).2 < 0 := by rw [m5]; omega
    simp [h1, h2, P.eqIntS, P.eqTree, dec_of, F.laws_markPathBindS, F.laws_markBranchS, F.laws_markTreeS, F.laws_markIntS, m6, n4, n5]
end Go.Vl
