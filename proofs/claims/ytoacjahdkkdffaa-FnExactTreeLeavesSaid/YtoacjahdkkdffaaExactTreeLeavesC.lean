/- The contracts: the code computes the functions (printed by gen.py). -/
import Derived.Test.YtoacjahdkkdffaaProg
import Derived.Test.YtoacjahdkkdffaaExactTreeLeavesF
import Derived.Test.YtoacjahdkkdffaaExactTreeLeavesC1
namespace Go.Proofs.Ytoacjahdkkdffaa
open Go Go.Proofs Go.Vl
set_option linter.unusedSimpArgs false
set_option linter.unusedVariables false

attribute [local irreducible] ECallA NCallA aL aLg AMake MLoop AgainM LeaveM awpM aopsM MutCall BCall chk abr ACall ALoop ALoopU ADraw Again Leave PCallA PCall Post awp aops PureCall hold

set_option maxRecDepth 100000 in
set_option maxHeartbeats 4000000 in
theorem CM.laws_markBranchS (B : Nat) (hB1 : 67108864 ≤ B) (hB2 : B ≤ 9223372036854775807) : ∀ m : Nat, (∀ (a : List Vl.Branch) (k : Int), SizeOf.sizeOf a < m → MCall Try.prog B 60 (List.map Vl.Branch.c a) [.int .i64 k] (List.map Vl.Branch.c (Vl.Branch.mkL a k).1) (.int .i64 (Vl.Branch.mkL a k).2)) ∧
  (∀ (a : List Vl.Tree) (k : Int), SizeOf.sizeOf a < m → MCall Try.prog B 61 (List.map Vl.Tree.c a) [.int .i64 k] (List.map Vl.Tree.c (Vl.Tree.mkL a k).1) (.int .i64 (Vl.Tree.mkL a k).2)) := by
 intro m
 induction m with
 | zero => exact ⟨fun a k h => absurd h (Nat.not_lt_zero _), fun a k h => absurd h (Nat.not_lt_zero _)⟩
 | succ m ih =>
  refine ⟨?_, ?_⟩
  ·intro a0 k0 hm
   have hz0 : ∀ x, x ∈ a0 → SizeOf.sizeOf x < m := fun x hx => by have := List.sizeOf_lt_of_mem hx; omega
   have loop : ∀ (rest D : List Vl.Branch) (k : Int) (i n : Nat) (rows : List (List AV)) (us : List Go.Value), (∀ x, x ∈ rest → SizeOf.sizeOf x < m) → i = D.length → n = i + rest.length → RW 9 n rows us →
     ∀ (c : Code), navO [1, 0, 1, 0, 0] (bodyOf Try.f60) = some c → ∀ (Q : Exit → ASt → Prop),
     (∀ (R : List (List AV)) (U : List Go.Value), RW 9 n R U → Q (.exit 0) ⟨[(1, .lit (.int .i64 (Vl.Branch.mkL rest k).2))], [.elems 9 R, .pack (List.flatten (List.map Vl.Branch.c (D ++ (Vl.Branch.mkL rest k).1))) U]⟩) →
     ALoopU Try.prog B 2 82 (hold c .mk) ⟨[(0, .own 0 n), (1, .lit (.int .i64 k)), (5, .lit (.int .i64 (i : Int)))], [.elems 9 rows, .pack (List.flatten (List.map Vl.Branch.c (D ++ rest))) us]⟩ (hold Q .mk) := by
    intro rest
    induction rest with
    | nil =>
     intro D k i n rows us hz hi hn H c hc Q hq
     obtain rfl : c = _ := navEq hc rfl
     have hn' : n = i := by simpa using hn
     subst hn'
     refine ALoopU.enter ?_
     repeat (first | refine chk.ga ?_ | simp -dsimp [RW.len H])
     refine Leave.go ⟨[(1, .lit (.int .i64 k))], [.elems 9 rows, .pack (List.flatten (List.map Vl.Branch.c D)) us]⟩ (Gh.to3 (by simp) (by simp -dsimp [RW.closed H])) ?_
     simpa [Vl.Branch.mkL] using hq rows us H
    | cons x r ihr =>
     intro D k i n rows us hz hi hn H c hc Q hq
     refine ALoopU.opnAt4 1 (List.flatten (List.map Vl.Branch.c D)) (Vl.Branch.c x) (List.flatten (List.map Vl.Branch.c r)) rfl (by simp) (by simp) ?_
     intro h1 h2 h3 h4 vs UA UC o_h1 o_h2 o_h3 o_h4 hlt hU hlA
     have hv : vs = [.int .i64 x.ctor, .int .i64 x.n, .int .i64 x.m, .int .i64 x.tree.op, .int .i64 x.tree.clause, h1, h2, h3, h4] := by apply lits_inj; rw [← hlt]; simp
     subst hv hU
     have hUA : UA.length = i * 9 := by rw [hlA, flatc_len Vl.Branch.c_len, hi]
     have hin : i < n := by simp at hn; omega
     have hrow : rows[i]? = some [.lit (.int .i64 x.ctor), .lit (.int .i64 x.n), .lit (.int .i64 x.m), .lit (.int .i64 x.tree.op), .lit (.int .i64 x.tree.clause), .lit h1, .lit h2, .lit h3, .lit h4] := by simpa using H.at hin rfl hUA rfl
     have hne : ¬ rows = [] := by intro e; rw [e] at hrow; simp at hrow
     have hrl := RW.len H
     have hrow' : ∀ (h : i < rows.length), rows[i] = [.lit (.int .i64 x.ctor), .lit (.int .i64 x.n), .lit (.int .i64 x.m), .lit (.int .i64 x.tree.op), .lit (.int .i64 x.tree.clause), .lit h1, .lit h2, .lit h3, .lit h4] := fun h => by rw [List.getElem?_eq_getElem h] at hrow; exact Option.some.inj hrow
     have hset : ∀ a, (rows.set i a)[i]? = some a := fun a => List.getElem?_set_self (by omega)
     clear hlt
     refine ALoopU.know fun hk hs => ?_
     have d0 := hs 0 _ rfl
     simp -dsimp [Blk.bnd] at d0
     clear hk hs
     obtain rfl : c = _ := navEq hc rfl
     have w1 : IntKind.i64.wrap ((i : Int) + 1) = (i : Int) + 1 := wrap_in (by omega) (by omega)
     refine ALoopU.enter ?_
     repeat (first | refine chk.ga ?_ | simp -dsimp [hne, hrow, hrow', hset, hrl, hin, w1, List.set_set, o_h1, o_h2, o_h3, o_h4])
     refine (C.laws_markPathBindS B hB1 hB2 x.tree.binds (IntKind.i64.wrap ((IntKind.i64.wrap ((IntKind.i64.wrap ((IntKind.i64.wrap ((IntKind.i64.wrap (k + 1)) + 1)) + 1)) + 1)) + 1)) _ rfl).go 2 rfl (by simp) ?_
     repeat (first | refine chk.ga ?_ | simp -dsimp [hne, hrow, hrow', hset, hrl, hin, w1, List.set_set, o_h1, o_h2, o_h3, o_h4])
     refine (C.laws_markIntS B hB1 hB2 x.tree.path ((Vl.PathBind.mkL x.tree.binds (IntKind.i64.wrap ((IntKind.i64.wrap ((IntKind.i64.wrap ((IntKind.i64.wrap ((IntKind.i64.wrap (k + 1)) + 1)) + 1)) + 1)) + 1))).2) _ rfl).go 3 rfl (by simp) ?_
     repeat (first | refine chk.ga ?_ | simp -dsimp [hne, hrow, hrow', hset, hrl, hin, w1, List.set_set, o_h1, o_h2, o_h3, o_h4])
     have sz2 : SizeOf.sizeOf x.tree.branches < m := by have h0 := hz x (by simp); obtain ⟨c1, c2, c3, t1⟩ := x; cases t1; simp at h0 ⊢; omega
     refine (ih.1 x.tree.branches ((mkI x.tree.path ((Vl.PathBind.mkL x.tree.binds (IntKind.i64.wrap ((IntKind.i64.wrap ((IntKind.i64.wrap ((IntKind.i64.wrap ((IntKind.i64.wrap (k + 1)) + 1)) + 1)) + 1)) + 1))).2)).2) sz2).go 4 rfl (by simp) ?_
     repeat (first | refine chk.ga ?_ | simp -dsimp [hne, hrow, hrow', hset, hrl, hin, w1, List.set_set, o_h1, o_h2, o_h3, o_h4])
     have sz3 : SizeOf.sizeOf x.tree.els < m := by have h0 := hz x (by simp); obtain ⟨c1, c2, c3, t1⟩ := x; cases t1; simp at h0 ⊢; omega
     refine (ih.2 x.tree.els ((Vl.Branch.mkL x.tree.branches ((mkI x.tree.path ((Vl.PathBind.mkL x.tree.binds (IntKind.i64.wrap ((IntKind.i64.wrap ((IntKind.i64.wrap ((IntKind.i64.wrap ((IntKind.i64.wrap (k + 1)) + 1)) + 1)) + 1)) + 1))).2)).2)).2) sz3).go 5 rfl (by simp) ?_
     repeat (first | refine chk.ga ?_ | simp -dsimp [hne, hrow, hrow', hset, hrl, hin, w1, List.set_set, o_h1, o_h2, o_h3, o_h4])
     refine Again.go ⟨[(0, .own 0 n), (1, .lit (.int .i64 ((Vl.Tree.mkL x.tree.els ((Vl.Branch.mkL x.tree.branches ((mkI x.tree.path ((Vl.PathBind.mkL x.tree.binds (IntKind.i64.wrap ((IntKind.i64.wrap ((IntKind.i64.wrap ((IntKind.i64.wrap ((IntKind.i64.wrap (k + 1)) + 1)) + 1)) + 1)) + 1))).2)).2)).2)).2))), (5, .lit (.int .i64 ((i + 1 : Nat) : Int)))], [.elems 9 (rows.set i [.lit (.int .i64 k), .lit (.int .i64 (IntKind.i64.wrap (k + 1))), .lit (.int .i64 (IntKind.i64.wrap ((IntKind.i64.wrap (k + 1)) + 1))), .lit (.int .i64 (IntKind.i64.wrap ((IntKind.i64.wrap ((IntKind.i64.wrap (k + 1)) + 1)) + 1))), .lit (.int .i64 (IntKind.i64.wrap ((IntKind.i64.wrap ((IntKind.i64.wrap ((IntKind.i64.wrap (k + 1)) + 1)) + 1)) + 1))), .lit h1, .lit h2, .lit h3, .lit h4]), .pack (List.flatten (List.map Vl.Branch.c ((D ++ [(⟨k, IntKind.i64.wrap (k + 1), IntKind.i64.wrap ((IntKind.i64.wrap (k + 1)) + 1), (⟨IntKind.i64.wrap ((IntKind.i64.wrap ((IntKind.i64.wrap (k + 1)) + 1)) + 1), IntKind.i64.wrap ((IntKind.i64.wrap ((IntKind.i64.wrap ((IntKind.i64.wrap (k + 1)) + 1)) + 1)) + 1), (Vl.PathBind.mkL x.tree.binds (IntKind.i64.wrap ((IntKind.i64.wrap ((IntKind.i64.wrap ((IntKind.i64.wrap ((IntKind.i64.wrap (k + 1)) + 1)) + 1)) + 1)) + 1))).1, (mkI x.tree.path ((Vl.PathBind.mkL x.tree.binds (IntKind.i64.wrap ((IntKind.i64.wrap ((IntKind.i64.wrap ((IntKind.i64.wrap ((IntKind.i64.wrap (k + 1)) + 1)) + 1)) + 1)) + 1))).2)).1, (Vl.Branch.mkL x.tree.branches ((mkI x.tree.path ((Vl.PathBind.mkL x.tree.binds (IntKind.i64.wrap ((IntKind.i64.wrap ((IntKind.i64.wrap ((IntKind.i64.wrap ((IntKind.i64.wrap (k + 1)) + 1)) + 1)) + 1)) + 1))).2)).2)).1, (Vl.Tree.mkL x.tree.els ((Vl.Branch.mkL x.tree.branches ((mkI x.tree.path ((Vl.PathBind.mkL x.tree.binds (IntKind.i64.wrap ((IntKind.i64.wrap ((IntKind.i64.wrap ((IntKind.i64.wrap ((IntKind.i64.wrap (k + 1)) + 1)) + 1)) + 1)) + 1))).2)).2)).2)).1⟩ : Vl.Tree)⟩ : Vl.BranchOf Vl.Tree)]) ++ r))) (UA ++ ([.int .i64 k, .int .i64 (IntKind.i64.wrap (k + 1)), .int .i64 (IntKind.i64.wrap ((IntKind.i64.wrap (k + 1)) + 1)), .int .i64 (IntKind.i64.wrap ((IntKind.i64.wrap ((IntKind.i64.wrap (k + 1)) + 1)) + 1)), .int .i64 (IntKind.i64.wrap ((IntKind.i64.wrap ((IntKind.i64.wrap ((IntKind.i64.wrap (k + 1)) + 1)) + 1)) + 1)), h1, h2, h3, h4] ++ UC))]⟩
      (by refine Gh.trans (Gh.setAt 1 [2, 3, 4, 5] (XA := List.flatten (List.map Vl.Branch.c D)) (old := [.lit (.int .i64 x.ctor), .lit (.int .i64 x.n), .lit (.int .i64 x.m), .lit (.int .i64 x.tree.op), .lit (.int .i64 x.tree.clause), .lit h1, .lit h2, .lit h3, .lit h4]) (XC := List.flatten (List.map Vl.Branch.c r)) (UA := UA) (uo := [.int .i64 x.ctor, .int .i64 x.n, .int .i64 x.m, .int .i64 x.tree.op, .int .i64 x.tree.clause, h1, h2, h3, h4]) (UC := UC) (by exact rfl) (by simp) (by simp) hlA rfl (.lit (.int .i64 k) (.lit (.int .i64 (IntKind.i64.wrap (k + 1))) (.lit (.int .i64 (IntKind.i64.wrap ((IntKind.i64.wrap (k + 1)) + 1))) (.lit (.int .i64 (IntKind.i64.wrap ((IntKind.i64.wrap ((IntKind.i64.wrap (k + 1)) + 1)) + 1))) (.lit (.int .i64 (IntKind.i64.wrap ((IntKind.i64.wrap ((IntKind.i64.wrap ((IntKind.i64.wrap (k + 1)) + 1)) + 1)) + 1))) (.pk 2 (by exact rfl) (.pk 3 (by exact rfl) (.pk 4 (by exact rfl) (.pk 5 (by exact rfl) .nil))))))))) (by decide)) ?_; exact Gh.to3 (by simp) (by simp -dsimp [RW.closed H])) ?_
     have he : Vl.Branch.mkL (x :: r) k = ((⟨k, IntKind.i64.wrap (k + 1), IntKind.i64.wrap ((IntKind.i64.wrap (k + 1)) + 1), (⟨IntKind.i64.wrap ((IntKind.i64.wrap ((IntKind.i64.wrap (k + 1)) + 1)) + 1), IntKind.i64.wrap ((IntKind.i64.wrap ((IntKind.i64.wrap ((IntKind.i64.wrap (k + 1)) + 1)) + 1)) + 1), (Vl.PathBind.mkL x.tree.binds (IntKind.i64.wrap ((IntKind.i64.wrap ((IntKind.i64.wrap ((IntKind.i64.wrap ((IntKind.i64.wrap (k + 1)) + 1)) + 1)) + 1)) + 1))).1, (mkI x.tree.path ((Vl.PathBind.mkL x.tree.binds (IntKind.i64.wrap ((IntKind.i64.wrap ((IntKind.i64.wrap ((IntKind.i64.wrap ((IntKind.i64.wrap (k + 1)) + 1)) + 1)) + 1)) + 1))).2)).1, (Vl.Branch.mkL x.tree.branches ((mkI x.tree.path ((Vl.PathBind.mkL x.tree.binds (IntKind.i64.wrap ((IntKind.i64.wrap ((IntKind.i64.wrap ((IntKind.i64.wrap ((IntKind.i64.wrap (k + 1)) + 1)) + 1)) + 1)) + 1))).2)).2)).1, (Vl.Tree.mkL x.tree.els ((Vl.Branch.mkL x.tree.branches ((mkI x.tree.path ((Vl.PathBind.mkL x.tree.binds (IntKind.i64.wrap ((IntKind.i64.wrap ((IntKind.i64.wrap ((IntKind.i64.wrap ((IntKind.i64.wrap (k + 1)) + 1)) + 1)) + 1)) + 1))).2)).2)).2)).1⟩ : Vl.Tree)⟩ : Vl.BranchOf Vl.Tree) :: (Vl.Branch.mkL r ((Vl.Tree.mkL x.tree.els ((Vl.Branch.mkL x.tree.branches ((mkI x.tree.path ((Vl.PathBind.mkL x.tree.binds (IntKind.i64.wrap ((IntKind.i64.wrap ((IntKind.i64.wrap ((IntKind.i64.wrap ((IntKind.i64.wrap (k + 1)) + 1)) + 1)) + 1)) + 1))).2)).2)).2)).2)).1, (Vl.Branch.mkL r ((Vl.Tree.mkL x.tree.els ((Vl.Branch.mkL x.tree.branches ((mkI x.tree.path ((Vl.PathBind.mkL x.tree.binds (IntKind.i64.wrap ((IntKind.i64.wrap ((IntKind.i64.wrap ((IntKind.i64.wrap ((IntKind.i64.wrap (k + 1)) + 1)) + 1)) + 1)) + 1))).2)).2)).2)).2)).2) := by (first | rfl | (cases x; all_goals (try (rename_i t0; cases t0)); simp [Vl.Branch.mkL, Vl.Branch.mkE, Vl.Tree.mkE]))
     rw [he] at hq
     refine ihr (D ++ [(⟨k, IntKind.i64.wrap (k + 1), IntKind.i64.wrap ((IntKind.i64.wrap (k + 1)) + 1), (⟨IntKind.i64.wrap ((IntKind.i64.wrap ((IntKind.i64.wrap (k + 1)) + 1)) + 1), IntKind.i64.wrap ((IntKind.i64.wrap ((IntKind.i64.wrap ((IntKind.i64.wrap (k + 1)) + 1)) + 1)) + 1), (Vl.PathBind.mkL x.tree.binds (IntKind.i64.wrap ((IntKind.i64.wrap ((IntKind.i64.wrap ((IntKind.i64.wrap ((IntKind.i64.wrap (k + 1)) + 1)) + 1)) + 1)) + 1))).1, (mkI x.tree.path ((Vl.PathBind.mkL x.tree.binds (IntKind.i64.wrap ((IntKind.i64.wrap ((IntKind.i64.wrap ((IntKind.i64.wrap ((IntKind.i64.wrap (k + 1)) + 1)) + 1)) + 1)) + 1))).2)).1, (Vl.Branch.mkL x.tree.branches ((mkI x.tree.path ((Vl.PathBind.mkL x.tree.binds (IntKind.i64.wrap ((IntKind.i64.wrap ((IntKind.i64.wrap ((IntKind.i64.wrap ((IntKind.i64.wrap (k + 1)) + 1)) + 1)) + 1)) + 1))).2)).2)).1, (Vl.Tree.mkL x.tree.els ((Vl.Branch.mkL x.tree.branches ((mkI x.tree.path ((Vl.PathBind.mkL x.tree.binds (IntKind.i64.wrap ((IntKind.i64.wrap ((IntKind.i64.wrap ((IntKind.i64.wrap ((IntKind.i64.wrap (k + 1)) + 1)) + 1)) + 1)) + 1))).2)).2)).2)).1⟩ : Vl.Tree)⟩ : Vl.BranchOf Vl.Tree)]) _ (i + 1) n _ _ (fun y hy => hz y (List.mem_cons_of_mem _ hy)) (by simp [hi]) (by simp at hn; omega) (by simpa using H.setAt hin hUA rfl [.int .i64 k, .int .i64 (IntKind.i64.wrap (k + 1)), .int .i64 (IntKind.i64.wrap ((IntKind.i64.wrap (k + 1)) + 1)), .int .i64 (IntKind.i64.wrap ((IntKind.i64.wrap ((IntKind.i64.wrap (k + 1)) + 1)) + 1)), .int .i64 (IntKind.i64.wrap ((IntKind.i64.wrap ((IntKind.i64.wrap ((IntKind.i64.wrap (k + 1)) + 1)) + 1)) + 1)), h1, h2, h3, h4] rfl) _ rfl _ fun R U hR => ?_
     simpa using hq R U hR
   refine MCall.enter 9 Try.func60 (by kernel_rfl) rfl Try.ntmps60 (by simp) (by simp [Vl.Branch.mkL_len]) (fun e he => by obtain ⟨x, _, rfl⟩ := List.mem_map.1 he; exact Vl.Branch.c_len x) ?_ ?_
   ·intro he
    have he : a0 = [] := by simpa using he
    subst he
    repeat (first | refine chk.ga ?_ | simp -dsimp)
    refine ALoop.goU ⟨[(0, .arr []), (1, .lit (.int .i64 k0)), (5, .lit (.int .i64 0))], []⟩ (Gh.to3 (by simp) (by simp -dsimp)) ?_
    refine ALoopU.enter ?_
    repeat (first | refine chk.ga ?_ | simp -dsimp)
    refine Leave.go _ (Gh.refl _) ?_
    repeat (first | refine chk.ga ?_ | simp -dsimp)
    all_goals (try simp [Vl.Branch.mkL])
   ·intro hne rows us e1 e2 e3 e4
    have H : RW 9 a0.length rows us := ⟨by simpa using e2, e3, e1⟩
    repeat (first | refine chk.ga ?_ | simp -dsimp)
    refine ALoop.goU ⟨[(0, .own 0 a0.length), (1, .lit (.int .i64 k0)), (5, .lit (.int .i64 ((0 : Nat) : Int)))], [.elems 9 rows, .pack (List.flatten (List.map Vl.Branch.c ([] ++ a0))) us]⟩ (Gh.to3 (by simp) (by simp -dsimp [RW.closed H])) ?_
    refine loop a0 [] k0 0 a0.length rows us hz0 rfl (by simp) H _ rfl _ ?_
    intro R U hR
    repeat (first | refine chk.ga ?_ | simp -dsimp)
    exact ⟨rfl, R, U, rfl, ⟨1, by simp⟩, hR.2.2, by rw [hR.1]; simp [Vl.Branch.mkL_len], fun x hx => by obtain ⟨y, _, rfl⟩ := List.mem_map.1 hx; exact Vl.Branch.c_len y⟩
  ·intro a0 k0 hm
   have hz0 : ∀ x, x ∈ a0 → SizeOf.sizeOf x < m := fun x hx => by have := List.sizeOf_lt_of_mem hx; omega
   have loop : ∀ (rest D : List Vl.Tree) (k : Int) (i n : Nat) (rows : List (List AV)) (us : List Go.Value), (∀ x, x ∈ rest → SizeOf.sizeOf x < m) → i = D.length → n = i + rest.length → RW 6 n rows us →
     ∀ (c : Code), navO [1, 0, 1, 0, 0] (bodyOf Try.f61) = some c → ∀ (Q : Exit → ASt → Prop),
     (∀ (R : List (List AV)) (U : List Go.Value), RW 6 n R U → Q (.exit 0) ⟨[(1, .lit (.int .i64 (Vl.Tree.mkL rest k).2))], [.elems 6 R, .pack (List.flatten (List.map Vl.Tree.c (D ++ (Vl.Tree.mkL rest k).1))) U]⟩) →
     ALoopU Try.prog B 2 55 (hold c .mk) ⟨[(0, .own 0 n), (1, .lit (.int .i64 k)), (5, .lit (.int .i64 (i : Int)))], [.elems 6 rows, .pack (List.flatten (List.map Vl.Tree.c (D ++ rest))) us]⟩ (hold Q .mk) := by
    intro rest
    induction rest with
    | nil =>
     intro D k i n rows us hz hi hn H c hc Q hq
     obtain rfl : c = _ := navEq hc rfl
     have hn' : n = i := by simpa using hn
     subst hn'
     refine ALoopU.enter ?_
     repeat (first | refine chk.ga ?_ | simp -dsimp [RW.len H])
     refine Leave.go ⟨[(1, .lit (.int .i64 k))], [.elems 6 rows, .pack (List.flatten (List.map Vl.Tree.c D)) us]⟩ (Gh.to3 (by simp) (by simp -dsimp [RW.closed H])) ?_
     simpa [Vl.Tree.mkL] using hq rows us H
    | cons x r ihr =>
     intro D k i n rows us hz hi hn H c hc Q hq
     refine ALoopU.opnAt4 1 (List.flatten (List.map Vl.Tree.c D)) (Vl.Tree.c x) (List.flatten (List.map Vl.Tree.c r)) rfl (by simp) (by simp) ?_
     intro h1 h2 h3 h4 vs UA UC o_h1 o_h2 o_h3 o_h4 hlt hU hlA
     have hv : vs = [.int .i64 x.op, .int .i64 x.clause, h1, h2, h3, h4] := by apply lits_inj; rw [← hlt]; simp
     subst hv hU
     have hUA : UA.length = i * 6 := by rw [hlA, flatc_len Vl.Tree.c_len, hi]
     have hin : i < n := by simp at hn; omega
     have hrow : rows[i]? = some [.lit (.int .i64 x.op), .lit (.int .i64 x.clause), .lit h1, .lit h2, .lit h3, .lit h4] := by simpa using H.at hin rfl hUA rfl
     have hne : ¬ rows = [] := by intro e; rw [e] at hrow; simp at hrow
     have hrl := RW.len H
     have hrow' : ∀ (h : i < rows.length), rows[i] = [.lit (.int .i64 x.op), .lit (.int .i64 x.clause), .lit h1, .lit h2, .lit h3, .lit h4] := fun h => by rw [List.getElem?_eq_getElem h] at hrow; exact Option.some.inj hrow
     have hset : ∀ a, (rows.set i a)[i]? = some a := fun a => List.getElem?_set_self (by omega)
     clear hlt
     refine ALoopU.know fun hk hs => ?_
     have d0 := hs 0 _ rfl
     simp -dsimp [Blk.bnd] at d0
     clear hk hs
     obtain rfl : c = _ := navEq hc rfl
     have w1 : IntKind.i64.wrap ((i : Int) + 1) = (i : Int) + 1 := wrap_in (by omega) (by omega)
     refine ALoopU.enter ?_
     repeat (first | refine chk.ga ?_ | simp -dsimp [hne, hrow, hrow', hset, hrl, hin, w1, List.set_set, o_h1, o_h2, o_h3, o_h4])
     refine (C.laws_markPathBindS B hB1 hB2 x.binds (IntKind.i64.wrap ((IntKind.i64.wrap (k + 1)) + 1)) _ rfl).go 2 rfl (by simp) ?_
     repeat (first | refine chk.ga ?_ | simp -dsimp [hne, hrow, hrow', hset, hrl, hin, w1, List.set_set, o_h1, o_h2, o_h3, o_h4])
     refine (C.laws_markIntS B hB1 hB2 x.path ((Vl.PathBind.mkL x.binds (IntKind.i64.wrap ((IntKind.i64.wrap (k + 1)) + 1))).2) _ rfl).go 3 rfl (by simp) ?_
     repeat (first | refine chk.ga ?_ | simp -dsimp [hne, hrow, hrow', hset, hrl, hin, w1, List.set_set, o_h1, o_h2, o_h3, o_h4])
     have sz2 : SizeOf.sizeOf x.branches < m := by have h0 := hz x (by simp); cases x; simp at h0 ⊢; omega
     refine (ih.1 x.branches ((mkI x.path ((Vl.PathBind.mkL x.binds (IntKind.i64.wrap ((IntKind.i64.wrap (k + 1)) + 1))).2)).2) sz2).go 4 rfl (by simp) ?_
     repeat (first | refine chk.ga ?_ | simp -dsimp [hne, hrow, hrow', hset, hrl, hin, w1, List.set_set, o_h1, o_h2, o_h3, o_h4])
     have sz3 : SizeOf.sizeOf x.els < m := by have h0 := hz x (by simp); cases x; simp at h0 ⊢; omega
     refine (ih.2 x.els ((Vl.Branch.mkL x.branches ((mkI x.path ((Vl.PathBind.mkL x.binds (IntKind.i64.wrap ((IntKind.i64.wrap (k + 1)) + 1))).2)).2)).2) sz3).go 5 rfl (by simp) ?_
     repeat (first | refine chk.ga ?_ | simp -dsimp [hne, hrow, hrow', hset, hrl, hin, w1, List.set_set, o_h1, o_h2, o_h3, o_h4])
     refine Again.go ⟨[(0, .own 0 n), (1, .lit (.int .i64 ((Vl.Tree.mkL x.els ((Vl.Branch.mkL x.branches ((mkI x.path ((Vl.PathBind.mkL x.binds (IntKind.i64.wrap ((IntKind.i64.wrap (k + 1)) + 1))).2)).2)).2)).2))), (5, .lit (.int .i64 ((i + 1 : Nat) : Int)))], [.elems 6 (rows.set i [.lit (.int .i64 k), .lit (.int .i64 (IntKind.i64.wrap (k + 1))), .lit h1, .lit h2, .lit h3, .lit h4]), .pack (List.flatten (List.map Vl.Tree.c ((D ++ [(⟨k, IntKind.i64.wrap (k + 1), (Vl.PathBind.mkL x.binds (IntKind.i64.wrap ((IntKind.i64.wrap (k + 1)) + 1))).1, (mkI x.path ((Vl.PathBind.mkL x.binds (IntKind.i64.wrap ((IntKind.i64.wrap (k + 1)) + 1))).2)).1, (Vl.Branch.mkL x.branches ((mkI x.path ((Vl.PathBind.mkL x.binds (IntKind.i64.wrap ((IntKind.i64.wrap (k + 1)) + 1))).2)).2)).1, (Vl.Tree.mkL x.els ((Vl.Branch.mkL x.branches ((mkI x.path ((Vl.PathBind.mkL x.binds (IntKind.i64.wrap ((IntKind.i64.wrap (k + 1)) + 1))).2)).2)).2)).1⟩ : Vl.Tree)]) ++ r))) (UA ++ ([.int .i64 k, .int .i64 (IntKind.i64.wrap (k + 1)), h1, h2, h3, h4] ++ UC))]⟩
      (by refine Gh.trans (Gh.setAt 1 [2, 3, 4, 5] (XA := List.flatten (List.map Vl.Tree.c D)) (old := [.lit (.int .i64 x.op), .lit (.int .i64 x.clause), .lit h1, .lit h2, .lit h3, .lit h4]) (XC := List.flatten (List.map Vl.Tree.c r)) (UA := UA) (uo := [.int .i64 x.op, .int .i64 x.clause, h1, h2, h3, h4]) (UC := UC) (by exact rfl) (by simp) (by simp) hlA rfl (.lit (.int .i64 k) (.lit (.int .i64 (IntKind.i64.wrap (k + 1))) (.pk 2 (by exact rfl) (.pk 3 (by exact rfl) (.pk 4 (by exact rfl) (.pk 5 (by exact rfl) .nil)))))) (by decide)) ?_; exact Gh.to3 (by simp) (by simp -dsimp [RW.closed H])) ?_
     have he : Vl.Tree.mkL (x :: r) k = ((⟨k, IntKind.i64.wrap (k + 1), (Vl.PathBind.mkL x.binds (IntKind.i64.wrap ((IntKind.i64.wrap (k + 1)) + 1))).1, (mkI x.path ((Vl.PathBind.mkL x.binds (IntKind.i64.wrap ((IntKind.i64.wrap (k + 1)) + 1))).2)).1, (Vl.Branch.mkL x.branches ((mkI x.path ((Vl.PathBind.mkL x.binds (IntKind.i64.wrap ((IntKind.i64.wrap (k + 1)) + 1))).2)).2)).1, (Vl.Tree.mkL x.els ((Vl.Branch.mkL x.branches ((mkI x.path ((Vl.PathBind.mkL x.binds (IntKind.i64.wrap ((IntKind.i64.wrap (k + 1)) + 1))).2)).2)).2)).1⟩ : Vl.Tree) :: (Vl.Tree.mkL r ((Vl.Tree.mkL x.els ((Vl.Branch.mkL x.branches ((mkI x.path ((Vl.PathBind.mkL x.binds (IntKind.i64.wrap ((IntKind.i64.wrap (k + 1)) + 1))).2)).2)).2)).2)).1, (Vl.Tree.mkL r ((Vl.Tree.mkL x.els ((Vl.Branch.mkL x.branches ((mkI x.path ((Vl.PathBind.mkL x.binds (IntKind.i64.wrap ((IntKind.i64.wrap (k + 1)) + 1))).2)).2)).2)).2)).2) := by (first | rfl | (cases x; simp [Vl.Tree.mkL, Vl.Tree.mkE]))
     rw [he] at hq
     refine ihr (D ++ [(⟨k, IntKind.i64.wrap (k + 1), (Vl.PathBind.mkL x.binds (IntKind.i64.wrap ((IntKind.i64.wrap (k + 1)) + 1))).1, (mkI x.path ((Vl.PathBind.mkL x.binds (IntKind.i64.wrap ((IntKind.i64.wrap (k + 1)) + 1))).2)).1, (Vl.Branch.mkL x.branches ((mkI x.path ((Vl.PathBind.mkL x.binds (IntKind.i64.wrap ((IntKind.i64.wrap (k + 1)) + 1))).2)).2)).1, (Vl.Tree.mkL x.els ((Vl.Branch.mkL x.branches ((mkI x.path ((Vl.PathBind.mkL x.binds (IntKind.i64.wrap ((IntKind.i64.wrap (k + 1)) + 1))).2)).2)).2)).1⟩ : Vl.Tree)]) _ (i + 1) n _ _ (fun y hy => hz y (List.mem_cons_of_mem _ hy)) (by simp [hi]) (by simp at hn; omega) (by simpa using H.setAt hin hUA rfl [.int .i64 k, .int .i64 (IntKind.i64.wrap (k + 1)), h1, h2, h3, h4] rfl) _ rfl _ fun R U hR => ?_
     simpa using hq R U hR
   refine MCall.enter 6 Try.func61 (by kernel_rfl) rfl Try.ntmps61 (by simp) (by simp [Vl.Tree.mkL_len]) (fun e he => by obtain ⟨x, _, rfl⟩ := List.mem_map.1 he; exact Vl.Tree.c_len x) ?_ ?_
   ·intro he
    have he : a0 = [] := by simpa using he
    subst he
    repeat (first | refine chk.ga ?_ | simp -dsimp)
    refine ALoop.goU ⟨[(0, .arr []), (1, .lit (.int .i64 k0)), (5, .lit (.int .i64 0))], []⟩ (Gh.to3 (by simp) (by simp -dsimp)) ?_
    refine ALoopU.enter ?_
    repeat (first | refine chk.ga ?_ | simp -dsimp)
    refine Leave.go _ (Gh.refl _) ?_
    repeat (first | refine chk.ga ?_ | simp -dsimp)
    all_goals (try simp [Vl.Tree.mkL])
   ·intro hne rows us e1 e2 e3 e4
    have H : RW 6 a0.length rows us := ⟨by simpa using e2, e3, e1⟩
    repeat (first | refine chk.ga ?_ | simp -dsimp)
    refine ALoop.goU ⟨[(0, .own 0 a0.length), (1, .lit (.int .i64 k0)), (5, .lit (.int .i64 ((0 : Nat) : Int)))], [.elems 6 rows, .pack (List.flatten (List.map Vl.Tree.c ([] ++ a0))) us]⟩ (Gh.to3 (by simp) (by simp -dsimp [RW.closed H])) ?_
    refine loop a0 [] k0 0 a0.length rows us hz0 rfl (by simp) H _ rfl _ ?_
    intro R U hR
    repeat (first | refine chk.ga ?_ | simp -dsimp)
    exact ⟨rfl, R, U, rfl, ⟨1, by simp⟩, hR.2.2, by rw [hR.1]; simp [Vl.Tree.mkL_len], fun x hx => by obtain ⟨y, _, rfl⟩ := List.mem_map.1 hx; exact Vl.Tree.c_len y⟩

theorem C.laws_markBranchS (B : Nat) (hB1 : 67108864 ≤ B) (hB2 : B ≤ 9223372036854775807) (a : List Vl.Branch) (k : Int) (v : List Vl.Branch × Int) (hF : F.laws_markBranchS a k = some v) : MCall Try.prog B 60 (List.map Vl.Branch.c a) [.int .i64 k] (List.map Vl.Branch.c v.1) (.int .i64 v.2) := by
 obtain rfl := Option.some.inj hF
 exact (CM.laws_markBranchS B hB1 hB2 (SizeOf.sizeOf a + 1)).1 a k (Nat.lt_succ_self _)

theorem C.laws_markTreeS (B : Nat) (hB1 : 67108864 ≤ B) (hB2 : B ≤ 9223372036854775807) (a : List Vl.Tree) (k : Int) (v : List Vl.Tree × Int) (hF : F.laws_markTreeS a k = some v) : MCall Try.prog B 61 (List.map Vl.Tree.c a) [.int .i64 k] (List.map Vl.Tree.c v.1) (.int .i64 v.2) := by
 obtain rfl := Option.some.inj hF
 exact (CM.laws_markBranchS B hB1 hB2 (SizeOf.sizeOf a + 1)).2 a k (Nat.lt_succ_self _)

set_option maxRecDepth 100000 in
set_option maxHeartbeats 4000000 in
theorem C.laws_FnExactTreeLeaves (B : Nat) (hB1 : 67108864 ≤ B) (hB2 : B ≤ 9223372036854775807) (aX : Vl.Tree) (r : Bool) (hF : F.laws_FnExactTreeLeaves aX = some r) : PureCall Try.prog B 6 [.agg [.lit (.int .i64 aX.op), .lit (.int .i64 aX.clause), .arr (List.map Vl.PathBind.c aX.binds), .arr (List.map cI aX.path), .arr (List.map Vl.Branch.c aX.branches), .arr (List.map Vl.Tree.c aX.els)]] (.lit (.bool r)) := by
 unfold F.laws_FnExactTreeLeaves at hF
 refine PureCall.enterLe Try.func6 (by kernel_rfl) rfl Try.ntmps6 (by simp) (by simp) ?_
 repeat (first | refine chk.ga ?_ | simp -dsimp)
 have hF := ob hF; obtain ⟨v, e1, hF⟩ := hF
 refine ((C.laws_szTree B hB1 hB2 aX (1048576 : Int) v e1)).goW (by simp) (by simp) ?_
 repeat (first | refine chk.ga ?_ | simp -dsimp)
 refine abr.split (fun h2 => ?_) (fun h2 => ?_)
 ·have q3 : (v < 0) := auq h2
  rw [if_pos q3] at hF
  cases hF
  repeat (first | refine chk.ga ?_ | simp -dsimp [h2])
  all_goals (try omega)
 ·have q3 : ¬ (v < 0) := auq h2
  rw [if_neg q3] at hF
  repeat (first | refine chk.ga ?_ | simp -dsimp [h2, q3])
  have hF := ob hF; obtain ⟨v4, e5, hF⟩ := hF
  refine ((C.laws_toTree B hB1 hB2 aX v4 e5)).goW (by first | simp [h2, q3]; done | simp_all) (by simp) ?_
  repeat (first | refine chk.ga ?_ | simp -dsimp [h2, q3])
  have hF := ob hF; obtain ⟨v6, e7, hF⟩ := hF
  refine ((C.spec_TreeLeaves B hB1 hB2 v4 v6 e7)).goW (by first | simp [h2, q3]; done | simp_all) (by simp) ?_
  repeat (first | refine chk.ga ?_ | simp -dsimp [h2, q3])
  have hF := ob hF; obtain ⟨v8, e9, hF⟩ := hF
  refine ((C.laws_toTree__f B hB1 hB2 aX v8 e9)).go4 (by first | simp -dsimp [h2, q3]; done | simp_all) (by simp) (fun h h10 h11 h12 o_h o_h10 o_h11 o_h12 => ?_)
  repeat (first | refine chk.ga ?_ | simp -dsimp [h2, q3, o_h, o_h10, o_h11, o_h12])
  have hF := ob hF; obtain ⟨v13, e14, hF⟩ := hF
  refine ((C.impl_TreeLeaves__f B hB1 hB2 v8 v13 e14)).go1 (by first | simp -dsimp [h2, q3, o_h, o_h10, o_h11, o_h12]; done | simp_all) (by simp) (fun h15 o_h15 => ?_)
  repeat (first | refine chk.ga ?_ | simp -dsimp [h2, q3, o_h, o_h10, o_h11, o_h12, o_h15])
  have hF := ob hF; obtain ⟨v16, e17, hF⟩ := hF
  refine ((C.laws_eqIntS B hB1 hB2 v13 v6 v16 e17)).lend (by first | simp -dsimp [h2, q3, o_h, o_h10, o_h11, o_h12, o_h15]; done | simp_all) (by simp -dsimp) ?_
  repeat (first | refine chk.ga ?_ | simp -dsimp [h2, q3, o_h, o_h10, o_h11, o_h12, o_h15])
  refine abr.split (fun h18 => ?_) (fun h18 => ?_)
  ·have q19 : ¬ (v16 = true) := auq h18
   rw [if_neg q19] at hF
   cases hF
   repeat (first | refine chk.ga ?_ | simp -dsimp [h2, q3, o_h, o_h10, o_h11, o_h12, o_h15, h18, q19])
   all_goals (try omega)
  ·have q19 : (v16 = true) := auq h18
   rw [if_pos q19] at hF
   repeat (first | refine chk.ga ?_ | simp -dsimp [h2, q3, o_h, o_h10, o_h11, o_h12, o_h15, h18, q19])
   refine ADraw.eff [13] [(0, 0), (0, 0), (0, 1), (0, 1), (1, 1)] [1, 1, 1, 1, 1] follows (by kernel_rfl) (by kernel_rfl) (by kernel_rfl) ?_
   repeat (first | refine chk.ga ?_ | simp -dsimp [h2, q3, o_h, o_h10, o_h11, o_h12, o_h15, h18, q19])
   have hF := ob hF; obtain ⟨v20, e21, hF⟩ := hF
   refine ((C.laws_toTree B hB1 hB2 aX v20 e21)).pgoW (by first | simp [h2, q3, o_h, o_h10, o_h11, o_h12, o_h15, h18, q19]; done | simp_all) (by simp) ?_
   repeat (first | refine chk.ga ?_ | simp -dsimp [h2, q3, o_h, o_h10, o_h11, o_h12, o_h15, h18, q19])
   have hF := ob hF; obtain ⟨v22, e23, hF⟩ := hF
   refine ((C.laws_eqTree B hB1 hB2 v8 v20 v22 e23)).elend (by first | simp -dsimp [h2, q3, o_h, o_h10, o_h11, o_h12, o_h15, h18, q19]; done | simp_all) (by simp -dsimp) ?_
   repeat (first | refine chk.ga ?_ | simp -dsimp [h2, q3, o_h, o_h10, o_h11, o_h12, o_h15, h18, q19])
   refine abr.split (fun h24 => ?_) (fun h24 => ?_)
   ·have q25 : ¬ (v22 = true) := auq h24
    rw [if_neg q25] at hF
    cases hF
    repeat (first | refine chk.ga ?_ | simp -dsimp [h2, q3, o_h, o_h10, o_h11, o_h12, o_h15, h18, q19, h24, q25])
    all_goals (try omega)
   ·have q25 : (v22 = true) := auq h24
    rw [if_pos q25] at hF
    repeat (first | refine chk.ga ?_ | simp -dsimp [h2, q3, o_h, o_h10, o_h11, o_h12, o_h15, h18, q19, h24, q25])
    refine ACall.inl Try.func24 (by kernel_rfl) rfl Try.ntmps24 (by simp) ?_
    repeat (first | refine chk.ga ?_ | simp -dsimp [h2, q3, o_h, o_h10, o_h11, o_h12, o_h15, h18, q19, h24, q25])
    have hF := ob hF; obtain ⟨v26, e27, hF⟩ := hF
    refine ((C.laws_markPathBindS B hB1 hB2 v8.binds 1 v26 e27)).go 1 rfl (by simp) ?_
    repeat (first | refine chk.ga ?_ | simp -dsimp [h2, q3, o_h, o_h10, o_h11, o_h12, o_h15, h18, q19, h24, q25])
    have hF := ob hF; obtain ⟨v28, e29, hF⟩ := hF
    refine ((C.laws_markIntS B hB1 hB2 v8.path v26.2 v28 e29)).go 2 rfl (by simp) ?_
    repeat (first | refine chk.ga ?_ | simp -dsimp [h2, q3, o_h, o_h10, o_h11, o_h12, o_h15, h18, q19, h24, q25])
    have hF := ob hF; obtain ⟨v30, e31, hF⟩ := hF
    refine ((C.laws_markBranchS B hB1 hB2 v8.branches v28.2 v30 e31)).go 3 rfl (by simp) ?_
    repeat (first | refine chk.ga ?_ | simp -dsimp [h2, q3, o_h, o_h10, o_h11, o_h12, o_h15, h18, q19, h24, q25])
    have hF := ob hF; obtain ⟨v32, e33, hF⟩ := hF
    refine ((C.laws_markTreeS B hB1 hB2 v8.els v30.2 v32 e33)).go 4 rfl (by simp) ?_
    repeat (first | refine chk.ga ?_ | simp -dsimp [h2, q3, o_h, o_h10, o_h11, o_h12, o_h15, h18, q19, h24, q25])
    refine abr.split (fun h34 => ?_) (fun h34 => ?_)
    ·have q35 : ¬ (v32.2 < 0) := auq h34
     rw [if_neg q35] at hF
     repeat (first | refine chk.ga ?_ | simp -dsimp [h2, q3, o_h, o_h10, o_h11, o_h12, o_h15, h18, q19, h24, q25, h34, q35])
     have hF := ob hF; obtain ⟨v36, e37, hF⟩ := hF
     refine ((C.laws_eqIntS B hB1 hB2 v13 v6 v36 e37)).lend (by first | simp -dsimp [h2, q3, o_h, o_h10, o_h11, o_h12, o_h15, h18, q19, h24, q25, h34, q35]; done | simp_all) (by simp -dsimp) ?_
     repeat (first | refine chk.ga ?_ | simp -dsimp [h2, q3, o_h, o_h10, o_h11, o_h12, o_h15, h18, q19, h24, q25, h34, q35])
     refine abr.split (fun h38 => ?_) (fun h38 => ?_)
     ·have q39 : ¬ (v36 = true) := auq h38
      rw [if_neg q39] at hF
      cases hF
      repeat (first | refine chk.ga ?_ | simp -dsimp [h2, q3, o_h, o_h10, o_h11, o_h12, o_h15, h18, q19, h24, q25, h34, q35, h38, q39])
      all_goals (try omega)
     ·have q39 : (v36 = true) := auq h38
      rw [if_pos q39] at hF
      repeat (first | refine chk.ga ?_ | simp -dsimp [h2, q3, o_h, o_h10, o_h11, o_h12, o_h15, h18, q19, h24, q25, h34, q35, h38, q39])
      have hF := ob hF; obtain ⟨v40, e41, hF⟩ := hF
      refine ((C.laws_markIntS B hB1 hB2 v13 1 v40 e41)).go 6 rfl (by simp) ?_
      repeat (first | refine chk.ga ?_ | simp -dsimp [h2, q3, o_h, o_h10, o_h11, o_h12, o_h15, h18, q19, h24, q25, h34, q35, h38, q39])
      have hF := ob hF; obtain ⟨v42, e43, hF⟩ := hF
      refine ((C.laws_heldIntS B hB1 hB2 v40.1 (1 : Int) v42 e43)).lend (by first | simp -dsimp [h2, q3, o_h, o_h10, o_h11, o_h12, o_h15, h18, q19, h24, q25, h34, q35, h38, q39]; done | simp_all) (by simp -dsimp) ?_
      repeat (first | refine chk.ga ?_ | simp -dsimp [h2, q3, o_h, o_h10, o_h11, o_h12, o_h15, h18, q19, h24, q25, h34, q35, h38, q39])
      refine abr.split (fun h44 => ?_) (fun h44 => ?_)
      ·have q45 : (v42 < 0) := auq h44
       rw [if_pos q45] at hF
       cases hF
       repeat (first | refine chk.ga ?_ | simp -dsimp [h2, q3, o_h, o_h10, o_h11, o_h12, o_h15, h18, q19, h24, q25, h34, q35, h38, q39, h44])
       all_goals (try omega)
      ·have q45 : ¬ (v42 < 0) := auq h44
       rw [if_neg q45] at hF
       repeat (first | refine chk.ga ?_ | simp -dsimp [h2, q3, o_h, o_h10, o_h11, o_h12, o_h15, h18, q19, h24, q25, h34, q35, h38, q39, h44, q45])
       refine abr.split (fun h46 => ?_) (fun h46 => ?_)
       ·have q47 : ¬ (v42 = v40.2) := auq h46
        rw [if_neg q47] at hF
        cases hF
        repeat (first | refine chk.ga ?_ | simp -dsimp [h2, q3, o_h, o_h10, o_h11, o_h12, o_h15, h18, q19, h24, q25, h34, q35, h38, q39, h44, q45, h46, q47])
        all_goals (try omega)
       ·have q47 : (v42 = v40.2) := auq h46
        rw [if_pos q47] at hF
        repeat (first | refine chk.ga ?_ | simp -dsimp [h2, q3, o_h, o_h10, o_h11, o_h12, o_h15, h18, q19, h24, q25, h34, q35, h38, q39, h44, q45, h46, q47])
        have hF := ob hF; obtain ⟨v48, e49, hF⟩ := hF
        refine ((C.laws_toTree B hB1 hB2 aX v48 e49)).goW (by first | simp [h2, q3, o_h, o_h10, o_h11, o_h12, o_h15, h18, q19, h24, q25, h34, q35, h38, q39, h44, q45, h46, q47]; done | simp_all) (by simp) ?_
        repeat (first | refine chk.ga ?_ | simp -dsimp [h2, q3, o_h, o_h10, o_h11, o_h12, o_h15, h18, q19, h24, q25, h34, q35, h38, q39, h44, q45, h46, q47])
        have hF := ob hF; obtain ⟨v50, e51, hF⟩ := hF
        refine ((C.impl_TreeLeaves__f B hB1 hB2 v48 v50 e51)).go1 (by first | simp -dsimp [h2, q3, o_h, o_h10, o_h11, o_h12, o_h15, h18, q19, h24, q25, h34, q35, h38, q39, h44, q45, h46, q47]; done | simp_all) (by simp) (fun h52 o_h52 => ?_)
        repeat (first | refine chk.ga ?_ | simp -dsimp [h2, q3, o_h, o_h10, o_h11, o_h12, o_h15, h18, q19, h24, q25, h34, q35, h38, q39, h44, q45, h46, q47, o_h52])
        have hF := ob hF; obtain ⟨v53, e54, hF⟩ := hF
        refine ((C.laws_eqIntS B hB1 hB2 v50 v6 v53 e54)).lend (by first | simp -dsimp [h2, q3, o_h, o_h10, o_h11, o_h12, o_h15, h18, q19, h24, q25, h34, q35, h38, q39, h44, q45, h46, q47, o_h52]; done | simp_all) (by simp -dsimp) ?_
        repeat (first | refine chk.ga ?_ | simp -dsimp [h2, q3, o_h, o_h10, o_h11, o_h12, o_h15, h18, q19, h24, q25, h34, q35, h38, q39, h44, q45, h46, q47, o_h52])
        refine abr.split (fun h55 => ?_) (fun h55 => ?_)
        ·have q56 : ¬ (v53 = true) := auq h55
         rw [if_neg q56] at hF
         cases hF
         repeat (first | refine chk.ga ?_ | simp -dsimp [h2, q3, o_h, o_h10, o_h11, o_h12, o_h15, h18, q19, h24, q25, h34, q35, h38, q39, h44, q45, h46, q47, o_h52, h55, q56])
         all_goals (try omega)
        ·have q56 : (v53 = true) := auq h55
         rw [if_pos q56] at hF
         repeat (first | refine chk.ga ?_ | simp -dsimp [h2, q3, o_h, o_h10, o_h11, o_h12, o_h15, h18, q19, h24, q25, h34, q35, h38, q39, h44, q45, h46, q47, o_h52, h55, q56])
         have hF := ob hF; obtain ⟨v57, e58, hF⟩ := hF
         refine ((C.laws_heldIntS B hB1 hB2 v40.1 (1 : Int) v57 e58)).lend (by first | simp -dsimp [h2, q3, o_h, o_h10, o_h11, o_h12, o_h15, h18, q19, h24, q25, h34, q35, h38, q39, h44, q45, h46, q47, o_h52, h55, q56]; done | simp_all) (by simp -dsimp) ?_
         repeat (first | refine chk.ga ?_ | simp -dsimp [h2, q3, o_h, o_h10, o_h11, o_h12, o_h15, h18, q19, h24, q25, h34, q35, h38, q39, h44, q45, h46, q47, o_h52, h55, q56])
         refine abr.split (fun h59 => ?_) (fun h59 => ?_)
         ·have q60 : (v57 < 0) := auq h59
          rw [if_pos q60] at hF
          cases hF
          repeat (first | refine chk.ga ?_ | simp -dsimp [h2, q3, o_h, o_h10, o_h11, o_h12, o_h15, h18, q19, h24, q25, h34, q35, h38, q39, h44, q45, h46, q47, o_h52, h55, q56, h59])
          all_goals (try omega)
         ·have q60 : ¬ (v57 < 0) := auq h59
          rw [if_neg q60] at hF
          repeat (first | refine chk.ga ?_ | simp -dsimp [h2, q3, o_h, o_h10, o_h11, o_h12, o_h15, h18, q19, h24, q25, h34, q35, h38, q39, h44, q45, h46, q47, o_h52, h55, q56, h59, q60])
          refine abr.split (fun h61 => ?_) (fun h61 => ?_)
          ·have q62 : ¬ (v57 = v40.2) := auq h61
           rw [if_neg q62] at hF
           cases hF
           repeat (first | refine chk.ga ?_ | simp -dsimp [h2, q3, o_h, o_h10, o_h11, o_h12, o_h15, h18, q19, h24, q25, h34, q35, h38, q39, h44, q45, h46, q47, o_h52, h55, q56, h59, q60, h61, q62])
           all_goals (try omega)
          ·have q62 : (v57 = v40.2) := auq h61
           rw [if_pos q62] at hF
           cases hF
           repeat (first | refine chk.ga ?_ | simp -dsimp [h2, q3, o_h, o_h10, o_h11, o_h12, o_h15, h18, q19, h24, q25, h34, q35, h38, q39, h44, q45, h46, q47, o_h52, h55, q56, h59, q60, h61, q62])
           all_goals (try omega)
    ·have q35 : (v32.2 < 0) := auq h34
     rw [if_pos q35] at hF
     cases hF
     repeat (first | refine chk.ga ?_ | simp -dsimp [h2, q3, o_h, o_h10, o_h11, o_h12, o_h15, h18, q19, h24, q25, h34, q35])
     all_goals (try omega)

end Go.Proofs.Ytoacjahdkkdffaa
