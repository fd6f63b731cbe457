/- The functions of the program as Lean functions (printed by gen.py). -/
import Derived.Test.YtoacjahdkkdffaaVlG
import Derived.Test.YtoacjahdkkdffaaVlDraw3
import Derived.Test.YtoacjahdkkdffaaVlFa
import Derived.Test.YtoacjahdkkdffaaVlSplit
import Derived.Test.YtoacjahdkkdffaaVlDeep
import Derived.Test.YtoacjahdkkdffaaVlMk
import Derived.Test.YtoacjahdkkdffaaVlDrawN
set_option linter.unusedVariables false
set_option linter.unusedSimpArgs false
set_option linter.unusedVariables false
namespace Go.Vl
open Go
noncomputable section

def F.laws_szIntS (a : List Int) (left' : Int) : Option (Int) :=
  if IntKind.i64.wrap (left' - (a.length : Int)) < 0 then
    some (-1 : Int)
  else
    some (IntKind.i64.wrap (left' - (a.length : Int)))

def F.laws_szPathBind (a : Vl.PathBind) (left' : Int) : Option (Int) :=
  (F.laws_szIntS a.path left') >>= fun v =>
  if v < 0 then
    some (-1 : Int)
  else
    some v

def F.laws_szPathBindS_l1 (a : List Vl.PathBind) (left'3 : Int) (i : Nat) : Option (Lo Int Int) :=
  if i < a.length then
    (a[i]?) >>= fun x =>
    (F.laws_szPathBind x left'3) >>= fun v =>
    if v < 0 then
      some (.ret (-1 : Int))
    else
      F.laws_szPathBindS_l1 a v (i + 1)
  else
    some (.go left'3)
  partial_fixpoint

def F.laws_szPathBindS (a : List Vl.PathBind) (left' : Int) : Option (Int) :=
  if IntKind.i64.wrap (left' - (a.length : Int)) < 0 then
    some (-1 : Int)
  else
    (F.laws_szPathBindS_l1 a (IntKind.i64.wrap (left' - (a.length : Int))) 0) >>= fun o' =>
    match o' with
    | .ret r0 => some r0
    | .go sx =>
      some sx

mutual
def F.laws_szBranch (a : Vl.Branch) (left' : Int) : Option (Int) :=
  (F.laws_szTree a.tree left') >>= fun v =>
  if v < 0 then
    some (-1 : Int)
  else
    some v
  partial_fixpoint
def F.laws_szBranchS (a : List Vl.Branch) (left' : Int) : Option (Int) :=
  if IntKind.i64.wrap (left' - (a.length : Int)) < 0 then
    some (-1 : Int)
  else
    (F.laws_szBranchS_l1 a (IntKind.i64.wrap (left' - (a.length : Int))) 0) >>= fun o' =>
    match o' with
    | .ret r0 => some r0
    | .go sx =>
      some sx
  partial_fixpoint
def F.laws_szTree (a : Vl.Tree) (left' : Int) : Option (Int) :=
  (F.laws_szPathBindS a.binds left') >>= fun v =>
  if v < 0 then
    some (-1 : Int)
  else
    (F.laws_szIntS a.path v) >>= fun v4 =>
    if v4 < 0 then
      some (-1 : Int)
    else
      (F.laws_szBranchS a.branches v4) >>= fun v8 =>
      if v8 < 0 then
        some (-1 : Int)
      else
        (F.laws_szTreeS a.els v8) >>= fun v12 =>
        if v12 < 0 then
          some (-1 : Int)
        else
          some v12
  partial_fixpoint
def F.laws_szTreeS (a : List Vl.Tree) (left' : Int) : Option (Int) :=
  if IntKind.i64.wrap (left' - (a.length : Int)) < 0 then
    some (-1 : Int)
  else
    (F.laws_szTreeS_l1 a (IntKind.i64.wrap (left' - (a.length : Int))) 0) >>= fun o' =>
    match o' with
    | .ret r0 => some r0
    | .go sx =>
      some sx
  partial_fixpoint
def F.laws_szBranchS_l1 (a : List Vl.Branch) (left'3 : Int) (i : Nat) : Option (Lo Int Int) :=
  if i < a.length then
    (a[i]?) >>= fun x =>
    (F.laws_szBranch x left'3) >>= fun v =>
    if v < 0 then
      some (.ret (-1 : Int))
    else
      F.laws_szBranchS_l1 a v (i + 1)
  else
    some (.go left'3)
  partial_fixpoint
def F.laws_szTreeS_l1 (a : List Vl.Tree) (left'3 : Int) (i : Nat) : Option (Lo Int Int) :=
  if i < a.length then
    (a[i]?) >>= fun x =>
    (F.laws_szTree x left'3) >>= fun v =>
    if v < 0 then
      some (.ret (-1 : Int))
    else
      F.laws_szTreeS_l1 a v (i + 1)
  else
    some (.go left'3)
  partial_fixpoint
end

def F.laws_toIntS_l1 (a : List Int) (out : List Int) (i : Nat) : Option (List Int) :=
  if i < a.length then
    (a[i]?) >>= fun x =>
    (out[i]?) >>= fun x6 =>
    F.laws_toIntS_l1 a (out.set i x) (i + 1)
  else
    some out
  partial_fixpoint

def F.laws_toIntS (a : List Int) : Option (List Int) :=
  if a.length ≤ 67108864 then
    (F.laws_toIntS_l1 a (List.replicate a.length (0 : Int)) 0) >>= fun o' =>
    some o'
  else none

def F.laws_toPathBind (a : Vl.PathBind) : Option (Vl.PathBind) :=
  (F.laws_toIntS a.path) >>= fun v =>
  some (⟨a.var, v⟩ : Vl.PathBind)

def F.laws_toPathBindS_l1 (a : List Vl.PathBind) (out : List Vl.PathBind) (i : Nat) : Option (List Vl.PathBind) :=
  if i < a.length then
    (a[i]?) >>= fun x =>
    (F.laws_toPathBind x) >>= fun v =>
    (out[i]?) >>= fun x7 =>
    F.laws_toPathBindS_l1 a (out.set i v) (i + 1)
  else
    some out
  partial_fixpoint

def F.laws_toPathBindS (a : List Vl.PathBind) : Option (List Vl.PathBind) :=
  if a.length ≤ 67108864 then
    (F.laws_toPathBindS_l1 a (List.replicate a.length Vl.PathBind.z) 0) >>= fun o' =>
    some o'
  else none

mutual
def F.laws_toBranch (a : Vl.Branch) : Option (Vl.Branch) :=
  (F.laws_toTree a.tree) >>= fun v =>
  some (⟨a.ctor, a.n, a.m, v⟩ : Vl.Branch)
  partial_fixpoint
def F.laws_toBranchS (a : List Vl.Branch) : Option (List Vl.Branch) :=
  if a.length ≤ 67108864 then
    (F.laws_toBranchS_l1 a (List.replicate a.length Vl.Branch.z) 0) >>= fun o' =>
    some o'
  else none
  partial_fixpoint
def F.laws_toTree (a : Vl.Tree) : Option (Vl.Tree) :=
  (F.laws_toPathBindS a.binds) >>= fun v =>
  (F.laws_toIntS a.path) >>= fun v2 =>
  (F.laws_toBranchS a.branches) >>= fun v4 =>
  (F.laws_toTreeS a.els) >>= fun v6 =>
  some (⟨a.op, a.clause, v, v2, v4, v6⟩ : Vl.Tree)
  partial_fixpoint
def F.laws_toTreeS (a : List Vl.Tree) : Option (List Vl.Tree) :=
  if a.length ≤ 67108864 then
    (F.laws_toTreeS_l1 a (List.replicate a.length Vl.Tree.z) 0) >>= fun o' =>
    some o'
  else none
  partial_fixpoint
def F.laws_toBranchS_l1 (a : List Vl.Branch) (out : List Vl.Branch) (i : Nat) : Option (List Vl.Branch) :=
  if i < a.length then
    (a[i]?) >>= fun x =>
    (F.laws_toBranch x) >>= fun v =>
    (out[i]?) >>= fun x7 =>
    F.laws_toBranchS_l1 a (out.set i v) (i + 1)
  else
    some out
  partial_fixpoint
def F.laws_toTreeS_l1 (a : List Vl.Tree) (out : List Vl.Tree) (i : Nat) : Option (List Vl.Tree) :=
  if i < a.length then
    (a[i]?) >>= fun x =>
    (F.laws_toTree x) >>= fun v =>
    (out[i]?) >>= fun x7 =>
    F.laws_toTreeS_l1 a (out.set i v) (i + 1)
  else
    some out
  partial_fixpoint
end

mutual
def F.spec_l7Leaves (flags : List Bool) (x : Vl.Tree) : Option (List Bool) :=
  if x.op = 1 then
    if 0 ≤ x.clause then
      if x.clause < (flags.length : Int) then
        (at? flags x.clause) >>= fun x7 =>
        (F.spec_l7Leaves_l1 x (flags.set x.clause.toNat true) 0) >>= fun o' =>
        (F.spec_l7Leaves_l2 x o' 0) >>= fun o'29 =>
        some o'29
      else
        (F.spec_l7Leaves_l3 x flags 0) >>= fun o'41 =>
        (F.spec_l7Leaves_l4 x o'41 0) >>= fun o'53 =>
        some o'53
    else
      (F.spec_l7Leaves_l5 x flags 0) >>= fun o'65 =>
      (F.spec_l7Leaves_l6 x o'65 0) >>= fun o'77 =>
      some o'77
  else
    (F.spec_l7Leaves_l7 x flags 0) >>= fun o'89 =>
    (F.spec_l7Leaves_l8 x o'89 0) >>= fun o'101 =>
    some o'101
  partial_fixpoint
def F.spec_l7Leaves_l1 (x : Vl.Tree) (flags9 : List Bool) (i : Nat) : Option (List Bool) :=
  if i < x.branches.length then
    (x.branches[i]?) >>= fun x13 =>
    (F.spec_l7Leaves flags9 x13.tree) >>= fun v =>
    F.spec_l7Leaves_l1 x v (i + 1)
  else
    some flags9
  partial_fixpoint
def F.spec_l7Leaves_l2 (x : Vl.Tree) (flags18 : List Bool) (i19 : Nat) : Option (List Bool) :=
  if i19 < x.els.length then
    (x.els[i19]?) >>= fun x23 =>
    (F.spec_l7Leaves flags18 x23) >>= fun v25 =>
    F.spec_l7Leaves_l2 x v25 (i19 + 1)
  else
    some flags18
  partial_fixpoint
def F.spec_l7Leaves_l3 (x : Vl.Tree) (flags30 : List Bool) (i31 : Nat) : Option (List Bool) :=
  if i31 < x.branches.length then
    (x.branches[i31]?) >>= fun x35 =>
    (F.spec_l7Leaves flags30 x35.tree) >>= fun v37 =>
    F.spec_l7Leaves_l3 x v37 (i31 + 1)
  else
    some flags30
  partial_fixpoint
def F.spec_l7Leaves_l4 (x : Vl.Tree) (flags42 : List Bool) (i43 : Nat) : Option (List Bool) :=
  if i43 < x.els.length then
    (x.els[i43]?) >>= fun x47 =>
    (F.spec_l7Leaves flags42 x47) >>= fun v49 =>
    F.spec_l7Leaves_l4 x v49 (i43 + 1)
  else
    some flags42
  partial_fixpoint
def F.spec_l7Leaves_l5 (x : Vl.Tree) (flags54 : List Bool) (i55 : Nat) : Option (List Bool) :=
  if i55 < x.branches.length then
    (x.branches[i55]?) >>= fun x59 =>
    (F.spec_l7Leaves flags54 x59.tree) >>= fun v61 =>
    F.spec_l7Leaves_l5 x v61 (i55 + 1)
  else
    some flags54
  partial_fixpoint
def F.spec_l7Leaves_l6 (x : Vl.Tree) (flags66 : List Bool) (i67 : Nat) : Option (List Bool) :=
  if i67 < x.els.length then
    (x.els[i67]?) >>= fun x71 =>
    (F.spec_l7Leaves flags66 x71) >>= fun v73 =>
    F.spec_l7Leaves_l6 x v73 (i67 + 1)
  else
    some flags66
  partial_fixpoint
def F.spec_l7Leaves_l7 (x : Vl.Tree) (flags78 : List Bool) (i79 : Nat) : Option (List Bool) :=
  if i79 < x.branches.length then
    (x.branches[i79]?) >>= fun x83 =>
    (F.spec_l7Leaves flags78 x83.tree) >>= fun v85 =>
    F.spec_l7Leaves_l7 x v85 (i79 + 1)
  else
    some flags78
  partial_fixpoint
def F.spec_l7Leaves_l8 (x : Vl.Tree) (flags90 : List Bool) (i91 : Nat) : Option (List Bool) :=
  if i91 < x.els.length then
    (x.els[i91]?) >>= fun x95 =>
    (F.spec_l7Leaves flags90 x95) >>= fun v97 =>
    F.spec_l7Leaves_l8 x v97 (i91 + 1)
  else
    some flags90
  partial_fixpoint
end

def F.spec_TreeLeaves_l1 (v : List Bool) (out : List Int) (i : Nat) : Option (List Int) :=
  if i < v.length then
    (v[i]?) >>= fun x6 =>
    if x6 = true then
      if out.length + 1 ≤ 67108864 then
        F.spec_TreeLeaves_l1 v (out ++ [(i : Int)]) (i + 1)
      else none
    else
      F.spec_TreeLeaves_l1 v out (i + 1)
  else
    some out
  partial_fixpoint

def F.spec_TreeLeaves (x : Vl.Tree) : Option (List Int) :=
  if 8 ≤ 67108864 then
    (F.spec_l7Leaves (List.replicate 8 false) x) >>= fun v =>
    (F.spec_TreeLeaves_l1 v [] 0) >>= fun o' =>
    some o'
  else none

def F.impl_within (n : Int) (low : Int) (high : Int) : Option (Bool) :=
  if low ≤ n then
    some (decide (n ≤ high))
  else
    some false

def F.impl_subtrees_l1 (x : Vl.Tree) (out : List Vl.Tree) (i : Nat) : Option (List Vl.Tree) :=
  if i < x.branches.length then
    (x.branches[i]?) >>= fun x4 =>
    if out.length + 1 ≤ 67108864 then
      F.impl_subtrees_l1 x (out ++ [x4.tree]) (i + 1)
    else none
  else
    some out
  partial_fixpoint

def F.impl_subtrees (x : Vl.Tree) : Option (List Vl.Tree) :=
  (F.impl_subtrees_l1 x [] 0) >>= fun o' =>
  if o'.length + x.els.length ≤ 67108864 then
    some (o' ++ x.els)
  else none

mutual
def F.impl_leaves (x : Vl.Tree) (set' : Nat → Bool) : Option (Nat → Bool) :=
  if x.op = 1 then
    (F.impl_within x.clause (0 : Int) (7 : Int)) >>= fun v =>
    if v = true then
      if 0 ≤ x.clause ∧ x.clause.toNat < 8 then
        (F.impl_subtrees x) >>= fun v7 =>
        (F.impl_leaves_l1 v7 (updF set' x.clause.toNat true) 0) >>= fun o' =>
        some o'
      else none
    else
      (F.impl_subtrees x) >>= fun v19 =>
      (F.impl_leaves_l2 v19 set' 0) >>= fun o'32 =>
      some o'32
  else
    (F.impl_subtrees x) >>= fun v33 =>
    (F.impl_leaves_l3 v33 set' 0) >>= fun o'46 =>
    some o'46
  partial_fixpoint
def F.impl_leaves_l1 (v7 : List Vl.Tree) (set'9 : Nat → Bool) (i : Nat) : Option (Nat → Bool) :=
  if i < v7.length then
    (v7[i]?) >>= fun x13 =>
    (F.impl_leaves x13 set'9) >>= fun v15 =>
    F.impl_leaves_l1 v7 v15 (i + 1)
  else
    some set'9
  partial_fixpoint
def F.impl_leaves_l2 (v19 : List Vl.Tree) (set'21 : Nat → Bool) (i22 : Nat) : Option (Nat → Bool) :=
  if i22 < v19.length then
    (v19[i22]?) >>= fun x26 =>
    (F.impl_leaves x26 set'21) >>= fun v28 =>
    F.impl_leaves_l2 v19 v28 (i22 + 1)
  else
    some set'21
  partial_fixpoint
def F.impl_leaves_l3 (v33 : List Vl.Tree) (set'35 : Nat → Bool) (i36 : Nat) : Option (Nat → Bool) :=
  if i36 < v33.length then
    (v33[i36]?) >>= fun x40 =>
    (F.impl_leaves x40 set'35) >>= fun v42 =>
    F.impl_leaves_l3 v33 v42 (i36 + 1)
  else
    some set'35
  partial_fixpoint
end

def F.impl_TreeLeaves_l1 (v : Nat → Bool) (i : Nat) (out : List Int) : Option (List Int) :=
  if i < 8 then
    if v i = true then
      if out.length + 1 ≤ 67108864 then
        if i + 1 ≤ 9223372036854775807 then
          F.impl_TreeLeaves_l1 v (i + 1) (out ++ [(i : Int)])
        else none
      else none
    else
      if i + 1 ≤ 9223372036854775807 then
        F.impl_TreeLeaves_l1 v (i + 1) out
      else none
  else
    some out
  partial_fixpoint

def F.impl_TreeLeaves (x : Vl.Tree) : Option (List Int) :=
  (F.impl_leaves x (fun _ => false)) >>= fun v =>
  (F.impl_TreeLeaves_l1 v 0 []) >>= fun o' =>
  some o'

def F.laws_eqIntS_l1 (a : List Int) (b : List Int) (i : Nat) : Option (Lo Bool Unit) :=
  if i < a.length then
    (a[i]?) >>= fun x =>
    (b[i]?) >>= fun x8 =>
    if x = x8 then
      F.laws_eqIntS_l1 a b (i + 1)
    else
      some (.ret false)
  else
    some (.go ())
  partial_fixpoint

def F.laws_eqIntS (a : List Int) (b : List Int) : Option (Bool) :=
  if a.length = b.length then
    (F.laws_eqIntS_l1 a b 0) >>= fun o' =>
    match o' with
    | .ret r0 => some r0
    | .go sx =>
      some true
  else
    some false

def F.laws_eqPathBind (a : Vl.PathBind) (b : Vl.PathBind) : Option (Bool) :=
  if a.var = b.var then
    (F.laws_eqIntS a.path b.path) >>= fun v =>
    if v = true then
      some true
    else
      some false
  else
    some false

def F.laws_eqPathBindS_l1 (a : List Vl.PathBind) (b : List Vl.PathBind) (i : Nat) : Option (Lo Bool Unit) :=
  if i < a.length then
    (a[i]?) >>= fun x =>
    (b[i]?) >>= fun x8 =>
    (F.laws_eqPathBind x x8) >>= fun v =>
    if v = true then
      F.laws_eqPathBindS_l1 a b (i + 1)
    else
      some (.ret false)
  else
    some (.go ())
  partial_fixpoint

def F.laws_eqPathBindS (a : List Vl.PathBind) (b : List Vl.PathBind) : Option (Bool) :=
  if a.length = b.length then
    (F.laws_eqPathBindS_l1 a b 0) >>= fun o' =>
    match o' with
    | .ret r0 => some r0
    | .go sx =>
      some true
  else
    some false

mutual
def F.laws_eqBranch (a : Vl.Branch) (b : Vl.Branch) : Option (Bool) :=
  if a.ctor = b.ctor then
    if a.n = b.n then
      if a.m = b.m then
        (F.laws_eqTree a.tree b.tree) >>= fun v =>
        if v = true then
          some true
        else
          some false
      else
        some false
    else
      some false
  else
    some false
  partial_fixpoint
def F.laws_eqBranchS (a : List Vl.Branch) (b : List Vl.Branch) : Option (Bool) :=
  if a.length = b.length then
    (F.laws_eqBranchS_l1 a b 0) >>= fun o' =>
    match o' with
    | .ret r0 => some r0
    | .go sx =>
      some true
  else
    some false
  partial_fixpoint
def F.laws_eqTree (a : Vl.Tree) (b : Vl.Tree) : Option (Bool) :=
  if a.op = b.op then
    if a.clause = b.clause then
      (F.laws_eqPathBindS a.binds b.binds) >>= fun v =>
      if v = true then
        (F.laws_eqIntS a.path b.path) >>= fun v8 =>
        if v8 = true then
          (F.laws_eqBranchS a.branches b.branches) >>= fun v12 =>
          if v12 = true then
            (F.laws_eqTreeS a.els b.els) >>= fun v16 =>
            if v16 = true then
              some true
            else
              some false
          else
            some false
        else
          some false
      else
        some false
    else
      some false
  else
    some false
  partial_fixpoint
def F.laws_eqTreeS (a : List Vl.Tree) (b : List Vl.Tree) : Option (Bool) :=
  if a.length = b.length then
    (F.laws_eqTreeS_l1 a b 0) >>= fun o' =>
    match o' with
    | .ret r0 => some r0
    | .go sx =>
      some true
  else
    some false
  partial_fixpoint
def F.laws_eqBranchS_l1 (a : List Vl.Branch) (b : List Vl.Branch) (i : Nat) : Option (Lo Bool Unit) :=
  if i < a.length then
    (a[i]?) >>= fun x =>
    (b[i]?) >>= fun x8 =>
    (F.laws_eqBranch x x8) >>= fun v =>
    if v = true then
      F.laws_eqBranchS_l1 a b (i + 1)
    else
      some (.ret false)
  else
    some (.go ())
  partial_fixpoint
def F.laws_eqTreeS_l1 (a : List Vl.Tree) (b : List Vl.Tree) (i : Nat) : Option (Lo Bool Unit) :=
  if i < a.length then
    (a[i]?) >>= fun x =>
    (b[i]?) >>= fun x8 =>
    (F.laws_eqTree x x8) >>= fun v =>
    if v = true then
      F.laws_eqTreeS_l1 a b (i + 1)
    else
      some (.ret false)
  else
    some (.go ())
  partial_fixpoint
end

def F.laws_heldIntS_l1 (a : List Int) (k1 : Int) (i : Nat) : Option (Lo Int Int) :=
  if i < a.length then
    (a[i]?) >>= fun x =>
    if x = k1 then
      F.laws_heldIntS_l1 a (IntKind.i64.wrap (k1 + 1)) (i + 1)
    else
      some (.ret (-1 : Int))
  else
    some (.go k1)
  partial_fixpoint

def F.laws_heldIntS (a : List Int) (k : Int) : Option (Int) :=
  (F.laws_heldIntS_l1 a k 0) >>= fun o' =>
  match o' with
  | .ret r0 => some r0
  | .go sx =>
    some sx

def F.laws_markIntS (a : List Int) (k : Int) : Option (List Int × Int) := some (mkI a k)

def F.laws_markPathBindS (a : List Vl.PathBind) (k : Int) : Option (List Vl.PathBind × Int) := some (Vl.PathBind.mkL a k)

def F.laws_markBranchS (a : List Vl.Branch) (k : Int) : Option (List Vl.Branch × Int) := some (Vl.Branch.mkL a k)

def F.laws_markTreeS (a : List Vl.Tree) (k : Int) : Option (List Vl.Tree × Int) := some (Vl.Tree.mkL a k)

def F.laws_FnExactTreeLeaves (aX : Vl.Tree) : Option (Bool) :=
  (F.laws_szTree aX (1048576 : Int)) >>= fun v =>
  if v < 0 then
    some true
  else
    (F.laws_toTree aX) >>= fun v4 =>
    (F.spec_TreeLeaves v4) >>= fun v6 =>
    (F.laws_toTree aX) >>= fun v8 =>
    (F.impl_TreeLeaves v8) >>= fun v13 =>
    (F.laws_eqIntS v13 v6) >>= fun v16 =>
    if v16 = true then
      (F.laws_toTree aX) >>= fun v20 =>
      (F.laws_eqTree v8 v20) >>= fun v22 =>
      if v22 = true then
        (F.laws_markPathBindS v8.binds 1) >>= fun v26 =>
        (F.laws_markIntS v8.path v26.2) >>= fun v28 =>
        (F.laws_markBranchS v8.branches v28.2) >>= fun v30 =>
        (F.laws_markTreeS v8.els v30.2) >>= fun v32 =>
        if v32.2 < 0 then
          some false
        else
          (F.laws_eqIntS v13 v6) >>= fun v36 =>
          if v36 = true then
            (F.laws_markIntS v13 1) >>= fun v40 =>
            (F.laws_heldIntS v40.1 (1 : Int)) >>= fun v42 =>
            if v42 < 0 then
              some false
            else
              if v42 = v40.2 then
                (F.laws_toTree aX) >>= fun v48 =>
                (F.impl_TreeLeaves v48) >>= fun v50 =>
                (F.laws_eqIntS v50 v6) >>= fun v53 =>
                if v53 = true then
                  (F.laws_heldIntS v40.1 (1 : Int)) >>= fun v57 =>
                  if v57 < 0 then
                    some false
                  else
                    if v57 = v40.2 then
                      some true
                    else
                      some false
                else
                  some false
              else
                some false
          else
            some false
      else
        some false
    else
      some false
end
end Go.Vl
