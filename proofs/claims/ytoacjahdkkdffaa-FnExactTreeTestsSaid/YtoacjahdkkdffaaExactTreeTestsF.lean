/- The functions of the program as Lean functions (printed by gen.py). -/
import Derived.Test.YtoacjahdkkdffaaVlG
import Derived.Test.YtoacjahdkkdffaaVlMut
set_option linter.unusedVariables false
set_option linter.unusedSimpArgs false
set_option linter.unusedVariables false
namespace Go.Vl
open Go

def F.laws_szIntS (a : List Int) (left' : Int) : Option (Int) :=
  if IntKind.i64.wrap (left' - (a.length : Int)) < 0 then
    some (-1 : Int)
  else
    some (IntKind.i64.wrap (left' - (a.length : Int)))

def F.laws_szPathBind (a : Vl.PathBind) (left' : Int) : Option (Int) :=
  (F.laws_szIntS a.path left') >>= fun v =>
  if v < 0 then
    some (-1 : Int)
  else
    some v

def F.laws_szPathBindS_l1 (a : List Vl.PathBind) (left'3 : Int) (i : Nat) : Option (Lo Int Int) :=
  if i < a.length then
    (a[i]?) >>= fun x =>
    (F.laws_szPathBind x left'3) >>= fun v =>
    if v < 0 then
      some (.ret (-1 : Int))
    else
      F.laws_szPathBindS_l1 a v (i + 1)
  else
    some (.go left'3)
  partial_fixpoint

def F.laws_szPathBindS (a : List Vl.PathBind) (left' : Int) : Option (Int) :=
  if IntKind.i64.wrap (left' - (a.length : Int)) < 0 then
    some (-1 : Int)
  else
    (F.laws_szPathBindS_l1 a (IntKind.i64.wrap (left' - (a.length : Int))) 0) >>= fun o =>
    match o with
    | .ret r0 => some r0
    | .go s =>
      some s

mutual
def F.laws_szBranch (a : Vl.Branch) (left' : Int) : Option (Int) :=
  (F.laws_szTree a.tree left') >>= fun v =>
  if v < 0 then
    some (-1 : Int)
  else
    some v
  partial_fixpoint
def F.laws_szBranchS (a : List Vl.Branch) (left' : Int) : Option (Int) :=
  if IntKind.i64.wrap (left' - (a.length : Int)) < 0 then
    some (-1 : Int)
  else
    (F.laws_szBranchS_l1 a (IntKind.i64.wrap (left' - (a.length : Int))) 0) >>= fun o =>
    match o with
    | .ret r0 => some r0
    | .go s =>
      some s
  partial_fixpoint
def F.laws_szTree (a : Vl.Tree) (left' : Int) : Option (Int) :=
  (F.laws_szPathBindS a.binds left') >>= fun v =>
  if v < 0 then
    some (-1 : Int)
  else
    (F.laws_szIntS a.path v) >>= fun v4 =>
    if v4 < 0 then
      some (-1 : Int)
    else
      (F.laws_szBranchS a.branches v4) >>= fun v8 =>
      if v8 < 0 then
        some (-1 : Int)
      else
        (F.laws_szTreeS a.els v8) >>= fun v12 =>
        if v12 < 0 then
          some (-1 : Int)
        else
          some v12
  partial_fixpoint
def F.laws_szTreeS (a : List Vl.Tree) (left' : Int) : Option (Int) :=
  if IntKind.i64.wrap (left' - (a.length : Int)) < 0 then
    some (-1 : Int)
  else
    (F.laws_szTreeS_l1 a (IntKind.i64.wrap (left' - (a.length : Int))) 0) >>= fun o =>
    match o with
    | .ret r0 => some r0
    | .go s =>
      some s
  partial_fixpoint
def F.laws_szBranchS_l1 (a : List Vl.Branch) (left'3 : Int) (i : Nat) : Option (Lo Int Int) :=
  if i < a.length then
    (a[i]?) >>= fun x =>
    (F.laws_szBranch x left'3) >>= fun v =>
    if v < 0 then
      some (.ret (-1 : Int))
    else
      F.laws_szBranchS_l1 a v (i + 1)
  else
    some (.go left'3)
  partial_fixpoint
def F.laws_szTreeS_l1 (a : List Vl.Tree) (left'3 : Int) (i : Nat) : Option (Lo Int Int) :=
  if i < a.length then
    (a[i]?) >>= fun x =>
    (F.laws_szTree x left'3) >>= fun v =>
    if v < 0 then
      some (.ret (-1 : Int))
    else
      F.laws_szTreeS_l1 a v (i + 1)
  else
    some (.go left'3)
  partial_fixpoint
end

def F.laws_toIntS_l1 (a : List Int) (out : List Int) (i : Nat) : Option (List Int) :=
  if i < a.length then
    (a[i]?) >>= fun x =>
    (out[i]?) >>= fun x6 =>
    F.laws_toIntS_l1 a (out.set i x) (i + 1)
  else
    some out
  partial_fixpoint

def F.laws_toIntS (a : List Int) : Option (List Int) :=
  if a.length ≤ 67108864 then
    (F.laws_toIntS_l1 a (List.replicate a.length (0 : Int)) 0) >>= fun o =>
    some o
  else none

def F.laws_toPathBind (a : Vl.PathBind) : Option (Vl.PathBind) :=
  (F.laws_toIntS a.path) >>= fun v =>
  some (⟨a.var, v⟩ : Vl.PathBind)

def F.laws_toPathBindS_l1 (a : List Vl.PathBind) (out : List Vl.PathBind) (i : Nat) : Option (List Vl.PathBind) :=
  if i < a.length then
    (a[i]?) >>= fun x =>
    (F.laws_toPathBind x) >>= fun v =>
    (out[i]?) >>= fun x7 =>
    F.laws_toPathBindS_l1 a (out.set i v) (i + 1)
  else
    some out
  partial_fixpoint

def F.laws_toPathBindS (a : List Vl.PathBind) : Option (List Vl.PathBind) :=
  if a.length ≤ 67108864 then
    (F.laws_toPathBindS_l1 a (List.replicate a.length Vl.PathBind.z) 0) >>= fun o =>
    some o
  else none

mutual
def F.laws_toBranch (a : Vl.Branch) : Option (Vl.Branch) :=
  (F.laws_toTree a.tree) >>= fun v =>
  some (⟨a.ctor, a.n, a.m, v⟩ : Vl.Branch)
  partial_fixpoint
def F.laws_toBranchS (a : List Vl.Branch) : Option (List Vl.Branch) :=
  if a.length ≤ 67108864 then
    (F.laws_toBranchS_l1 a (List.replicate a.length Vl.Branch.z) 0) >>= fun o =>
    some o
  else none
  partial_fixpoint
def F.laws_toTree (a : Vl.Tree) : Option (Vl.Tree) :=
  (F.laws_toPathBindS a.binds) >>= fun v =>
  (F.laws_toIntS a.path) >>= fun v2 =>
  (F.laws_toBranchS a.branches) >>= fun v4 =>
  (F.laws_toTreeS a.els) >>= fun v6 =>
  some (⟨a.op, a.clause, v, v2, v4, v6⟩ : Vl.Tree)
  partial_fixpoint
def F.laws_toTreeS (a : List Vl.Tree) : Option (List Vl.Tree) :=
  if a.length ≤ 67108864 then
    (F.laws_toTreeS_l1 a (List.replicate a.length Vl.Tree.z) 0) >>= fun o =>
    some o
  else none
  partial_fixpoint
def F.laws_toBranchS_l1 (a : List Vl.Branch) (out : List Vl.Branch) (i : Nat) : Option (List Vl.Branch) :=
  if i < a.length then
    (a[i]?) >>= fun x =>
    (F.laws_toBranch x) >>= fun v =>
    (out[i]?) >>= fun x7 =>
    F.laws_toBranchS_l1 a (out.set i v) (i + 1)
  else
    some out
  partial_fixpoint
def F.laws_toTreeS_l1 (a : List Vl.Tree) (out : List Vl.Tree) (i : Nat) : Option (List Vl.Tree) :=
  if i < a.length then
    (a[i]?) >>= fun x =>
    (F.laws_toTree x) >>= fun v =>
    (out[i]?) >>= fun x7 =>
    F.laws_toTreeS_l1 a (out.set i v) (i + 1)
  else
    some out
  partial_fixpoint
end

mutual
def F.spec_TreeTests (x : Vl.Tree) : Option (Int) :=
  (F.spec_TreeTests_l1 x (0 : Int) 0) >>= fun o =>
  (F.spec_TreeTests_l2 x o 0) >>= fun o26 =>
  if x.op = 2 then
    some (IntKind.i64.wrap (o26 + 1))
  else
    some o26
  partial_fixpoint
def F.spec_TreeTests_l1 (x : Vl.Tree) (most : Int) (i : Nat) : Option (Int) :=
  if i < x.branches.length then
    (x.branches[i]?) >>= fun x4 =>
    (F.spec_TreeTests x4.tree) >>= fun v =>
    if most < v then
      F.spec_TreeTests_l1 x v (i + 1)
    else
      F.spec_TreeTests_l1 x most (i + 1)
  else
    some most
  partial_fixpoint
def F.spec_TreeTests_l2 (x : Vl.Tree) (most12 : Int) (i13 : Nat) : Option (Int) :=
  if i13 < x.els.length then
    (x.els[i13]?) >>= fun x17 =>
    (F.spec_TreeTests x17) >>= fun v19 =>
    if most12 < v19 then
      F.spec_TreeTests_l2 x v19 (i13 + 1)
    else
      F.spec_TreeTests_l2 x most12 (i13 + 1)
  else
    some most12
  partial_fixpoint
end

def F.impl_subtrees_l1 (x : Vl.Tree) (out : List Vl.Tree) (i : Nat) : Option (List Vl.Tree) :=
  if i < x.branches.length then
    (x.branches[i]?) >>= fun x4 =>
    if out.length + 1 ≤ 67108864 then
      F.impl_subtrees_l1 x (out ++ [x4.tree]) (i + 1)
    else none
  else
    some out
  partial_fixpoint

def F.impl_subtrees (x : Vl.Tree) : Option (List Vl.Tree) :=
  (F.impl_subtrees_l1 x [] 0) >>= fun o =>
  if o.length + x.els.length ≤ 67108864 then
    some (o ++ x.els)
  else none

mutual
def F.impl_TreeTests (x : Vl.Tree) : Option (Int) :=
  (F.impl_subtrees x) >>= fun v =>
  (F.impl_TreeTests_l1 x v (0 : Int) 0) >>= fun o =>
  if x.op = 2 then
    some (IntKind.i64.wrap (o + 1))
  else
    some o
  partial_fixpoint
def F.impl_TreeTests_l1 (x : Vl.Tree) (v : List Vl.Tree) (n : Int) (i : Nat) : Option (Int) :=
  if i < v.length then
    (v[i]?) >>= fun x5 =>
    (F.impl_TreeTests x5) >>= fun v7 =>
    F.impl_TreeTests_l1 x v (if v7 > n then v7 else n) (i + 1)
  else
    some n
  partial_fixpoint
end

def F.laws_eqIntS_l1 (a : List Int) (b : List Int) (i : Nat) : Option (Lo Bool Unit) :=
  if i < a.length then
    (a[i]?) >>= fun x =>
    (b[i]?) >>= fun x8 =>
    if x = x8 then
      F.laws_eqIntS_l1 a b (i + 1)
    else
      some (.ret false)
  else
    some (.go ())
  partial_fixpoint

def F.laws_eqIntS (a : List Int) (b : List Int) : Option (Bool) :=
  if a.length = b.length then
    (F.laws_eqIntS_l1 a b 0) >>= fun o =>
    match o with
    | .ret r0 => some r0
    | .go s =>
      some true
  else
    some false

def F.laws_eqPathBind (a : Vl.PathBind) (b : Vl.PathBind) : Option (Bool) :=
  if a.var = b.var then
    (F.laws_eqIntS a.path b.path) >>= fun v =>
    if v = true then
      some true
    else
      some false
  else
    some false

def F.laws_eqPathBindS_l1 (a : List Vl.PathBind) (b : List Vl.PathBind) (i : Nat) : Option (Lo Bool Unit) :=
  if i < a.length then
    (a[i]?) >>= fun x =>
    (b[i]?) >>= fun x8 =>
    (F.laws_eqPathBind x x8) >>= fun v =>
    if v = true then
      F.laws_eqPathBindS_l1 a b (i + 1)
    else
      some (.ret false)
  else
    some (.go ())
  partial_fixpoint

def F.laws_eqPathBindS (a : List Vl.PathBind) (b : List Vl.PathBind) : Option (Bool) :=
  if a.length = b.length then
    (F.laws_eqPathBindS_l1 a b 0) >>= fun o =>
    match o with
    | .ret r0 => some r0
    | .go s =>
      some true
  else
    some false

mutual
def F.laws_eqBranch (a : Vl.Branch) (b : Vl.Branch) : Option (Bool) :=
  if a.ctor = b.ctor then
    if a.n = b.n then
      if a.m = b.m then
        (F.laws_eqTree a.tree b.tree) >>= fun v =>
        if v = true then
          some true
        else
          some false
      else
        some false
    else
      some false
  else
    some false
  partial_fixpoint
def F.laws_eqBranchS (a : List Vl.Branch) (b : List Vl.Branch) : Option (Bool) :=
  if a.length = b.length then
    (F.laws_eqBranchS_l1 a b 0) >>= fun o =>
    match o with
    | .ret r0 => some r0
    | .go s =>
      some true
  else
    some false
  partial_fixpoint
def F.laws_eqTree (a : Vl.Tree) (b : Vl.Tree) : Option (Bool) :=
  if a.op = b.op then
    if a.clause = b.clause then
      (F.laws_eqPathBindS a.binds b.binds) >>= fun v =>
      if v = true then
        (F.laws_eqIntS a.path b.path) >>= fun v8 =>
        if v8 = true then
          (F.laws_eqBranchS a.branches b.branches) >>= fun v12 =>
          if v12 = true then
            (F.laws_eqTreeS a.els b.els) >>= fun v16 =>
            if v16 = true then
              some true
            else
              some false
          else
            some false
        else
          some false
      else
        some false
    else
      some false
  else
    some false
  partial_fixpoint
def F.laws_eqTreeS (a : List Vl.Tree) (b : List Vl.Tree) : Option (Bool) :=
  if a.length = b.length then
    (F.laws_eqTreeS_l1 a b 0) >>= fun o =>
    match o with
    | .ret r0 => some r0
    | .go s =>
      some true
  else
    some false
  partial_fixpoint
def F.laws_eqBranchS_l1 (a : List Vl.Branch) (b : List Vl.Branch) (i : Nat) : Option (Lo Bool Unit) :=
  if i < a.length then
    (a[i]?) >>= fun x =>
    (b[i]?) >>= fun x8 =>
    (F.laws_eqBranch x x8) >>= fun v =>
    if v = true then
      F.laws_eqBranchS_l1 a b (i + 1)
    else
      some (.ret false)
  else
    some (.go ())
  partial_fixpoint
def F.laws_eqTreeS_l1 (a : List Vl.Tree) (b : List Vl.Tree) (i : Nat) : Option (Lo Bool Unit) :=
  if i < a.length then
    (a[i]?) >>= fun x =>
    (b[i]?) >>= fun x8 =>
    (F.laws_eqTree x x8) >>= fun v =>
    if v = true then
      F.laws_eqTreeS_l1 a b (i + 1)
    else
      some (.ret false)
  else
    some (.go ())
  partial_fixpoint
end

def F.laws_FnExactTreeTests (aX : Vl.Tree) : Option (Bool) :=
  (F.laws_szTree aX (1048576 : Int)) >>= fun v =>
  if v < 0 then
    some true
  else
    (F.laws_toTree aX) >>= fun v4 =>
    (F.spec_TreeTests v4) >>= fun v6 =>
    (F.laws_toTree aX) >>= fun v8 =>
    (F.impl_TreeTests v8) >>= fun v10 =>
    if v10 = v6 then
      (F.laws_toTree aX) >>= fun v14 =>
      (F.laws_eqTree v8 v14) >>= fun v16 =>
      if v16 = true then
        some true
      else
        some false
    else
      some false
end Go.Vl
