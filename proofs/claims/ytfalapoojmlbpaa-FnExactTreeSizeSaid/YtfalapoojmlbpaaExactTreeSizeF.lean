/- The functions of the program as Lean functions (printed by gen.py). -/
import Derived.Test.YtfalapoojmlbpaaVlG
set_option linter.unusedVariables false
namespace Go.Vl
open Go

def F.laws_szIntS (a : List Int) (left' : Int) : Option (Int) :=
  if IntKind.i64.wrap (left' - (a.length : Int)) < 0 then
    some (-1 : Int)
  else
    some (IntKind.i64.wrap (left' - (a.length : Int)))

def F.laws_szPathBind (a : PathBind) (left' : Int) : Option (Int) :=
  (F.laws_szIntS a.path left') >>= fun v =>
  if v < 0 then
    some (-1 : Int)
  else
    some v

def F.laws_szPathBindS_l1 (a : List PathBind) (left'3 : Int) (i : Nat) : Option (Lo Int Int) :=
  if i < a.length then
    (a[i]?) >>= fun x =>
    (F.laws_szPathBind x left'3) >>= fun v =>
    if v < 0 then
      some (.ret (-1 : Int))
    else
      F.laws_szPathBindS_l1 a v (i + 1)
  else
    some (.go left'3)
  partial_fixpoint

def F.laws_szPathBindS (a : List PathBind) (left' : Int) : Option (Int) :=
  if IntKind.i64.wrap (left' - (a.length : Int)) < 0 then
    some (-1 : Int)
  else
    (F.laws_szPathBindS_l1 a (IntKind.i64.wrap (left' - (a.length : Int))) 0) >>= fun o =>
    match o with
    | .ret r0 => some r0
    | .go s =>
      some s

mutual
def F.laws_szBranch (a : Branch) (left' : Int) : Option (Int) :=
  (F.laws_szTree a.tree left') >>= fun v =>
  if v < 0 then
    some (-1 : Int)
  else
    some v
  partial_fixpoint
def F.laws_szBranchS (a : List Branch) (left' : Int) : Option (Int) :=
  if IntKind.i64.wrap (left' - (a.length : Int)) < 0 then
    some (-1 : Int)
  else
    (F.laws_szBranchS_l1 a (IntKind.i64.wrap (left' - (a.length : Int))) 0) >>= fun o =>
    match o with
    | .ret r0 => some r0
    | .go s =>
      some s
  partial_fixpoint
def F.laws_szTree (a : Tree) (left' : Int) : Option (Int) :=
  (F.laws_szPathBindS a.binds left') >>= fun v =>
  if v < 0 then
    some (-1 : Int)
  else
    (F.laws_szIntS a.path v) >>= fun v4 =>
    if v4 < 0 then
      some (-1 : Int)
    else
      (F.laws_szBranchS a.branches v4) >>= fun v8 =>
      if v8 < 0 then
        some (-1 : Int)
      else
        (F.laws_szTreeS a.els v8) >>= fun v12 =>
        if v12 < 0 then
          some (-1 : Int)
        else
          some v12
  partial_fixpoint
def F.laws_szTreeS (a : List Tree) (left' : Int) : Option (Int) :=
  if IntKind.i64.wrap (left' - (a.length : Int)) < 0 then
    some (-1 : Int)
  else
    (F.laws_szTreeS_l1 a (IntKind.i64.wrap (left' - (a.length : Int))) 0) >>= fun o =>
    match o with
    | .ret r0 => some r0
    | .go s =>
      some s
  partial_fixpoint
def F.laws_szBranchS_l1 (a : List Branch) (left'3 : Int) (i : Nat) : Option (Lo Int Int) :=
  if i < a.length then
    (a[i]?) >>= fun x =>
    (F.laws_szBranch x left'3) >>= fun v =>
    if v < 0 then
      some (.ret (-1 : Int))
    else
      F.laws_szBranchS_l1 a v (i + 1)
  else
    some (.go left'3)
  partial_fixpoint
def F.laws_szTreeS_l1 (a : List Tree) (left'3 : Int) (i : Nat) : Option (Lo Int Int) :=
  if i < a.length then
    (a[i]?) >>= fun x =>
    (F.laws_szTree x left'3) >>= fun v =>
    if v < 0 then
      some (.ret (-1 : Int))
    else
      F.laws_szTreeS_l1 a v (i + 1)
  else
    some (.go left'3)
  partial_fixpoint
end

def F.laws_toIntS_l1 (a : List Int) (out : List Int) (i : Nat) : Option (List Int) :=
  if i < a.length then
    (a[i]?) >>= fun x =>
    (out[i]?) >>= fun x5 =>
    F.laws_toIntS_l1 a (out.set i x) (i + 1)
  else
    some out
  partial_fixpoint

def F.laws_toIntS (a : List Int) : Option (List Int) :=
  if a.length ≤ 67108864 then
    (F.laws_toIntS_l1 a (List.replicate a.length (0 : Int)) 0) >>= fun o =>
    some o
  else none

def F.laws_toPathBind (a : PathBind) : Option (PathBind) :=
  (F.laws_toIntS a.path) >>= fun v =>
  some (⟨a.var, v⟩ : PathBind)

def F.laws_toPathBindS_l1 (a : List PathBind) (out : List PathBind) (i : Nat) : Option (List PathBind) :=
  if i < a.length then
    (a[i]?) >>= fun x =>
    (F.laws_toPathBind x) >>= fun v =>
    (out[i]?) >>= fun x6 =>
    F.laws_toPathBindS_l1 a (out.set i v) (i + 1)
  else
    some out
  partial_fixpoint

def F.laws_toPathBindS (a : List PathBind) : Option (List PathBind) :=
  if a.length ≤ 67108864 then
    (F.laws_toPathBindS_l1 a (List.replicate a.length PathBind.z) 0) >>= fun o =>
    some o
  else none

mutual
def F.laws_toBranch (a : Branch) : Option (Branch) :=
  (F.laws_toTree a.tree) >>= fun v =>
  some (⟨a.ctor, a.n, a.m, v⟩ : Branch)
  partial_fixpoint
def F.laws_toBranchS (a : List Branch) : Option (List Branch) :=
  if a.length ≤ 67108864 then
    (F.laws_toBranchS_l1 a (List.replicate a.length Branch.z) 0) >>= fun o =>
    some o
  else none
  partial_fixpoint
def F.laws_toTree (a : Tree) : Option (Tree) :=
  (F.laws_toPathBindS a.binds) >>= fun v =>
  (F.laws_toIntS a.path) >>= fun v2 =>
  (F.laws_toBranchS a.branches) >>= fun v4 =>
  (F.laws_toTreeS a.els) >>= fun v6 =>
  some (⟨a.op, a.clause, v, v2, v4, v6⟩ : Tree)
  partial_fixpoint
def F.laws_toTreeS (a : List Tree) : Option (List Tree) :=
  if a.length ≤ 67108864 then
    (F.laws_toTreeS_l1 a (List.replicate a.length Tree.z) 0) >>= fun o =>
    some o
  else none
  partial_fixpoint
def F.laws_toBranchS_l1 (a : List Branch) (out : List Branch) (i : Nat) : Option (List Branch) :=
  if i < a.length then
    (a[i]?) >>= fun x =>
    (F.laws_toBranch x) >>= fun v =>
    (out[i]?) >>= fun x6 =>
    F.laws_toBranchS_l1 a (out.set i v) (i + 1)
  else
    some out
  partial_fixpoint
def F.laws_toTreeS_l1 (a : List Tree) (out : List Tree) (i : Nat) : Option (List Tree) :=
  if i < a.length then
    (a[i]?) >>= fun x =>
    (F.laws_toTree x) >>= fun v =>
    (out[i]?) >>= fun x6 =>
    F.laws_toTreeS_l1 a (out.set i v) (i + 1)
  else
    some out
  partial_fixpoint
end

mutual
def F.spec_TreeSize (x : Tree) : Option (Int) :=
  (F.spec_TreeSize_l1 x (1 : Int) 0) >>= fun o =>
  (F.spec_TreeSize_l2 x o 0) >>= fun o18 =>
  some o18
  partial_fixpoint
def F.spec_TreeSize_l1 (x : Tree) (n : Int) (i : Nat) : Option (Int) :=
  if i < x.branches.length then
    (x.branches[i]?) >>= fun x3 =>
    (F.spec_TreeSize x3.tree) >>= fun v =>
    F.spec_TreeSize_l1 x (IntKind.i64.wrap (n + v)) (i + 1)
  else
    some n
  partial_fixpoint
def F.spec_TreeSize_l2 (x : Tree) (n8 : Int) (i9 : Nat) : Option (Int) :=
  if i9 < x.els.length then
    (x.els[i9]?) >>= fun x12 =>
    (F.spec_TreeSize x12) >>= fun v14 =>
    F.spec_TreeSize_l2 x (IntKind.i64.wrap (n8 + v14)) (i9 + 1)
  else
    some n8
  partial_fixpoint
end

def F.impl_subtrees_l1 (x : Tree) (out : List Tree) (i : Nat) : Option (List Tree) :=
  if i < x.branches.length then
    (x.branches[i]?) >>= fun x3 =>
    if out.length + 1 ≤ 67108864 then
      F.impl_subtrees_l1 x (out ++ [x3.tree]) (i + 1)
    else none
  else
    some out
  partial_fixpoint

def F.impl_subtrees (x : Tree) : Option (List Tree) :=
  (F.impl_subtrees_l1 x [] 0) >>= fun o =>
  if o.length + x.els.length ≤ 67108864 then
    some (o ++ x.els)
  else none

mutual
def F.impl_TreeSize (x : Tree) : Option (Int) :=
  (F.impl_subtrees x) >>= fun v =>
  (F.impl_TreeSize_l1 v (1 : Int) 0) >>= fun o =>
  some o
  partial_fixpoint
def F.impl_TreeSize_l1 (v : List Tree) (n : Int) (i : Nat) : Option (Int) :=
  if i < v.length then
    (v[i]?) >>= fun x4 =>
    (F.impl_TreeSize x4) >>= fun v6 =>
    F.impl_TreeSize_l1 v (IntKind.i64.wrap (n + v6)) (i + 1)
  else
    some n
  partial_fixpoint
end

def F.laws_eqIntS_l1 (a : List Int) (b : List Int) (i : Nat) : Option (Lo Bool Unit) :=
  if i < a.length then
    (a[i]?) >>= fun x =>
    (b[i]?) >>= fun x6 =>
    if x = x6 then
      F.laws_eqIntS_l1 a b (i + 1)
    else
      some (.ret false)
  else
    some (.go ())
  partial_fixpoint

def F.laws_eqIntS (a : List Int) (b : List Int) : Option (Bool) :=
  if a.length = b.length then
    (F.laws_eqIntS_l1 a b 0) >>= fun o =>
    match o with
    | .ret r0 => some r0
    | .go s =>
      some true
  else
    some false

def F.laws_eqPathBind (a : PathBind) (b : PathBind) : Option (Bool) :=
  if a.var = b.var then
    (F.laws_eqIntS a.path b.path) >>= fun v =>
    if v = true then
      some true
    else
      some false
  else
    some false

def F.laws_eqPathBindS_l1 (a : List PathBind) (b : List PathBind) (i : Nat) : Option (Lo Bool Unit) :=
  if i < a.length then
    (a[i]?) >>= fun x =>
    (b[i]?) >>= fun x6 =>
    (F.laws_eqPathBind x x6) >>= fun v =>
    if v = true then
      F.laws_eqPathBindS_l1 a b (i + 1)
    else
      some (.ret false)
  else
    some (.go ())
  partial_fixpoint

def F.laws_eqPathBindS (a : List PathBind) (b : List PathBind) : Option (Bool) :=
  if a.length = b.length then
    (F.laws_eqPathBindS_l1 a b 0) >>= fun o =>
    match o with
    | .ret r0 => some r0
    | .go s =>
      some true
  else
    some false

mutual
def F.laws_eqBranch (a : Branch) (b : Branch) : Option (Bool) :=
  if a.ctor = b.ctor then
    if a.n = b.n then
      if a.m = b.m then
        (F.laws_eqTree a.tree b.tree) >>= fun v =>
        if v = true then
          some true
        else
          some false
      else
        some false
    else
      some false
  else
    some false
  partial_fixpoint
def F.laws_eqBranchS (a : List Branch) (b : List Branch) : Option (Bool) :=
  if a.length = b.length then
    (F.laws_eqBranchS_l1 a b 0) >>= fun o =>
    match o with
    | .ret r0 => some r0
    | .go s =>
      some true
  else
    some false
  partial_fixpoint
def F.laws_eqTree (a : Tree) (b : Tree) : Option (Bool) :=
  if a.op = b.op then
    if a.clause = b.clause then
      (F.laws_eqPathBindS a.binds b.binds) >>= fun v =>
      if v = true then
        (F.laws_eqIntS a.path b.path) >>= fun v8 =>
        if v8 = true then
          (F.laws_eqBranchS a.branches b.branches) >>= fun v12 =>
          if v12 = true then
            (F.laws_eqTreeS a.els b.els) >>= fun v16 =>
            if v16 = true then
              some true
            else
              some false
          else
            some false
        else
          some false
      else
        some false
    else
      some false
  else
    some false
  partial_fixpoint
def F.laws_eqTreeS (a : List Tree) (b : List Tree) : Option (Bool) :=
  if a.length = b.length then
    (F.laws_eqTreeS_l1 a b 0) >>= fun o =>
    match o with
    | .ret r0 => some r0
    | .go s =>
      some true
  else
    some false
  partial_fixpoint
def F.laws_eqBranchS_l1 (a : List Branch) (b : List Branch) (i : Nat) : Option (Lo Bool Unit) :=
  if i < a.length then
    (a[i]?) >>= fun x =>
    (b[i]?) >>= fun x6 =>
    (F.laws_eqBranch x x6) >>= fun v =>
    if v = true then
      F.laws_eqBranchS_l1 a b (i + 1)
    else
      some (.ret false)
  else
    some (.go ())
  partial_fixpoint
def F.laws_eqTreeS_l1 (a : List Tree) (b : List Tree) (i : Nat) : Option (Lo Bool Unit) :=
  if i < a.length then
    (a[i]?) >>= fun x =>
    (b[i]?) >>= fun x6 =>
    (F.laws_eqTree x x6) >>= fun v =>
    if v = true then
      F.laws_eqTreeS_l1 a b (i + 1)
    else
      some (.ret false)
  else
    some (.go ())
  partial_fixpoint
end

def F.laws_FnExactTreeSize (aX : Tree) : Option (Bool) :=
  (F.laws_szTree aX (1048576 : Int)) >>= fun v =>
  if v < 0 then
    some true
  else
    (F.laws_toTree aX) >>= fun v4 =>
    (F.spec_TreeSize v4) >>= fun v6 =>
    (F.laws_toTree aX) >>= fun v8 =>
    (F.impl_TreeSize v8) >>= fun v10 =>
    if v10 = v6 then
      (F.laws_toTree aX) >>= fun v14 =>
      (F.laws_eqTree v8 v14) >>= fun v16 =>
      if v16 = true then
        some true
      else
        some false
    else
      some false
end Go.Vl
