/- The functions of the program as Lean functions (printed by gen.py). -/
import Derived.Test.YtfalapoojmlbpaaVlG
import Derived.Test.YtfalapoojmlbpaaVlMut
set_option linter.unusedVariables false
set_option linter.unusedSimpArgs false
set_option linter.unusedVariables false
namespace Go.Vl
open Go

def F.laws_szIntS (a : List Int) (left' : Int) : Option (Int) :=
  if IntKind.i64.wrap (left' - (a.length : Int)) < 0 then
    some (-1 : Int)
  else
    some (IntKind.i64.wrap (left' - (a.length : Int)))

def F.laws_szPathBind (a : Vl.PathBind) (left' : Int) : Option (Int) :=
  (F.laws_szIntS a.path left') >>= fun v =>
  if v < 0 then
    some (-1 : Int)
  else
    some v

def F.laws_szPathBindS_l1 (a : List Vl.PathBind) (left'3 : Int) (i : Nat) : Option (Lo Int Int) :=
  if i < a.length then
    (a[i]?) >>= fun x =>
    (F.laws_szPathBind x left'3) >>= fun v =>
    if v < 0 then
      some (.ret (-1 : Int))
    else
      F.laws_szPathBindS_l1 a v (i + 1)
  else
    some (.go left'3)
  partial_fixpoint

def F.laws_szPathBindS (a : List Vl.PathBind) (left' : Int) : Option (Int) :=
  if IntKind.i64.wrap (left' - (a.length : Int)) < 0 then
    some (-1 : Int)
  else
    (F.laws_szPathBindS_l1 a (IntKind.i64.wrap (left' - (a.length : Int))) 0) >>= fun o =>
    match o with
    | .ret r0 => some r0
    | .go s =>
      some s

def F.laws_szEdgeS (a : List Vl.Edge) (left' : Int) : Option (Int) :=
  if IntKind.i64.wrap (left' - (a.length : Int)) < 0 then
    some (-1 : Int)
  else
    some (IntKind.i64.wrap (left' - (a.length : Int)))

def F.laws_szNode (a : Vl.Node) (left' : Int) : Option (Int) :=
  (F.laws_szPathBindS a.binds left') >>= fun v =>
  if v < 0 then
    some (-1 : Int)
  else
    (F.laws_szIntS a.path v) >>= fun v4 =>
    if v4 < 0 then
      some (-1 : Int)
    else
      (F.laws_szEdgeS a.edges v4) >>= fun v8 =>
      if v8 < 0 then
        some (-1 : Int)
      else
        some v8

def F.laws_szNodeS_l1 (a : List Vl.Node) (left'3 : Int) (i : Nat) : Option (Lo Int Int) :=
  if i < a.length then
    (a[i]?) >>= fun x =>
    (F.laws_szNode x left'3) >>= fun v =>
    if v < 0 then
      some (.ret (-1 : Int))
    else
      F.laws_szNodeS_l1 a v (i + 1)
  else
    some (.go left'3)
  partial_fixpoint

def F.laws_szNodeS (a : List Vl.Node) (left' : Int) : Option (Int) :=
  if IntKind.i64.wrap (left' - (a.length : Int)) < 0 then
    some (-1 : Int)
  else
    (F.laws_szNodeS_l1 a (IntKind.i64.wrap (left' - (a.length : Int))) 0) >>= fun o =>
    match o with
    | .ret r0 => some r0
    | .go s =>
      some s

def F.laws_toIntS_l1 (a : List Int) (out : List Int) (i : Nat) : Option (List Int) :=
  if i < a.length then
    (a[i]?) >>= fun x =>
    (out[i]?) >>= fun x6 =>
    F.laws_toIntS_l1 a (out.set i x) (i + 1)
  else
    some out
  partial_fixpoint

def F.laws_toIntS (a : List Int) : Option (List Int) :=
  if a.length ≤ 67108864 then
    (F.laws_toIntS_l1 a (List.replicate a.length (0 : Int)) 0) >>= fun o =>
    some o
  else none

def F.laws_toPathBind (a : Vl.PathBind) : Option (Vl.PathBind) :=
  (F.laws_toIntS a.path) >>= fun v =>
  some (⟨a.var, v⟩ : Vl.PathBind)

def F.laws_toPathBindS_l1 (a : List Vl.PathBind) (out : List Vl.PathBind) (i : Nat) : Option (List Vl.PathBind) :=
  if i < a.length then
    (a[i]?) >>= fun x =>
    (F.laws_toPathBind x) >>= fun v =>
    (out[i]?) >>= fun x7 =>
    F.laws_toPathBindS_l1 a (out.set i v) (i + 1)
  else
    some out
  partial_fixpoint

def F.laws_toPathBindS (a : List Vl.PathBind) : Option (List Vl.PathBind) :=
  if a.length ≤ 67108864 then
    (F.laws_toPathBindS_l1 a (List.replicate a.length Vl.PathBind.z) 0) >>= fun o =>
    some o
  else none

def F.laws_toEdge (a : Vl.Edge) : Option (Vl.Edge) :=
  some a

def F.laws_toEdgeS_l1 (a : List Vl.Edge) (out : List Vl.Edge) (i : Nat) : Option (List Vl.Edge) :=
  if i < a.length then
    (a[i]?) >>= fun x =>
    (F.laws_toEdge x) >>= fun v =>
    (out[i]?) >>= fun x7 =>
    F.laws_toEdgeS_l1 a (out.set i v) (i + 1)
  else
    some out
  partial_fixpoint

def F.laws_toEdgeS (a : List Vl.Edge) : Option (List Vl.Edge) :=
  if a.length ≤ 67108864 then
    (F.laws_toEdgeS_l1 a (List.replicate a.length Vl.Edge.z) 0) >>= fun o =>
    some o
  else none

def F.laws_toNode (a : Vl.Node) : Option (Vl.Node) :=
  (F.laws_toPathBindS a.binds) >>= fun v =>
  (F.laws_toIntS a.path) >>= fun v2 =>
  (F.laws_toEdgeS a.edges) >>= fun v4 =>
  some (⟨a.op, a.clause, v, v2, v4, a.els⟩ : Vl.Node)

def F.laws_toNodeS_l1 (a : List Vl.Node) (out : List Vl.Node) (i : Nat) : Option (List Vl.Node) :=
  if i < a.length then
    (a[i]?) >>= fun x =>
    (F.laws_toNode x) >>= fun v =>
    (out[i]?) >>= fun x7 =>
    F.laws_toNodeS_l1 a (out.set i v) (i + 1)
  else
    some out
  partial_fixpoint

def F.laws_toNodeS (a : List Vl.Node) : Option (List Vl.Node) :=
  if a.length ≤ 67108864 then
    (F.laws_toNodeS_l1 a (List.replicate a.length Vl.Node.z) 0) >>= fun o =>
    some o
  else none

def F.spec_l8None  : Option (Int) :=
  some (-1 : Int)

def F.spec_NodesValid_l2 (list : List Vl.Node) (i : Int) (x : Vl.Node) (k : Nat) : Option (Lo Bool Unit) :=
  if k < x.edges.length then
    (x.edges[k]?) >>= fun x25 =>
    if x25.to < 0 then
      some (.ret false)
    else
      if i ≤ x25.to then
        some (.ret false)
      else
        F.spec_NodesValid_l2 list i x (k + 1)
  else
    some (.go ())
  partial_fixpoint

def F.spec_NodesValid_l1 (list : List Vl.Node) (i : Int) : Option (Lo Bool Unit) :=
  if i < (list.length : Int) then
    (at? list i) >>= fun x =>
    if x.op < 0 then
      some (.ret false)
    else
      if 2 < x.op then
        some (.ret false)
      else
        (F.spec_l8None) >>= fun v =>
        if x.els < v then
          some (.ret false)
        else
          if i ≤ x.els then
            some (.ret false)
          else
            if 10 < x.edges.length then
              some (.ret false)
            else
              (F.spec_NodesValid_l2 list i x 0) >>= fun o =>
              match o with
              | .ret r0 => some (.ret r0)
              | .go s =>
                F.spec_NodesValid_l1 list (IntKind.i64.wrap (i + 1))
  else
    some (.go ())
  partial_fixpoint

def F.spec_NodesValid (list : List Vl.Node) : Option (Bool) :=
  if list.length = 0 then
    some false
  else
    if 300 < list.length then
      some false
    else
      (F.spec_NodesValid_l1 list (0 : Int)) >>= fun o34 =>
      match o34 with
      | .ret r036 => some r036
      | .go s35 =>
        some true

def F.impl_within (n : Int) (low : Int) (high : Int) : Option (Bool) :=
  if low ≤ n then
    some (decide (n ≤ high))
  else
    some false

def F.impl_NodesValid_1 (e : Vl.Edge) (a1 : Int) : Option (Bool) :=
  (F.impl_within e.to (0 : Int) (IntKind.i64.wrap (a1 - 1))) >>= fun v =>
  some (!v)

def F.slices_IndexFunc_Edge__impl_NodesValid_1_l1 (s : List Vl.Edge) (k0 : Int) (i : Nat) : Option (Lo Int Unit) :=
  if i < s.length then
    (s[i]?) >>= fun x =>
    (F.impl_NodesValid_1 x k0) >>= fun v =>
    if v = true then
      some (.ret (i : Int))
    else
      F.slices_IndexFunc_Edge__impl_NodesValid_1_l1 s k0 (i + 1)
  else
    some (.go ())
  partial_fixpoint

def F.slices_IndexFunc_Edge__impl_NodesValid_1 (s : List Vl.Edge) (k0 : Int) : Option (Int) :=
  (F.slices_IndexFunc_Edge__impl_NodesValid_1_l1 s k0 0) >>= fun o =>
  match o with
  | .ret r0 => some r0
  | .go s10 =>
    some (-1 : Int)

def F.slices_ContainsFunc_Edge__impl_NodesValid_1 (s : List Vl.Edge) (k0 : Int) : Option (Bool) :=
  (F.slices_IndexFunc_Edge__impl_NodesValid_1 s k0) >>= fun v =>
  some (decide (0 ≤ v))

def F.impl_NodesValid_l1 (list : List Vl.Node) (i : Nat) : Option (Lo Bool Unit) :=
  if i < list.length then
    (list[i]?) >>= fun x =>
    (F.impl_within x.op (0 : Int) (2 : Int)) >>= fun v =>
    if v = true then
      if 10 < x.edges.length then
        some (.ret false)
      else
        (F.impl_within x.els (-1 : Int) (IntKind.i64.wrap ((i : Int) - 1))) >>= fun v11 =>
        if v11 = true then
          (F.slices_ContainsFunc_Edge__impl_NodesValid_1 x.edges (i : Int)) >>= fun v15 =>
          if v15 = true then
            some (.ret false)
          else
            F.impl_NodesValid_l1 list (i + 1)
        else
          some (.ret false)
    else
      some (.ret false)
  else
    some (.go ())
  partial_fixpoint

def F.impl_NodesValid (list : List Vl.Node) : Option (Bool) :=
  (F.impl_NodesValid_l1 list 0) >>= fun o =>
  match o with
  | .ret r0 => some r0
  | .go s =>
    (F.impl_within (list.length : Int) (1 : Int) (300 : Int)) >>= fun v21 =>
    some v21

def F.laws_eqIntS_l1 (a : List Int) (b : List Int) (i : Nat) : Option (Lo Bool Unit) :=
  if i < a.length then
    (a[i]?) >>= fun x =>
    (b[i]?) >>= fun x8 =>
    if x = x8 then
      F.laws_eqIntS_l1 a b (i + 1)
    else
      some (.ret false)
  else
    some (.go ())
  partial_fixpoint

def F.laws_eqIntS (a : List Int) (b : List Int) : Option (Bool) :=
  if a.length = b.length then
    (F.laws_eqIntS_l1 a b 0) >>= fun o =>
    match o with
    | .ret r0 => some r0
    | .go s =>
      some true
  else
    some false

def F.laws_eqPathBind (a : Vl.PathBind) (b : Vl.PathBind) : Option (Bool) :=
  if a.var = b.var then
    (F.laws_eqIntS a.path b.path) >>= fun v =>
    if v = true then
      some true
    else
      some false
  else
    some false

def F.laws_eqPathBindS_l1 (a : List Vl.PathBind) (b : List Vl.PathBind) (i : Nat) : Option (Lo Bool Unit) :=
  if i < a.length then
    (a[i]?) >>= fun x =>
    (b[i]?) >>= fun x8 =>
    (F.laws_eqPathBind x x8) >>= fun v =>
    if v = true then
      F.laws_eqPathBindS_l1 a b (i + 1)
    else
      some (.ret false)
  else
    some (.go ())
  partial_fixpoint

def F.laws_eqPathBindS (a : List Vl.PathBind) (b : List Vl.PathBind) : Option (Bool) :=
  if a.length = b.length then
    (F.laws_eqPathBindS_l1 a b 0) >>= fun o =>
    match o with
    | .ret r0 => some r0
    | .go s =>
      some true
  else
    some false

def F.laws_eqEdge (a : Vl.Edge) (b : Vl.Edge) : Option (Bool) :=
  if a.ctor = b.ctor then
    if a.n = b.n then
      if a.m = b.m then
        if a.to = b.to then
          some true
        else
          some false
      else
        some false
    else
      some false
  else
    some false

def F.laws_eqEdgeS_l1 (a : List Vl.Edge) (b : List Vl.Edge) (i : Nat) : Option (Lo Bool Unit) :=
  if i < a.length then
    (a[i]?) >>= fun x =>
    (b[i]?) >>= fun x8 =>
    (F.laws_eqEdge x x8) >>= fun v =>
    if v = true then
      F.laws_eqEdgeS_l1 a b (i + 1)
    else
      some (.ret false)
  else
    some (.go ())
  partial_fixpoint

def F.laws_eqEdgeS (a : List Vl.Edge) (b : List Vl.Edge) : Option (Bool) :=
  if a.length = b.length then
    (F.laws_eqEdgeS_l1 a b 0) >>= fun o =>
    match o with
    | .ret r0 => some r0
    | .go s =>
      some true
  else
    some false

def F.laws_eqNode (a : Vl.Node) (b : Vl.Node) : Option (Bool) :=
  if a.op = b.op then
    if a.clause = b.clause then
      (F.laws_eqPathBindS a.binds b.binds) >>= fun v =>
      if v = true then
        (F.laws_eqIntS a.path b.path) >>= fun v8 =>
        if v8 = true then
          (F.laws_eqEdgeS a.edges b.edges) >>= fun v12 =>
          if v12 = true then
            if a.els = b.els then
              some true
            else
              some false
          else
            some false
        else
          some false
      else
        some false
    else
      some false
  else
    some false

def F.laws_eqNodeS_l1 (a : List Vl.Node) (b : List Vl.Node) (i : Nat) : Option (Lo Bool Unit) :=
  if i < a.length then
    (a[i]?) >>= fun x =>
    (b[i]?) >>= fun x8 =>
    (F.laws_eqNode x x8) >>= fun v =>
    if v = true then
      F.laws_eqNodeS_l1 a b (i + 1)
    else
      some (.ret false)
  else
    some (.go ())
  partial_fixpoint

def F.laws_eqNodeS (a : List Vl.Node) (b : List Vl.Node) : Option (Bool) :=
  if a.length = b.length then
    (F.laws_eqNodeS_l1 a b 0) >>= fun o =>
    match o with
    | .ret r0 => some r0
    | .go s =>
      some true
  else
    some false

def F.laws_FnExactNodesValid (aList : List Vl.Node) : Option (Bool) :=
  (F.laws_szNodeS aList (1048576 : Int)) >>= fun v =>
  if v < 0 then
    some true
  else
    (F.laws_toNodeS aList) >>= fun v4 =>
    (F.spec_NodesValid v4) >>= fun v6 =>
    (F.laws_toNodeS aList) >>= fun v8 =>
    (F.impl_NodesValid v8) >>= fun v10 =>
    if v10 = v6 then
      (F.laws_toNodeS aList) >>= fun v14 =>
      (F.laws_eqNodeS v8 v14) >>= fun v16 =>
      if v16 = true then
        some true
      else
        some false
    else
      some false
end Go.Vl
