/- The functions of the program as Lean functions (printed by gen.py). -/
import Derived.Test.YtfalapoojmlbpaaVlG
import Derived.Test.YtfalapoojmlbpaaVlDraw3
import Derived.Test.YtfalapoojmlbpaaVlFa
import Derived.Test.YtfalapoojmlbpaaVlSplit
import Derived.Test.YtfalapoojmlbpaaVlDeep
import Derived.Test.YtfalapoojmlbpaaVlMk
import Derived.Test.YtfalapoojmlbpaaVlDrawN
set_option linter.unusedVariables false
set_option linter.unusedSimpArgs false
set_option linter.unusedVariables false
namespace Go.Vl
open Go
noncomputable section

mutual
def F.laws_szPattern (a : Vl.Pattern) (left' : Int) : Option (Int) :=
  (F.laws_szPatternS a.kids left') >>= fun v =>
  if v < 0 then
    some (-1 : Int)
  else
    some v
  partial_fixpoint
def F.laws_szPatternS (a : List Vl.Pattern) (left' : Int) : Option (Int) :=
  if IntKind.i64.wrap (left' - (a.length : Int)) < 0 then
    some (-1 : Int)
  else
    (F.laws_szPatternS_l1 a (IntKind.i64.wrap (left' - (a.length : Int))) 0) >>= fun o' =>
    match o' with
    | .ret r0 => some r0
    | .go sx =>
      some sx
  partial_fixpoint
def F.laws_szPatternS_l1 (a : List Vl.Pattern) (left'3 : Int) (i : Nat) : Option (Lo Int Int) :=
  if i < a.length then
    (a[i]?) >>= fun x =>
    (F.laws_szPattern x left'3) >>= fun v =>
    if v < 0 then
      some (.ret (-1 : Int))
    else
      F.laws_szPatternS_l1 a v (i + 1)
  else
    some (.go left'3)
  partial_fixpoint
end

mutual
def F.laws_toPattern (a : Vl.Pattern) : Option (Vl.Pattern) :=
  (F.laws_toPatternS a.kids) >>= fun v =>
  some (⟨a.op, a.ctor, a.n, a.m, a.var, v⟩ : Vl.Pattern)
  partial_fixpoint
def F.laws_toPatternS (a : List Vl.Pattern) : Option (List Vl.Pattern) :=
  if a.length ≤ 67108864 then
    (F.laws_toPatternS_l1 a (List.replicate a.length Vl.Pattern.z) 0) >>= fun o' =>
    some o'
  else none
  partial_fixpoint
def F.laws_toPatternS_l1 (a : List Vl.Pattern) (out : List Vl.Pattern) (i : Nat) : Option (List Vl.Pattern) :=
  if i < a.length then
    (a[i]?) >>= fun x =>
    (F.laws_toPattern x) >>= fun v =>
    (out[i]?) >>= fun x7 =>
    F.laws_toPatternS_l1 a (out.set i v) (i + 1)
  else
    some out
  partial_fixpoint
end

mutual
def F.spec_BarePattern (p : Vl.Pattern) : Option (Vl.Pattern) :=
  if p.op = 2 then
    some (⟨(1 : Int), (0 : Int), (0 : Int), (0 : Int), (0 : Int), []⟩ : Vl.Pattern)
  else
    if p.op = 6 then
      if 0 < p.kids.length then
        (p.kids[0]?) >>= fun x =>
        (F.spec_BarePattern x) >>= fun v =>
        some v
      else
        (F.spec_BarePattern_l1 p [] 0) >>= fun o' =>
        some (⟨p.op, p.ctor, p.n, p.m, p.var, o'⟩ : Vl.Pattern)
    else
      (F.spec_BarePattern_l2 p [] 0) >>= fun o'32 =>
      some (⟨p.op, p.ctor, p.n, p.m, p.var, o'32⟩ : Vl.Pattern)
  partial_fixpoint
def F.spec_BarePattern_l1 (p : Vl.Pattern) (out : List Vl.Pattern) (i : Nat) : Option (List Vl.Pattern) :=
  if i < p.kids.length then
    (p.kids[i]?) >>= fun x13 =>
    (F.spec_BarePattern x13) >>= fun v15 =>
    if out.length + 1 ≤ 67108864 then
      F.spec_BarePattern_l1 p (out ++ [v15]) (i + 1)
    else none
  else
    some out
  partial_fixpoint
def F.spec_BarePattern_l2 (p : Vl.Pattern) (out20 : List Vl.Pattern) (i21 : Nat) : Option (List Vl.Pattern) :=
  if i21 < p.kids.length then
    (p.kids[i21]?) >>= fun x25 =>
    (F.spec_BarePattern x25) >>= fun v27 =>
    if out20.length + 1 ≤ 67108864 then
      F.spec_BarePattern_l2 p (out20 ++ [v27]) (i21 + 1)
    else none
  else
    some out20
  partial_fixpoint
end

def F.impl_anyPattern  : Option (Vl.Pattern) :=
  some (⟨(1 : Int), (0 : Int), (0 : Int), (0 : Int), (0 : Int), []⟩ : Vl.Pattern)

mutual
def F.impl_BarePattern (p : Vl.Pattern) : Option (Vl.Pattern) :=
  if p.op = 2 then
    (F.impl_anyPattern) >>= fun v =>
    some v
  else
    if p.op = 6 then
      if 0 < p.kids.length then
        (p.kids[0]?) >>= fun x =>
        (F.impl_BarePattern x) >>= fun v10 =>
        some v10
      else
        (F.impl_BarePattern_l1 p [] 0) >>= fun o' =>
        some (⟨p.op, p.ctor, p.n, p.m, p.var, o'⟩ : Vl.Pattern)
    else
      (F.impl_BarePattern_l2 p [] 0) >>= fun o'45 =>
      some (⟨p.op, p.ctor, p.n, p.m, p.var, o'45⟩ : Vl.Pattern)
  partial_fixpoint
def F.impl_BarePattern_l1 (p : Vl.Pattern) (out : List Vl.Pattern) (i : Nat) : Option (List Vl.Pattern) :=
  if i < p.kids.length then
    (p.kids[i]?) >>= fun x18 =>
    (F.impl_BarePattern x18) >>= fun v20 =>
    if out.length + 1 ≤ 67108864 then
      F.impl_BarePattern_l1 p (out ++ [v20]) (i + 1)
    else none
  else
    some out
  partial_fixpoint
def F.impl_BarePattern_l2 (p : Vl.Pattern) (out26 : List Vl.Pattern) (i30 : Nat) : Option (List Vl.Pattern) :=
  if i30 < p.kids.length then
    (p.kids[i30]?) >>= fun x37 =>
    (F.impl_BarePattern x37) >>= fun v39 =>
    if out26.length + 1 ≤ 67108864 then
      F.impl_BarePattern_l2 p (out26 ++ [v39]) (i30 + 1)
    else none
  else
    some out26
  partial_fixpoint
end

mutual
def F.laws_eqPattern (a : Vl.Pattern) (b : Vl.Pattern) : Option (Bool) :=
  if a.op = b.op then
    if a.ctor = b.ctor then
      if a.n = b.n then
        if a.m = b.m then
          if a.var = b.var then
            (F.laws_eqPatternS a.kids b.kids) >>= fun v =>
            if v = true then
              some true
            else
              some false
          else
            some false
        else
          some false
      else
        some false
    else
      some false
  else
    some false
  partial_fixpoint
def F.laws_eqPatternS (a : List Vl.Pattern) (b : List Vl.Pattern) : Option (Bool) :=
  if a.length = b.length then
    (F.laws_eqPatternS_l1 a b 0) >>= fun o' =>
    match o' with
    | .ret r0 => some r0
    | .go sx =>
      some true
  else
    some false
  partial_fixpoint
def F.laws_eqPatternS_l1 (a : List Vl.Pattern) (b : List Vl.Pattern) (i : Nat) : Option (Lo Bool Unit) :=
  if i < a.length then
    (a[i]?) >>= fun x =>
    (b[i]?) >>= fun x8 =>
    (F.laws_eqPattern x x8) >>= fun v =>
    if v = true then
      F.laws_eqPatternS_l1 a b (i + 1)
    else
      some (.ret false)
  else
    some (.go ())
  partial_fixpoint
end

mutual
def F.laws_heldPatternS (a : List Vl.Pattern) (k : Int) : Option (Int) :=
  (F.laws_heldPatternS_l1 a k 0) >>= fun o' =>
  match o' with
  | .ret r0 => some r0
  | .go sx =>
    some sx
  partial_fixpoint
def F.laws_heldPatternS_l1 (a : List Vl.Pattern) (k1 : Int) (i : Nat) : Option (Lo Int Int) :=
  if i < a.length then
    (a[i]?) >>= fun x =>
    if x.op = k1 then
      if x.ctor = IntKind.i64.wrap (k1 + 1) then
        if x.n = IntKind.i64.wrap (IntKind.i64.wrap (k1 + 1) + 1) then
          if x.m = IntKind.i64.wrap (IntKind.i64.wrap (IntKind.i64.wrap (k1 + 1) + 1) + 1) then
            if x.var = IntKind.i64.wrap (IntKind.i64.wrap (IntKind.i64.wrap (IntKind.i64.wrap (k1 + 1) + 1) + 1) + 1) then
              (F.laws_heldPatternS x.kids (IntKind.i64.wrap (IntKind.i64.wrap (IntKind.i64.wrap (IntKind.i64.wrap (IntKind.i64.wrap (k1 + 1) + 1) + 1) + 1) + 1))) >>= fun v =>
              if v < 0 then
                some (.ret (-1 : Int))
              else
                F.laws_heldPatternS_l1 a v (i + 1)
            else
              some (.ret (-1 : Int))
          else
            some (.ret (-1 : Int))
        else
          some (.ret (-1 : Int))
      else
        some (.ret (-1 : Int))
    else
      some (.ret (-1 : Int))
  else
    some (.go k1)
  partial_fixpoint
end

def F.laws_heldPattern (a : Vl.Pattern) (k : Int) : Option (Int) :=
  (F.laws_heldPatternS a.kids k) >>= fun v =>
  if v < 0 then
    some (-1 : Int)
  else
    some v

def F.laws_markPatternS (a : List Vl.Pattern) (k : Int) : Option (List Vl.Pattern × Int) := some (Vl.Pattern.mkL a k)

def F.laws_FnExactBarePattern (aP : Vl.Pattern) : Option (Bool) :=
  (F.laws_szPattern aP (1048576 : Int)) >>= fun v =>
  if v < 0 then
    some true
  else
    (F.laws_toPattern aP) >>= fun v4 =>
    (F.spec_BarePattern v4) >>= fun v6 =>
    (F.laws_toPattern aP) >>= fun v8 =>
    (F.impl_BarePattern v8) >>= fun v10 =>
    (F.laws_eqPattern v10 v6) >>= fun v13 =>
    if v13 = true then
      (F.laws_toPattern aP) >>= fun v17 =>
      (F.laws_eqPattern v8 v17) >>= fun v19 =>
      if v19 = true then
        (F.laws_markPatternS v8.kids 1) >>= fun v23 =>
        if v23.2 < 0 then
          some false
        else
          (F.laws_eqPattern v10 v6) >>= fun v27 =>
          if v27 = true then
            (F.laws_markPatternS v10.kids 1) >>= fun v31 =>
            (F.laws_heldPattern (⟨v10.op, v10.ctor, v10.n, v10.m, v10.var, v31.1⟩ : Vl.Pattern) (1 : Int)) >>= fun v33 =>
            if v33 < 0 then
              some false
            else
              if v33 = v31.2 then
                (F.laws_toPattern aP) >>= fun v39 =>
                (F.impl_BarePattern v39) >>= fun v41 =>
                (F.laws_eqPattern v41 v6) >>= fun v44 =>
                if v44 = true then
                  (F.laws_heldPattern (⟨v10.op, v10.ctor, v10.n, v10.m, v10.var, v31.1⟩ : Vl.Pattern) (1 : Int)) >>= fun v48 =>
                  if v48 < 0 then
                    some false
                  else
                    if v48 = v31.2 then
                      some true
                    else
                      some false
                else
                  some false
              else
                some false
          else
            some false
      else
        some false
    else
      some false
end
end Go.Vl
