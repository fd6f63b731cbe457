/- The functions of the program as Lean functions (printed by gen.py). -/
import Derived.Test.YtfalapoojmlbpaaVlG
import Derived.Test.YtfalapoojmlbpaaVlDraw3
import Derived.Test.YtfalapoojmlbpaaVlFa
import Derived.Test.YtfalapoojmlbpaaVlSplit
import Derived.Test.YtfalapoojmlbpaaVlDeep
import Derived.Test.YtfalapoojmlbpaaVlMk
set_option linter.unusedVariables false
set_option linter.unusedSimpArgs false
set_option linter.unusedVariables false
namespace Go.Vl
open Go
noncomputable section

mutual
def F.laws_szExpr (a : Vl.Expr) (left' : Int) : Option (Int) :=
  (F.laws_szExprS a.kids left') >>= fun v =>
  if v < 0 then
    some (-1 : Int)
  else
    some v
  partial_fixpoint
def F.laws_szExprS (a : List Vl.Expr) (left' : Int) : Option (Int) :=
  if IntKind.i64.wrap (left' - (a.length : Int)) < 0 then
    some (-1 : Int)
  else
    (F.laws_szExprS_l1 a (IntKind.i64.wrap (left' - (a.length : Int))) 0) >>= fun o' =>
    match o' with
    | .ret r0 => some r0
    | .go sx =>
      some sx
  partial_fixpoint
def F.laws_szExprS_l1 (a : List Vl.Expr) (left'3 : Int) (i : Nat) : Option (Lo Int Int) :=
  if i < a.length then
    (a[i]?) >>= fun x =>
    (F.laws_szExpr x left'3) >>= fun v =>
    if v < 0 then
      some (.ret (-1 : Int))
    else
      F.laws_szExprS_l1 a v (i + 1)
  else
    some (.go left'3)
  partial_fixpoint
end

mutual
def F.laws_toExpr (a : Vl.Expr) : Option (Vl.Expr) :=
  (F.laws_toExprS a.kids) >>= fun v =>
  some (⟨a.op, a.n, a.ctor, v⟩ : Vl.Expr)
  partial_fixpoint
def F.laws_toExprS (a : List Vl.Expr) : Option (List Vl.Expr) :=
  if a.length ≤ 67108864 then
    (F.laws_toExprS_l1 a (List.replicate a.length Vl.Expr.z) 0) >>= fun o' =>
    some o'
  else none
  partial_fixpoint
def F.laws_toExprS_l1 (a : List Vl.Expr) (out : List Vl.Expr) (i : Nat) : Option (List Vl.Expr) :=
  if i < a.length then
    (a[i]?) >>= fun x =>
    (F.laws_toExpr x) >>= fun v =>
    (out[i]?) >>= fun x7 =>
    F.laws_toExprS_l1 a (out.set i v) (i + 1)
  else
    some out
  partial_fixpoint
end

mutual
def F.spec_l12Calls (flags : List Bool) (e : Vl.Expr) : Option (List Bool) :=
  if e.op = 5 then
    if 0 ≤ e.n then
      if e.n < (flags.length : Int) then
        (at? flags e.n) >>= fun x =>
        (F.spec_l12Calls_l1 e (flags.set e.n.toNat true) 0) >>= fun o' =>
        some o'
      else
        (F.spec_l12Calls_l2 e flags 0) >>= fun o'28 =>
        some o'28
    else
      (F.spec_l12Calls_l3 e flags 0) >>= fun o'40 =>
      some o'40
  else
    (F.spec_l12Calls_l4 e flags 0) >>= fun o'52 =>
    some o'52
  partial_fixpoint
def F.spec_l12Calls_l1 (e : Vl.Expr) (flags8 : List Bool) (i : Nat) : Option (List Bool) :=
  if i < e.kids.length then
    (e.kids[i]?) >>= fun x12 =>
    (F.spec_l12Calls flags8 x12) >>= fun v =>
    F.spec_l12Calls_l1 e v (i + 1)
  else
    some flags8
  partial_fixpoint
def F.spec_l12Calls_l2 (e : Vl.Expr) (flags17 : List Bool) (i18 : Nat) : Option (List Bool) :=
  if i18 < e.kids.length then
    (e.kids[i18]?) >>= fun x22 =>
    (F.spec_l12Calls flags17 x22) >>= fun v24 =>
    F.spec_l12Calls_l2 e v24 (i18 + 1)
  else
    some flags17
  partial_fixpoint
def F.spec_l12Calls_l3 (e : Vl.Expr) (flags29 : List Bool) (i30 : Nat) : Option (List Bool) :=
  if i30 < e.kids.length then
    (e.kids[i30]?) >>= fun x34 =>
    (F.spec_l12Calls flags29 x34) >>= fun v36 =>
    F.spec_l12Calls_l3 e v36 (i30 + 1)
  else
    some flags29
  partial_fixpoint
def F.spec_l12Calls_l4 (e : Vl.Expr) (flags41 : List Bool) (i42 : Nat) : Option (List Bool) :=
  if i42 < e.kids.length then
    (e.kids[i42]?) >>= fun x46 =>
    (F.spec_l12Calls flags41 x46) >>= fun v48 =>
    F.spec_l12Calls_l4 e v48 (i42 + 1)
  else
    some flags41
  partial_fixpoint
end

def F.spec_CallsOf_l1 (v : List Bool) (out : List Int) (i : Nat) : Option (List Int) :=
  if i < v.length then
    (v[i]?) >>= fun x =>
    if x = true then
      if out.length + 1 ≤ 67108864 then
        F.spec_CallsOf_l1 v (out ++ [(i : Int)]) (i + 1)
      else none
    else
      F.spec_CallsOf_l1 v out (i + 1)
  else
    some out
  partial_fixpoint

def F.spec_CallsOf (e : Vl.Expr) : Option (List Int) :=
  if 4 ≤ 67108864 then
    (F.spec_l12Calls (List.replicate 4 false) e) >>= fun v =>
    (F.spec_CallsOf_l1 v [] 0) >>= fun o' =>
    some o'
  else none

def F.impl_within (n : Int) (low : Int) (high : Int) : Option (Bool) :=
  if low ≤ n then
    some (decide (n ≤ high))
  else
    some false

mutual
def F.impl_calls (e : Vl.Expr) (set' : Nat → Bool) : Option (Nat → Bool) :=
  if e.op = 5 then
    (F.impl_within e.n (0 : Int) (3 : Int)) >>= fun v =>
    if v = true then
      if 0 ≤ e.n ∧ e.n.toNat < 4 then
        (F.impl_calls_l1 e (updF set' e.n.toNat true) 0) >>= fun o' =>
        some o'
      else none
    else
      (F.impl_calls_l2 e set' 0) >>= fun o'27 =>
      some o'27
  else
    (F.impl_calls_l3 e set' 0) >>= fun o'39 =>
    some o'39
  partial_fixpoint
def F.impl_calls_l1 (e : Vl.Expr) (set'7 : Nat → Bool) (i : Nat) : Option (Nat → Bool) :=
  if i < e.kids.length then
    (e.kids[i]?) >>= fun x =>
    (F.impl_calls x set'7) >>= fun v12 =>
    F.impl_calls_l1 e v12 (i + 1)
  else
    some set'7
  partial_fixpoint
def F.impl_calls_l2 (e : Vl.Expr) (set'16 : Nat → Bool) (i17 : Nat) : Option (Nat → Bool) :=
  if i17 < e.kids.length then
    (e.kids[i17]?) >>= fun x21 =>
    (F.impl_calls x21 set'16) >>= fun v23 =>
    F.impl_calls_l2 e v23 (i17 + 1)
  else
    some set'16
  partial_fixpoint
def F.impl_calls_l3 (e : Vl.Expr) (set'28 : Nat → Bool) (i29 : Nat) : Option (Nat → Bool) :=
  if i29 < e.kids.length then
    (e.kids[i29]?) >>= fun x33 =>
    (F.impl_calls x33 set'28) >>= fun v35 =>
    F.impl_calls_l3 e v35 (i29 + 1)
  else
    some set'28
  partial_fixpoint
end

def F.impl_CallsOf_l1 (v : Nat → Bool) (i : Nat) (out : List Int) : Option (List Int) :=
  if i < 4 then
    if v i = true then
      if out.length + 1 ≤ 67108864 then
        if i + 1 ≤ 9223372036854775807 then
          F.impl_CallsOf_l1 v (i + 1) (out ++ [(i : Int)])
        else none
      else none
    else
      if i + 1 ≤ 9223372036854775807 then
        F.impl_CallsOf_l1 v (i + 1) out
      else none
  else
    some out
  partial_fixpoint

def F.impl_CallsOf (e : Vl.Expr) : Option (List Int) :=
  (F.impl_calls e (fun _ => false)) >>= fun v =>
  (F.impl_CallsOf_l1 v 0 []) >>= fun o' =>
  some o'

def F.laws_eqIntS_l1 (a : List Int) (b : List Int) (i : Nat) : Option (Lo Bool Unit) :=
  if i < a.length then
    (a[i]?) >>= fun x =>
    (b[i]?) >>= fun x8 =>
    if x = x8 then
      F.laws_eqIntS_l1 a b (i + 1)
    else
      some (.ret false)
  else
    some (.go ())
  partial_fixpoint

def F.laws_eqIntS (a : List Int) (b : List Int) : Option (Bool) :=
  if a.length = b.length then
    (F.laws_eqIntS_l1 a b 0) >>= fun o' =>
    match o' with
    | .ret r0 => some r0
    | .go sx =>
      some true
  else
    some false

mutual
def F.laws_eqExpr (a : Vl.Expr) (b : Vl.Expr) : Option (Bool) :=
  if a.op = b.op then
    if a.n = b.n then
      if a.ctor = b.ctor then
        (F.laws_eqExprS a.kids b.kids) >>= fun v =>
        if v = true then
          some true
        else
          some false
      else
        some false
    else
      some false
  else
    some false
  partial_fixpoint
def F.laws_eqExprS (a : List Vl.Expr) (b : List Vl.Expr) : Option (Bool) :=
  if a.length = b.length then
    (F.laws_eqExprS_l1 a b 0) >>= fun o' =>
    match o' with
    | .ret r0 => some r0
    | .go sx =>
      some true
  else
    some false
  partial_fixpoint
def F.laws_eqExprS_l1 (a : List Vl.Expr) (b : List Vl.Expr) (i : Nat) : Option (Lo Bool Unit) :=
  if i < a.length then
    (a[i]?) >>= fun x =>
    (b[i]?) >>= fun x8 =>
    (F.laws_eqExpr x x8) >>= fun v =>
    if v = true then
      F.laws_eqExprS_l1 a b (i + 1)
    else
      some (.ret false)
  else
    some (.go ())
  partial_fixpoint
end

def F.laws_heldIntS_l1 (a : List Int) (k1 : Int) (i : Nat) : Option (Lo Int Int) :=
  if i < a.length then
    (a[i]?) >>= fun x =>
    if x = k1 then
      F.laws_heldIntS_l1 a (IntKind.i64.wrap (k1 + 1)) (i + 1)
    else
      some (.ret (-1 : Int))
  else
    some (.go k1)
  partial_fixpoint

def F.laws_heldIntS (a : List Int) (k : Int) : Option (Int) :=
  (F.laws_heldIntS_l1 a k 0) >>= fun o' =>
  match o' with
  | .ret r0 => some r0
  | .go sx =>
    some sx

def F.laws_markExprS (a : List Vl.Expr) (k : Int) : Option (List Vl.Expr × Int) := some (Vl.Expr.mkL a k)

def F.laws_markIntS (a : List Int) (k : Int) : Option (List Int × Int) := some (mkI a k)

def F.laws_FnExactCallsOf (aE : Vl.Expr) : Option (Bool) :=
  (F.laws_szExpr aE (1048576 : Int)) >>= fun v =>
  if v < 0 then
    some true
  else
    (F.laws_toExpr aE) >>= fun v4 =>
    (F.spec_CallsOf v4) >>= fun v6 =>
    (F.laws_toExpr aE) >>= fun v8 =>
    (F.impl_CallsOf v8) >>= fun v10 =>
    (F.laws_eqIntS v10 v6) >>= fun v13 =>
    if v13 = true then
      (F.laws_toExpr aE) >>= fun v17 =>
      (F.laws_eqExpr v8 v17) >>= fun v19 =>
      if v19 = true then
        (F.laws_markExprS v8.kids 1) >>= fun v23 =>
        if v23.2 < 0 then
          some false
        else
          (F.laws_eqIntS v10 v6) >>= fun v27 =>
          if v27 = true then
            (F.laws_markIntS v10 1) >>= fun v31 =>
            (F.laws_heldIntS v31.1 (1 : Int)) >>= fun v33 =>
            if v33 < 0 then
              some false
            else
              if v33 = v31.2 then
                (F.laws_toExpr aE) >>= fun v39 =>
                (F.impl_CallsOf v39) >>= fun v41 =>
                (F.laws_eqIntS v41 v6) >>= fun v44 =>
                if v44 = true then
                  (F.laws_heldIntS v31.1 (1 : Int)) >>= fun v48 =>
                  if v48 < 0 then
                    some false
                  else
                    if v48 = v31.2 then
                      some true
                    else
                      some false
                else
                  some false
              else
                some false
          else
            some false
      else
        some false
    else
      some false
end
end Go.Vl
