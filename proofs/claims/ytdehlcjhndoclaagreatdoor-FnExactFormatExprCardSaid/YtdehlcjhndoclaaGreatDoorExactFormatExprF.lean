/- The functions of the program as Lean functions (printed by gen.py). -/
import Derived.Test.YtdehlcjhndoclaaGreatDoorVlG
import Derived.Test.YtdehlcjhndoclaaGreatDoorVlDraw3
import Derived.Test.YtdehlcjhndoclaaGreatDoorVlFa
import Derived.Test.YtdehlcjhndoclaaGreatDoorVlSplit
import Derived.Test.YtdehlcjhndoclaaGreatDoorVlDeep
import Derived.Test.YtdehlcjhndoclaaGreatDoorVlMk
import Derived.Test.YtdehlcjhndoclaaGreatDoorVlFork
import Derived.Test.YtdehlcjhndoclaaGreatDoorVlText
set_option linter.unusedVariables false
set_option linter.unusedSimpArgs false
set_option linter.unusedVariables false
namespace Go.Vl
open Go
noncomputable section

structure T_impl_scope where
  f0 : List Vl.Data
  f1 : List Vl.FunType
  f2 : List Vl.VarType
def T_impl_scope.c (x : T_impl_scope) : List AV := [.arr (List.map Vl.Data.c x.f0), .arr (List.map Vl.FunType.c x.f1), .arr (List.map Vl.VarType.c x.f2)]
@[simp] theorem T_impl_scope.c_eq (x : T_impl_scope) : x.c = [.arr (List.map Vl.Data.c x.f0), .arr (List.map Vl.FunType.c x.f1), .arr (List.map Vl.VarType.c x.f2)] := rfl
abbrev T_impl_scope.z : T_impl_scope := ⟨[], [], []⟩
@[simp] theorem nice_T_impl_scope : Nice T_impl_scope.c := ⟨by simp, by simp, by simp⟩
@[simp] theorem nlen_T_impl_scope : NiceLen T_impl_scope.c 3 := ⟨by simp⟩

def F.laws_szTypeS (a : List Vl.Ty) (left' : Int) : Option (Int) :=
  if IntKind.i64.wrap (left' - (a.length : Int)) < 0 then
    some (-1 : Int)
  else
    some (IntKind.i64.wrap (left' - (a.length : Int)))

def F.laws_szCtor (a : Vl.Ctor) (left' : Int) : Option (Int) :=
  if IntKind.i64.wrap (left' - (a.name.size : Int)) < 0 then
    some (-1 : Int)
  else
    (F.laws_szTypeS a.args (IntKind.i64.wrap (left' - (a.name.size : Int)))) >>= fun v =>
    if v < 0 then
      some (-1 : Int)
    else
      some v

def F.laws_szCtorS_l1 (a : List Vl.Ctor) (left'3 : Int) (i : Nat) : Option (Lo Int Int) :=
  if i < a.length then
    (a[i]?) >>= fun x =>
    (F.laws_szCtor x left'3) >>= fun v =>
    if v < 0 then
      some (.ret (-1 : Int))
    else
      F.laws_szCtorS_l1 a v (i + 1)
  else
    some (.go left'3)
  partial_fixpoint

def F.laws_szCtorS (a : List Vl.Ctor) (left' : Int) : Option (Int) :=
  if IntKind.i64.wrap (left' - (a.length : Int)) < 0 then
    some (-1 : Int)
  else
    (F.laws_szCtorS_l1 a (IntKind.i64.wrap (left' - (a.length : Int))) 0) >>= fun o' =>
    match o' with
    | .ret r0 => some r0
    | .go sx =>
      some sx

def F.laws_szData (a : Vl.Data) (left' : Int) : Option (Int) :=
  if IntKind.i64.wrap (left' - (a.name.size : Int)) < 0 then
    some (-1 : Int)
  else
    (F.laws_szCtorS a.ctors (IntKind.i64.wrap (left' - (a.name.size : Int)))) >>= fun v =>
    if v < 0 then
      some (-1 : Int)
    else
      some v

def F.laws_szDataS_l1 (a : List Vl.Data) (left'3 : Int) (i : Nat) : Option (Lo Int Int) :=
  if i < a.length then
    (a[i]?) >>= fun x =>
    (F.laws_szData x left'3) >>= fun v =>
    if v < 0 then
      some (.ret (-1 : Int))
    else
      F.laws_szDataS_l1 a v (i + 1)
  else
    some (.go left'3)
  partial_fixpoint

def F.laws_szDataS (a : List Vl.Data) (left' : Int) : Option (Int) :=
  if IntKind.i64.wrap (left' - (a.length : Int)) < 0 then
    some (-1 : Int)
  else
    (F.laws_szDataS_l1 a (IntKind.i64.wrap (left' - (a.length : Int))) 0) >>= fun o' =>
    match o' with
    | .ret r0 => some r0
    | .go sx =>
      some sx

def F.laws_szFunTypeS (a : List Vl.FunType) (left' : Int) : Option (Int) :=
  if IntKind.i64.wrap (left' - (a.length : Int)) < 0 then
    some (-1 : Int)
  else
    some (IntKind.i64.wrap (left' - (a.length : Int)))

def F.laws_szVarTypeS (a : List Vl.VarType) (left' : Int) : Option (Int) :=
  if IntKind.i64.wrap (left' - (a.length : Int)) < 0 then
    some (-1 : Int)
  else
    some (IntKind.i64.wrap (left' - (a.length : Int)))

mutual
def F.laws_szExpr (a : Vl.Expr) (left' : Int) : Option (Int) :=
  (F.laws_szExprS a.kids left') >>= fun v =>
  if v < 0 then
    some (-1 : Int)
  else
    some v
  partial_fixpoint
def F.laws_szExprS (a : List Vl.Expr) (left' : Int) : Option (Int) :=
  if IntKind.i64.wrap (left' - (a.length : Int)) < 0 then
    some (-1 : Int)
  else
    (F.laws_szExprS_l1 a (IntKind.i64.wrap (left' - (a.length : Int))) 0) >>= fun o' =>
    match o' with
    | .ret r0 => some r0
    | .go sx =>
      some sx
  partial_fixpoint
def F.laws_szExprS_l1 (a : List Vl.Expr) (left'3 : Int) (i : Nat) : Option (Lo Int Int) :=
  if i < a.length then
    (a[i]?) >>= fun x =>
    (F.laws_szExpr x left'3) >>= fun v =>
    if v < 0 then
      some (.ret (-1 : Int))
    else
      F.laws_szExprS_l1 a v (i + 1)
  else
    some (.go left'3)
  partial_fixpoint
end

def F.laws_toType (a : Vl.Ty) : Option (Vl.Ty) :=
  some a

def F.laws_toTypeS_l1 (a : List Vl.Ty) (out : List Vl.Ty) (i : Nat) : Option (List Vl.Ty) :=
  if i < a.length then
    (a[i]?) >>= fun x =>
    (F.laws_toType x) >>= fun v =>
    (out[i]?) >>= fun x7 =>
    F.laws_toTypeS_l1 a (out.set i v) (i + 1)
  else
    some out
  partial_fixpoint

def F.laws_toTypeS (a : List Vl.Ty) : Option (List Vl.Ty) :=
  if a.length ≤ 67108864 then
    (F.laws_toTypeS_l1 a (List.replicate a.length Vl.Ty.z) 0) >>= fun o' =>
    some o'
  else none

def F.laws_toCtor (a : Vl.Ctor) : Option (Vl.Ctor) :=
  (F.laws_toTypeS a.args) >>= fun v =>
  some (⟨a.name, v, a.index⟩ : Vl.Ctor)

def F.laws_toCtorS_l1 (a : List Vl.Ctor) (out : List Vl.Ctor) (i : Nat) : Option (List Vl.Ctor) :=
  if i < a.length then
    (a[i]?) >>= fun x =>
    (F.laws_toCtor x) >>= fun v =>
    (out[i]?) >>= fun x7 =>
    F.laws_toCtorS_l1 a (out.set i v) (i + 1)
  else
    some out
  partial_fixpoint

def F.laws_toCtorS (a : List Vl.Ctor) : Option (List Vl.Ctor) :=
  if a.length ≤ 67108864 then
    (F.laws_toCtorS_l1 a (List.replicate a.length Vl.Ctor.z) 0) >>= fun o' =>
    some o'
  else none

def F.laws_toData (a : Vl.Data) : Option (Vl.Data) :=
  (F.laws_toCtorS a.ctors) >>= fun v =>
  some (⟨a.name, v⟩ : Vl.Data)

def F.laws_toDataS_l1 (a : List Vl.Data) (out : List Vl.Data) (i : Nat) : Option (List Vl.Data) :=
  if i < a.length then
    (a[i]?) >>= fun x =>
    (F.laws_toData x) >>= fun v =>
    (out[i]?) >>= fun x7 =>
    F.laws_toDataS_l1 a (out.set i v) (i + 1)
  else
    some out
  partial_fixpoint

def F.laws_toDataS (a : List Vl.Data) : Option (List Vl.Data) :=
  if a.length ≤ 67108864 then
    (F.laws_toDataS_l1 a (List.replicate a.length Vl.Data.z) 0) >>= fun o' =>
    some o'
  else none

def F.laws_toFunType (a : Vl.FunType) : Option (Vl.FunType) :=
  (F.laws_toType a.arg) >>= fun v =>
  (F.laws_toType a.res) >>= fun v2 =>
  some (⟨v, v2⟩ : Vl.FunType)

def F.laws_toFunTypeS_l1 (a : List Vl.FunType) (out : List Vl.FunType) (i : Nat) : Option (List Vl.FunType) :=
  if i < a.length then
    (a[i]?) >>= fun x =>
    (F.laws_toFunType x) >>= fun v =>
    (out[i]?) >>= fun x7 =>
    F.laws_toFunTypeS_l1 a (out.set i v) (i + 1)
  else
    some out
  partial_fixpoint

def F.laws_toFunTypeS (a : List Vl.FunType) : Option (List Vl.FunType) :=
  if a.length ≤ 67108864 then
    (F.laws_toFunTypeS_l1 a (List.replicate a.length Vl.FunType.z) 0) >>= fun o' =>
    some o'
  else none

def F.laws_toVarType (a : Vl.VarType) : Option (Vl.VarType) :=
  (F.laws_toType a.type) >>= fun v =>
  some (⟨a.var, v⟩ : Vl.VarType)

def F.laws_toVarTypeS_l1 (a : List Vl.VarType) (out : List Vl.VarType) (i : Nat) : Option (List Vl.VarType) :=
  if i < a.length then
    (a[i]?) >>= fun x =>
    (F.laws_toVarType x) >>= fun v =>
    (out[i]?) >>= fun x7 =>
    F.laws_toVarTypeS_l1 a (out.set i v) (i + 1)
  else
    some out
  partial_fixpoint

def F.laws_toVarTypeS (a : List Vl.VarType) : Option (List Vl.VarType) :=
  if a.length ≤ 67108864 then
    (F.laws_toVarTypeS_l1 a (List.replicate a.length Vl.VarType.z) 0) >>= fun o' =>
    some o'
  else none

mutual
def F.laws_toExpr (a : Vl.Expr) : Option (Vl.Expr) :=
  (F.laws_toExprS a.kids) >>= fun v =>
  some (⟨a.op, a.n, a.ctor, v⟩ : Vl.Expr)
  partial_fixpoint
def F.laws_toExprS (a : List Vl.Expr) : Option (List Vl.Expr) :=
  if a.length ≤ 67108864 then
    (F.laws_toExprS_l1 a (List.replicate a.length Vl.Expr.z) 0) >>= fun o' =>
    some o'
  else none
  partial_fixpoint
def F.laws_toExprS_l1 (a : List Vl.Expr) (out : List Vl.Expr) (i : Nat) : Option (List Vl.Expr) :=
  if i < a.length then
    (a[i]?) >>= fun x =>
    (F.laws_toExpr x) >>= fun v =>
    (out[i]?) >>= fun x7 =>
    F.laws_toExprS_l1 a (out.set i v) (i + 1)
  else
    some out
  partial_fixpoint
end

def F.spec_l1Big (c' : Int) : Option (Bool) :=
  if 65 ≤ c' then
    some (decide (c' ≤ 90))
  else
    some false

def F.spec_l1Data (s : ByteArray) : Option (Bool) :=
  if s.size = 1 then
    if 0 < s.size then
      (F.spec_l1Big ((byteAt s 0 : Nat) : Int)) >>= fun v =>
      if v = true then
        some (decide (¬ (s.toList = (⟨#[73]⟩ : ByteArray).toList)))
      else
        some false
    else none
  else
    some false

def F.spec_NameValid_l1 (s : ByteArray) (i : Nat) : Option (Lo Bool Unit) :=
  if i < s.size then
    if byteAt s i < 97 then
      some (.ret false)
    else
      if 122 < byteAt s i then
        some (.ret false)
      else
        if i + 1 ≤ 9223372036854775807 then
          F.spec_NameValid_l1 s (i + 1)
        else none
  else
    some (.go ())
  partial_fixpoint

def F.spec_NameValid (s : ByteArray) : Option (Bool) :=
  if s.size = 0 then
    some false
  else
    if 5 < s.size then
      some false
    else
      if 0 < s.size then
        (F.spec_l1Big ((byteAt s 0 : Nat) : Int)) >>= fun v =>
        if v = true then
          (F.spec_NameValid_l1 s 1) >>= fun o' =>
          match o' with
          | .ret r0 => some r0
          | .go sx =>
            some true
        else
          some false
      else none

def F.spec_l1Arg (n : Int) (t : Vl.Ty) : Option (Bool) :=
  if t.data = (-1) then
    some (decide (t.index = 0))
  else
    if 0 ≤ t.data then
      if t.data < n then
        if (-1) ≤ t.index then
          some (decide (t.index ≤ 3))
        else
          some false
      else
        some false
    else
      some false

def F.spec_l1Ctor_l1 (n : Int) (c' : Vl.Ctor) (i : Nat) : Option (Lo Bool Unit) :=
  if i < c'.args.length then
    (c'.args[i]?) >>= fun x =>
    (F.spec_l1Arg n x) >>= fun v15 =>
    if v15 = true then
      F.spec_l1Ctor_l1 n c' (i + 1)
    else
      some (.ret false)
  else
    some (.go ())
  partial_fixpoint

def F.spec_l1Ctor (n : Int) (c' : Vl.Ctor) : Option (Bool) :=
  (F.spec_NameValid c'.name) >>= fun v =>
  if v = true then
    if 3 < c'.args.length then
      some false
    else
      if c'.index < 0 then
        some false
      else
        if 3 < c'.index then
          some false
        else
          (F.spec_l1Ctor_l1 n c' 0) >>= fun o' =>
          match o' with
          | .ret r0 => some r0
          | .go sx =>
            some true
  else
    some false

def F.spec_l1Twice_l2 (w : List Vl.Data) (d : Int) (k : Int) (i : Nat) (j : Nat) : Option (Lo Bool Unit) :=
  (w[i]?) >>= fun x10 =>
  if j < x10.ctors.length then
    if (i : Int) < d then
      (at? w d) >>= fun x33 =>
      if k < (x33.ctors.length : Int) then
        (x10.ctors[j]?) >>= fun x37 =>
        (at? x33.ctors k) >>= fun x39 =>
        if x37.name.toList = x39.name.toList then
          some (.ret true)
        else
          if j + 1 ≤ 9223372036854775807 then
            F.spec_l1Twice_l2 w d k i (j + 1)
          else none
      else
        if j + 1 ≤ 9223372036854775807 then
          F.spec_l1Twice_l2 w d k i (j + 1)
        else none
    else
      if (j : Int) < k then
        (at? w d) >>= fun x19 =>
        if k < (x19.ctors.length : Int) then
          (x10.ctors[j]?) >>= fun x23 =>
          (at? x19.ctors k) >>= fun x25 =>
          if x23.name.toList = x25.name.toList then
            some (.ret true)
          else
            if j + 1 ≤ 9223372036854775807 then
              F.spec_l1Twice_l2 w d k i (j + 1)
            else none
        else
          if j + 1 ≤ 9223372036854775807 then
            F.spec_l1Twice_l2 w d k i (j + 1)
          else none
      else
        some (.go ())
  else
    some (.go ())
  partial_fixpoint

def F.spec_l1Twice_l3 (w : List Vl.Data) (d : Int) (k : Int) (i : Nat) (j50 : Nat) : Option (Lo Bool Unit) :=
  (w[i]?) >>= fun x51 =>
  if j50 < x51.ctors.length then
    if (i : Int) < d then
      (at? w d) >>= fun x74 =>
      if k < (x74.ctors.length : Int) then
        (x51.ctors[j50]?) >>= fun x78 =>
        (at? x74.ctors k) >>= fun x80 =>
        if x78.name.toList = x80.name.toList then
          some (.ret true)
        else
          if j50 + 1 ≤ 9223372036854775807 then
            F.spec_l1Twice_l3 w d k i (j50 + 1)
          else none
      else
        if j50 + 1 ≤ 9223372036854775807 then
          F.spec_l1Twice_l3 w d k i (j50 + 1)
        else none
    else
      if (j50 : Int) < k then
        (at? w d) >>= fun x60 =>
        if k < (x60.ctors.length : Int) then
          (x51.ctors[j50]?) >>= fun x64 =>
          (at? x60.ctors k) >>= fun x66 =>
          if x64.name.toList = x66.name.toList then
            some (.ret true)
          else
            if j50 + 1 ≤ 9223372036854775807 then
              F.spec_l1Twice_l3 w d k i (j50 + 1)
            else none
        else
          if j50 + 1 ≤ 9223372036854775807 then
            F.spec_l1Twice_l3 w d k i (j50 + 1)
          else none
      else
        some (.go ())
  else
    some (.go ())
  partial_fixpoint

def F.spec_l1Twice_l1 (w : List Vl.Data) (d : Int) (k : Int) (i : Nat) : Option (Lo Bool Unit) :=
  if (i : Int) ≤ d then
    if (i : Int) < d then
      (w[i]?) >>= fun x =>
      (at? w d) >>= fun x6 =>
      if x.name.toList = x6.name.toList then
        some (.ret true)
      else
        (F.spec_l1Twice_l2 w d k i 0) >>= fun o' =>
        match o' with
        | .ret r0 => some (.ret r0)
        | .go sx =>
          if i + 1 ≤ 9223372036854775807 then
            F.spec_l1Twice_l1 w d k (i + 1)
          else none
    else
      (F.spec_l1Twice_l3 w d k i 0) >>= fun o'89 =>
      match o'89 with
      | .ret r093 => some (.ret r093)
      | .go sx90 =>
        if i + 1 ≤ 9223372036854775807 then
          F.spec_l1Twice_l1 w d k (i + 1)
        else none
  else
    some (.go ())
  partial_fixpoint

def F.spec_l1Twice (w : List Vl.Data) (d : Int) (k : Int) : Option (Bool) :=
  (F.spec_l1Twice_l1 w d k 0) >>= fun o'95 =>
  match o'95 with
  | .ret r097 => some r097
  | .go sx96 =>
    some false

def F.spec_WorldValid_l2 (w : List Vl.Data) (d : Nat) (k : Nat) : Option (Lo Bool Unit) :=
  (w[d]?) >>= fun x17 =>
  if k < x17.ctors.length then
    (x17.ctors[k]?) >>= fun x22 =>
    (F.spec_l1Ctor (w.length : Int) x22) >>= fun v24 =>
    if v24 = true then
      (F.spec_l1Twice w (d : Int) (k : Int)) >>= fun v28 =>
      if v28 = true then
        some (.ret false)
      else
        if k + 1 ≤ 9223372036854775807 then
          F.spec_WorldValid_l2 w d (k + 1)
        else none
    else
      some (.ret false)
  else
    some (.go ())
  partial_fixpoint

def F.spec_WorldValid_l1 (w : List Vl.Data) (d : Nat) : Option (Lo Bool Unit) :=
  if d < w.length then
    (w[d]?) >>= fun x =>
    (F.spec_l1Data x.name) >>= fun v =>
    if v = true then
      if x.ctors.length = 0 then
        some (.ret false)
      else
        if 4 < x.ctors.length then
          some (.ret false)
        else
          (F.spec_WorldValid_l2 w d 0) >>= fun o' =>
          match o' with
          | .ret r0 => some (.ret r0)
          | .go sx =>
            if d + 1 ≤ 9223372036854775807 then
              F.spec_WorldValid_l1 w (d + 1)
            else none
    else
      some (.ret false)
  else
    some (.go ())
  partial_fixpoint

def F.spec_WorldValid (w : List Vl.Data) : Option (Bool) :=
  if 4 < w.length then
    some false
  else
    (F.spec_WorldValid_l1 w 0) >>= fun o'38 =>
    match o'38 with
    | .ret r040 => some r040
    | .go sx39 =>
      some true

def F.spec_l1Is (w : List Vl.Data) (t : Vl.Ty) : Option (Bool) :=
  (F.spec_l1Arg (w.length : Int) t) >>= fun v =>
  if v = true then
    some (decide (0 ≤ t.index))
  else
    some false

def F.spec_TypeValid (w : List Vl.Data) (t : Vl.Ty) : Option (Bool) :=
  (F.spec_WorldValid w) >>= fun v =>
  if v = true then
    (F.spec_l1Is w t) >>= fun v4 =>
    some v4
  else
    some false

def F.spec_l12Funs_l1 (w : List Vl.Data) (funs : List Vl.FunType) (i : Nat) : Option (Lo Bool Unit) :=
  if i < funs.length then
    if i ≤ 4 then
      (funs[i]?) >>= fun x =>
      (F.spec_l1Is w x.arg) >>= fun v =>
      if v = true then
        (F.spec_l1Is w x.res) >>= fun v11 =>
        if v11 = true then
          F.spec_l12Funs_l1 w funs (i + 1)
        else
          some (.ret false)
      else
        some (.ret false)
    else
      some (.go ())
  else
    some (.go ())
  partial_fixpoint

def F.spec_l12Funs (w : List Vl.Data) (funs : List Vl.FunType) : Option (Bool) :=
  (F.spec_l12Funs_l1 w funs 0) >>= fun o' =>
  match o' with
  | .ret r0 => some r0
  | .go sx =>
    some (decide (funs.length ≤ 4))

def F.spec_l3Find_l1 (list : List Vl.VarType) (n : Int) (i : Nat) : Option (Lo Int Unit) :=
  if i < list.length then
    (list[i]?) >>= fun x =>
    if x.var = n then
      some (.ret (i : Int))
    else
      F.spec_l3Find_l1 list n (i + 1)
  else
    some (.go ())
  partial_fixpoint

def F.spec_l3Find (list : List Vl.VarType) (n : Int) : Option (Int) :=
  (F.spec_l3Find_l1 list n 0) >>= fun o' =>
  match o' with
  | .ret r0 => some r0
  | .go sx =>
    some (-1 : Int)

def F.spec_l12Vars_l1 (w : List Vl.Data) (vars : List Vl.VarType) (i : Nat) : Option (Lo Bool Unit) :=
  if i < vars.length then
    (vars[i]?) >>= fun x =>
    if x.var < 0 then
      some (.ret false)
    else
      if 5 < x.var then
        some (.ret false)
      else
        (F.spec_l1Is w x.type) >>= fun v =>
        if v = true then
          (F.spec_l3Find vars x.var) >>= fun v12 =>
          if v12 = (i : Int) then
            F.spec_l12Vars_l1 w vars (i + 1)
          else
            some (.ret false)
        else
          some (.ret false)
  else
    some (.go ())
  partial_fixpoint

def F.spec_l12Vars (w : List Vl.Data) (vars : List Vl.VarType) : Option (Bool) :=
  (F.spec_l12Vars_l1 w vars 0) >>= fun o' =>
  match o' with
  | .ret r0 => some r0
  | .go sx =>
    some true

def F.spec_l12Right (w : List Vl.Data) (funs : List Vl.FunType) (vars : List Vl.VarType) (t : Vl.Ty) : Option (Bool) :=
  (F.spec_TypeValid w t) >>= fun v =>
  if v = true then
    (F.spec_l12Funs w funs) >>= fun v4 =>
    if v4 = true then
      (F.spec_l12Vars w vars) >>= fun v8 =>
      some v8
    else
      some false
  else
    some false

def F.spec_l12Fits (a : Vl.Ty) (b : Vl.Ty) : Option (Bool) :=
  if a.data = b.data then
    if b.index = 0 then
      some true
    else
      some (decide (a.index = b.index))
  else
    some false

def F.spec_l1Fits (c' : Vl.Ctor) (index' : Int) : Option (Bool) :=
  if c'.index = 0 then
    some true
  else
    if index' = 0 then
      some true
    else
      some (decide (c'.index = index'))

def F.spec_l1Ctors_l1 (w : List Vl.Data) (t : Vl.Ty) (out : List Int) (k : Nat) : Option (List Int) :=
  (at? w t.data) >>= fun x =>
  if k < x.ctors.length then
    (x.ctors[k]?) >>= fun x7 =>
    (F.spec_l1Fits x7 t.index) >>= fun v =>
    if v = true then
      if out.length + 1 ≤ 67108864 then
        if k + 1 ≤ 9223372036854775807 then
          F.spec_l1Ctors_l1 w t (out ++ [(k : Int)]) (k + 1)
        else none
      else none
    else
      if k + 1 ≤ 9223372036854775807 then
        F.spec_l1Ctors_l1 w t out (k + 1)
      else none
  else
    some out
  partial_fixpoint

def F.spec_l1Ctors (w : List Vl.Data) (t : Vl.Ty) : Option (List Int) :=
  if t.data = (-1) then
    some []
  else
    (F.spec_l1Ctors_l1 w t [] 0) >>= fun o' =>
    some o'

def F.spec_l1Has_l1 (list : List Int) (n : Int) (i : Nat) : Option (Lo Bool Unit) :=
  if i < list.length then
    (list[i]?) >>= fun x =>
    if x = n then
      some (.ret true)
    else
      F.spec_l1Has_l1 list n (i + 1)
  else
    some (.go ())
  partial_fixpoint

def F.spec_l1Has (list : List Int) (n : Int) : Option (Bool) :=
  (F.spec_l1Has_l1 list n 0) >>= fun o' =>
  match o' with
  | .ret r0 => some r0
  | .go sx =>
    some false

def F.spec_l1Result (c' : Vl.Ctor) (index' : Int) : Option (Int) :=
  if c'.index = 0 then
    some index'
  else
    some c'.index

def F.spec_l1Args_l1 (t : Vl.Ty) (x2 : Vl.Ctor) (out : List Vl.Ty) (i : Nat) : Option (List Vl.Ty) :=
  if i < x2.args.length then
    (x2.args[i]?) >>= fun x7 =>
    if x7.index = (-1) then
      (F.spec_l1Result x2 t.index) >>= fun v =>
      if out.length + 1 ≤ 67108864 then
        F.spec_l1Args_l1 t x2 (out ++ [(⟨x7.data, v⟩ : Vl.Ty)]) (i + 1)
      else none
    else
      if out.length + 1 ≤ 67108864 then
        F.spec_l1Args_l1 t x2 (out ++ [x7]) (i + 1)
      else none
  else
    some out
  partial_fixpoint

def F.spec_l1Args (w : List Vl.Data) (t : Vl.Ty) (ctor : Int) : Option (List Vl.Ty) :=
  (at? w t.data) >>= fun x =>
  (at? x.ctors ctor) >>= fun x2 =>
  (F.spec_l1Args_l1 t x2 [] 0) >>= fun o' =>
  some o'

def F.spec_l12Kids (w : List Vl.Data) (funs : List Vl.FunType) (vars : List Vl.VarType) (t : Vl.Ty) (e : Vl.Expr) : Option ((List Vl.Ty) × Bool) :=
  if e.op = 3 then
    if e.n = 0 then
      (F.spec_l1Ctors w t) >>= fun v35 =>
      (F.spec_l1Has v35 e.ctor) >>= fun v37 =>
      if v37 = true then
        (F.spec_l1Args w t e.ctor) >>= fun v41 =>
        some (v41, true)
      else
        some ([], false)
    else
      some ([], false)
  else
    if e.ctor = 0 then
      if e.op = 4 then
        if e.n = 0 then
          some ([(⟨(-1 : Int), (0 : Int)⟩ : Vl.Ty), (⟨(-1 : Int), (0 : Int)⟩ : Vl.Ty)], dec (eq2 (t.data, t.index) ((-1), 0)))
        else
          some ([], false)
      else
        if e.op = 1 then
          if dec (eq2 (t.data, t.index) ((-1), 0)) = true then
            if 0 ≤ e.n then
              some ([], decide (e.n ≤ 9))
            else
              some ([], false)
          else
            some ([], false)
        else
          if e.op = 2 then
            (F.spec_l3Find vars e.n) >>= fun v =>
            if 0 ≤ v then
              (at? vars v) >>= fun x =>
              (F.spec_l12Fits x.type t) >>= fun v21 =>
              some ([], v21)
            else
              some ([], false)
          else
            if e.op = 5 then
              if e.n < 0 then
                some ([], false)
              else
                if (funs.length : Int) ≤ e.n then
                  some ([], false)
                else
                  (at? funs e.n) >>= fun x29 =>
                  (F.spec_l12Fits x29.res t) >>= fun v31 =>
                  some ([x29.arg], v31)
            else
              some ([], false)
    else
      some ([], false)

mutual
def F.spec_l12Typed (w : List Vl.Data) (funs : List Vl.FunType) (vars : List Vl.VarType) (t : Vl.Ty) (e : Vl.Expr) (depth : Int) : Option (Bool) :=
  if depth < 1 then
    some false
  else
    (F.spec_l12Kids w funs vars t e) >>= fun v =>
    if v.2 = true then
      if e.kids.length = v.1.length then
        (F.spec_l12Typed_l1 w funs vars e depth v 0) >>= fun o' =>
        match o' with
        | .ret r0 => some r0
        | .go sx =>
          some true
      else
        some false
    else
      some false
  partial_fixpoint
def F.spec_l12Typed_l1 (w : List Vl.Data) (funs : List Vl.FunType) (vars : List Vl.VarType) (e : Vl.Expr) (depth : Int) (v : (List Vl.Ty) × Bool) (i : Nat) : Option (Lo Bool Unit) :=
  if i < v.1.length then
    (v.1[i]?) >>= fun x =>
    (e.kids[i]?) >>= fun x13 =>
    (F.spec_l12Typed w funs vars x x13 (IntKind.i64.wrap (depth - 1))) >>= fun v15 =>
    if v15 = true then
      F.spec_l12Typed_l1 w funs vars e depth v (i + 1)
    else
      some (.ret false)
  else
    some (.go ())
  partial_fixpoint
end

mutual
def F.spec_l12Count (e : Vl.Expr) (most : Int) : Option (Int) :=
  (F.spec_l12Count_l1 e most (1 : Int) 0) >>= fun o' =>
  some o'
  partial_fixpoint
def F.spec_l12Count_l1 (e : Vl.Expr) (most : Int) (n : Int) (i : Nat) : Option (Int) :=
  if i < e.kids.length then
    if n ≤ most then
      (e.kids[i]?) >>= fun x =>
      (F.spec_l12Count x (IntKind.i64.wrap (most - n))) >>= fun v =>
      F.spec_l12Count_l1 e most (IntKind.i64.wrap (n + v)) (i + 1)
    else
      some n
  else
    some n
  partial_fixpoint
end

def F.spec_l12Is (w : List Vl.Data) (funs : List Vl.FunType) (vars : List Vl.VarType) (t : Vl.Ty) (e : Vl.Expr) : Option (Bool) :=
  (F.spec_l12Typed w funs vars t e (10 : Int)) >>= fun v =>
  if v = true then
    (F.spec_l12Count e (60 : Int)) >>= fun v4 =>
    some (decide (v4 ≤ 60))
  else
    some false

def F.spec_ExprValid (w : List Vl.Data) (funs : List Vl.FunType) (vars : List Vl.VarType) (t : Vl.Ty) (e : Vl.Expr) : Option (Bool) :=
  (F.spec_l12Right w funs vars t) >>= fun v =>
  if v = true then
    (F.spec_l12Is w funs vars t e) >>= fun v4 =>
    some v4
  else
    some false

def F.spec_l17Dec_l1 (n7 : Int) (out : ByteArray) : Option (Int × ByteArray) :=
  if 9 < n7 then
    if (strB [IntKind.u8.wrap (IntKind.i64.wrap (48 + n7.tmod 10))]).size + out.size ≤ 9223372036854775807 then
      F.spec_l17Dec_l1 (IntKind.i64.wrap (n7.tdiv 10)) ((strB [IntKind.u8.wrap (IntKind.i64.wrap (48 + n7.tmod 10))]) ++ out)
    else none
  else
    some (n7, out)
  partial_fixpoint

def F.spec_l17Dec (n : Int) : Option (ByteArray) :=
  if n < (-9223372036854775807) then
    some (⟨#[45, 57, 50, 50, 51, 51, 55, 50, 48, 51, 54, 56, 53, 52, 55, 55, 53, 56, 48, 56]⟩ : ByteArray)
  else
    if n < 0 then
      (F.spec_l17Dec (IntKind.i64.wrap (0 - n))) >>= fun v =>
      if (⟨#[45]⟩ : ByteArray).size + v.size ≤ 9223372036854775807 then
        some ((⟨#[45]⟩ : ByteArray) ++ v)
      else none
    else
      (F.spec_l17Dec_l1 n ByteArray.empty) >>= fun o' =>
      if (strB [IntKind.u8.wrap (IntKind.i64.wrap (48 + o'.1))]).size + o'.2.size ≤ 9223372036854775807 then
        some ((strB [IntKind.u8.wrap (IntKind.i64.wrap (48 + o'.1))]) ++ o'.2)
      else none
  partial_fixpoint

def F.spec_l3Letter (n : Int) : Option (ByteArray) :=
  some (strB [IntKind.u8.wrap (97 + IntKind.u8.wrap n)])

mutual
def F.spec_l12Text (w : List Vl.Data) (funs : List Vl.FunType) (t : Vl.Ty) (e : Vl.Expr) : Option (ByteArray) :=
  if e.op = 1 then
    (F.spec_l17Dec e.n) >>= fun v =>
    some v
  else
    if e.op = 2 then
      (F.spec_l3Letter e.n) >>= fun v6 =>
      some v6
    else
      if e.op = 4 then
        (e.kids[0]?) >>= fun x =>
        (F.spec_l12Text w funs (⟨(-1 : Int), (0 : Int)⟩ : Vl.Ty) x) >>= fun v11 =>
        if (⟨#[43, 40]⟩ : ByteArray).size + v11.size ≤ 9223372036854775807 then
          if ((⟨#[43, 40]⟩ : ByteArray) ++ v11).size + (⟨#[44]⟩ : ByteArray).size ≤ 9223372036854775807 then
            (e.kids[1]?) >>= fun x15 =>
            (F.spec_l12Text w funs (⟨(-1 : Int), (0 : Int)⟩ : Vl.Ty) x15) >>= fun v17 =>
            if (((⟨#[43, 40]⟩ : ByteArray) ++ v11) ++ (⟨#[44]⟩ : ByteArray)).size + v17.size ≤ 9223372036854775807 then
              if ((((⟨#[43, 40]⟩ : ByteArray) ++ v11) ++ (⟨#[44]⟩ : ByteArray)) ++ v17).size + (⟨#[41]⟩ : ByteArray).size ≤ 9223372036854775807 then
                some (((((⟨#[43, 40]⟩ : ByteArray) ++ v11) ++ (⟨#[44]⟩ : ByteArray)) ++ v17) ++ (⟨#[41]⟩ : ByteArray))
              else none
            else none
          else none
        else none
      else
        if e.op = 5 then
          (F.spec_l17Dec e.n) >>= fun v23 =>
          if (⟨#[35]⟩ : ByteArray).size + v23.size ≤ 9223372036854775807 then
            if ((⟨#[35]⟩ : ByteArray) ++ v23).size + (⟨#[40]⟩ : ByteArray).size ≤ 9223372036854775807 then
              (at? funs e.n) >>= fun x27 =>
              (e.kids[0]?) >>= fun x29 =>
              (F.spec_l12Text w funs x27.arg x29) >>= fun v31 =>
              if (((⟨#[35]⟩ : ByteArray) ++ v23) ++ (⟨#[40]⟩ : ByteArray)).size + v31.size ≤ 9223372036854775807 then
                if ((((⟨#[35]⟩ : ByteArray) ++ v23) ++ (⟨#[40]⟩ : ByteArray)) ++ v31).size + (⟨#[41]⟩ : ByteArray).size ≤ 9223372036854775807 then
                  some (((((⟨#[35]⟩ : ByteArray) ++ v23) ++ (⟨#[40]⟩ : ByteArray)) ++ v31) ++ (⟨#[41]⟩ : ByteArray))
                else none
              else none
            else none
          else none
        else
          (at? w t.data) >>= fun x35 =>
          (at? x35.ctors e.ctor) >>= fun x37 =>
          (F.spec_l1Args w t e.ctor) >>= fun v39 =>
          (F.spec_l12Text_l1 w funs e v39 x37.name 0) >>= fun o' =>
          if 0 < v39.length then
            if o'.size + (⟨#[41]⟩ : ByteArray).size ≤ 9223372036854775807 then
              some (o' ++ (⟨#[41]⟩ : ByteArray))
            else none
          else
            some o'
  partial_fixpoint
def F.spec_l12Text_l1 (w : List Vl.Data) (funs : List Vl.FunType) (e : Vl.Expr) (v39 : List Vl.Ty) (out : ByteArray) (i : Nat) : Option (ByteArray) :=
  if i < v39.length then
    if i = 0 then
      if out.size + (⟨#[40]⟩ : ByteArray).size ≤ 9223372036854775807 then
        (v39[i]?) >>= fun x48 =>
        (e.kids[i]?) >>= fun x50 =>
        (F.spec_l12Text w funs x48 x50) >>= fun v52 =>
        if (out ++ (⟨#[40]⟩ : ByteArray)).size + v52.size ≤ 9223372036854775807 then
          F.spec_l12Text_l1 w funs e v39 ((out ++ (⟨#[40]⟩ : ByteArray)) ++ v52) (i + 1)
        else none
      else none
    else
      if out.size + (⟨#[44]⟩ : ByteArray).size ≤ 9223372036854775807 then
        (v39[i]?) >>= fun x57 =>
        (e.kids[i]?) >>= fun x59 =>
        (F.spec_l12Text w funs x57 x59) >>= fun v61 =>
        if (out ++ (⟨#[44]⟩ : ByteArray)).size + v61.size ≤ 9223372036854775807 then
          F.spec_l12Text_l1 w funs e v39 ((out ++ (⟨#[44]⟩ : ByteArray)) ++ v61) (i + 1)
        else none
      else none
  else
    some out
  partial_fixpoint
end

def F.spec_FormatExpr (w : List Vl.Data) (funs : List Vl.FunType) (vars : List Vl.VarType) (t : Vl.Ty) (e : Vl.Expr) : Option (ByteArray) :=
  (F.spec_ExprValid w funs vars t e) >>= fun v =>
  if v = true then
    (F.spec_l12Text w funs t e) >>= fun v4 =>
    some v4
  else
    some ByteArray.empty

def F.impl_within (n : Int) (low : Int) (high : Int) : Option (Bool) :=
  if low ≤ n then
    some (decide (n ≤ high))
  else
    some false

def F.impl_NameValid_l1 (s : ByteArray) (i : Nat) : Option (Lo Bool Unit) :=
  if i < s.size then
    if byteAt s i < 97 then
      some (.ret false)
    else
      if 122 < byteAt s i then
        some (.ret false)
      else
        if i + 1 ≤ 9223372036854775807 then
          F.impl_NameValid_l1 s (i + 1)
        else none
  else
    some (.go ())
  partial_fixpoint

def F.impl_NameValid (s : ByteArray) : Option (Bool) :=
  (F.impl_within (s.size : Int) (1 : Int) (5 : Int)) >>= fun v =>
  if v = true then
    if 0 < s.size then
      if byteAt s 0 < 65 then
        some false
      else
        if 90 < byteAt s 0 then
          some false
        else
          (F.impl_NameValid_l1 s 1) >>= fun o' =>
          match o' with
          | .ret r0 => some r0
          | .go sx =>
            some true
    else none
  else
    some false

def F.impl_argOk (w : List Vl.Data) (t : Vl.Ty) : Option (Bool) :=
  if dec (eq2 (t.data, t.index) ((-1), 0)) = true then
    some true
  else
    (F.impl_within t.data (0 : Int) (IntKind.i64.wrap ((w.length : Int) - 1))) >>= fun v =>
    if v = true then
      (F.impl_within t.index (-1 : Int) (3 : Int)) >>= fun v6 =>
      some v6
    else
      some false

def F.impl_ctorOk_1 (t : Vl.Ty) (a1 : List Vl.Data) : Option (Bool) :=
  (F.impl_argOk a1 t) >>= fun v =>
  some (!v)

def F.slices_IndexFunc_Type__impl_ctorOk_1_l1 (s : List Vl.Ty) (k0 : List Vl.Data) (i : Nat) : Option (Lo Int Unit) :=
  if i < s.length then
    (s[i]?) >>= fun x =>
    (F.impl_ctorOk_1 x k0) >>= fun v =>
    if v = true then
      some (.ret (i : Int))
    else
      F.slices_IndexFunc_Type__impl_ctorOk_1_l1 s k0 (i + 1)
  else
    some (.go ())
  partial_fixpoint

def F.slices_IndexFunc_Type__impl_ctorOk_1 (s : List Vl.Ty) (k0 : List Vl.Data) : Option (Int) :=
  (F.slices_IndexFunc_Type__impl_ctorOk_1_l1 s k0 0) >>= fun o' =>
  match o' with
  | .ret r0 => some r0
  | .go sx =>
    some (-1 : Int)

def F.slices_ContainsFunc_Type__impl_ctorOk_1 (s : List Vl.Ty) (k0 : List Vl.Data) : Option (Bool) :=
  (F.slices_IndexFunc_Type__impl_ctorOk_1 s k0) >>= fun v =>
  some (decide (0 ≤ v))

def F.impl_ctorOk (w : List Vl.Data) (c' : Vl.Ctor) : Option (Bool) :=
  (F.impl_NameValid c'.name) >>= fun v =>
  if v = true then
    if c'.args.length ≤ 3 then
      (F.impl_within c'.index (0 : Int) (3 : Int)) >>= fun v7 =>
      if v7 = true then
        (F.slices_ContainsFunc_Type__impl_ctorOk_1 c'.args w) >>= fun v11 =>
        some (!v11)
      else
        some false
    else
      some false
  else
    some false

def F.impl_WorldValid_l2 (w : List Vl.Data) (met4 : List ByteArray) (i : Nat) (x : Vl.Data) (met26 : List ByteArray) (i27 : Nat) : Option (Lo Bool (List ByteArray)) :=
  if i27 < x.ctors.length then
    (x.ctors[i27]?) >>= fun x31 =>
    (F.impl_ctorOk w x31) >>= fun v33 =>
    if v33 = true then
      if dec (x31.name ∈ met26) = true then
        some (.ret false)
      else
        F.impl_WorldValid_l2 w met4 i x (msIns met26 x31.name) (i27 + 1)
    else
      some (.ret false)
  else
    some (.go met26)
  partial_fixpoint

def F.impl_WorldValid_l1 (w : List Vl.Data) (met : List ByteArray) (met4 : List ByteArray) (i : Nat) : Option (Lo Bool ((List ByteArray) × (List ByteArray))) :=
  if i < w.length then
    (w[i]?) >>= fun x =>
    if x.name.size = 1 then
      if 0 < x.name.size then
        if byteAt x.name 0 < 65 then
          some (.ret false)
        else
          if 90 < byteAt x.name 0 then
            some (.ret false)
          else
            if x.name.toList = (⟨#[73]⟩ : ByteArray).toList then
              some (.ret false)
            else
              if dec (x.name ∈ met4) = true then
                some (.ret false)
              else
                (F.impl_within (x.ctors.length : Int) (1 : Int) (4 : Int)) >>= fun v =>
                if v = true then
                  (F.impl_WorldValid_l2 w met4 i x met 0) >>= fun o' =>
                  match o' with
                  | .ret r0 => some (.ret r0)
                  | .go sx =>
                    if i + 1 ≤ 9223372036854775807 then
                      F.impl_WorldValid_l1 w sx (msIns met4 x.name) (i + 1)
                    else none
                else
                  some (.ret false)
      else none
    else
      some (.ret false)
  else
    some (.go (met, met4))
  partial_fixpoint

def F.impl_WorldValid (w : List Vl.Data) : Option (Bool) :=
  if 4 < w.length then
    some false
  else
    (F.impl_WorldValid_l1 w [] [] 0) >>= fun o'44 =>
    match o'44 with
    | .ret r046 => some r046
    | .go sx45 =>
      some true

def F.impl_typeOk (w : List Vl.Data) (t : Vl.Ty) : Option (Bool) :=
  if dec (eq2 (t.data, t.index) ((-1), 0)) = true then
    some true
  else
    (F.impl_within t.data (0 : Int) (IntKind.i64.wrap ((w.length : Int) - 1))) >>= fun v =>
    if v = true then
      (F.impl_within t.index (0 : Int) (3 : Int)) >>= fun v6 =>
      some v6
    else
      some false

def F.impl_TypeValid (w : List Vl.Data) (t : Vl.Ty) : Option (Bool) :=
  (F.impl_WorldValid w) >>= fun v =>
  if v = true then
    (F.impl_typeOk w t) >>= fun v4 =>
    some v4
  else
    some false

def F.impl_scope_ok_1 (f : Vl.FunType) (a1 : Vl.T_impl_scope) : Option (Bool) :=
  (F.impl_typeOk a1.f0 f.arg) >>= fun v =>
  if v = true then
    (F.impl_typeOk a1.f0 f.res) >>= fun v4 =>
    some (!v4)
  else
    some true

def F.slices_IndexFunc_FunType__impl_scope_ok_1_l1 (s : List Vl.FunType) (k0 : Vl.T_impl_scope) (i : Nat) : Option (Lo Int Unit) :=
  if i < s.length then
    (s[i]?) >>= fun x =>
    (F.impl_scope_ok_1 x k0) >>= fun v =>
    if v = true then
      some (.ret (i : Int))
    else
      F.slices_IndexFunc_FunType__impl_scope_ok_1_l1 s k0 (i + 1)
  else
    some (.go ())
  partial_fixpoint

def F.slices_IndexFunc_FunType__impl_scope_ok_1 (s : List Vl.FunType) (k0 : Vl.T_impl_scope) : Option (Int) :=
  (F.slices_IndexFunc_FunType__impl_scope_ok_1_l1 s k0 0) >>= fun o' =>
  match o' with
  | .ret r0 => some r0
  | .go sx =>
    some (-1 : Int)

def F.slices_ContainsFunc_FunType__impl_scope_ok_1 (s : List Vl.FunType) (k0 : Vl.T_impl_scope) : Option (Bool) :=
  (F.slices_IndexFunc_FunType__impl_scope_ok_1 s k0) >>= fun v =>
  some (decide (0 ≤ v))

def F.impl_isVar (v : Int) : Option (Bool) :=
  (F.impl_within v (0 : Int) (5 : Int)) >>= fun v1 =>
  some v1

def F.impl_scope_ok_l1 (s : Vl.T_impl_scope) (set' : Nat → Bool) (i : Nat) : Option (Lo Bool Unit) :=
  if i < s.f2.length then
    (s.f2[i]?) >>= fun x =>
    (F.impl_isVar x.var) >>= fun v11 =>
    if v11 = true then
      if 0 ≤ x.var ∧ x.var.toNat < 6 then
        if set' x.var.toNat = true then
          some (.ret false)
        else
          (F.impl_typeOk s.f0 x.type) >>= fun v18 =>
          if v18 = true then
            F.impl_scope_ok_l1 s (updF set' x.var.toNat true) (i + 1)
          else
            some (.ret false)
      else none
    else
      some (.ret false)
  else
    some (.go ())
  partial_fixpoint

def F.impl_scope_ok (s : Vl.T_impl_scope) : Option (Bool) :=
  if 4 < s.f1.length then
    some false
  else
    (F.slices_ContainsFunc_FunType__impl_scope_ok_1 s.f1 s) >>= fun v =>
    if v = true then
      some false
    else
      (F.impl_scope_ok_l1 s (fun _ => false) 0) >>= fun o' =>
      match o' with
      | .ret r0 => some r0
      | .go sx =>
        some true

def F.impl_scope_typeOfVar_1 (x : Vl.VarType) (a1 : Int) : Option (Bool) :=
  some (decide (x.var = a1))

def F.slices_IndexFunc_VarType__impl_scope_typeOfVar_1_l1 (s : List Vl.VarType) (k0 : Int) (i : Nat) : Option (Lo Int Unit) :=
  if i < s.length then
    (s[i]?) >>= fun x =>
    (F.impl_scope_typeOfVar_1 x k0) >>= fun v =>
    if v = true then
      some (.ret (i : Int))
    else
      F.slices_IndexFunc_VarType__impl_scope_typeOfVar_1_l1 s k0 (i + 1)
  else
    some (.go ())
  partial_fixpoint

def F.slices_IndexFunc_VarType__impl_scope_typeOfVar_1 (s : List Vl.VarType) (k0 : Int) : Option (Int) :=
  (F.slices_IndexFunc_VarType__impl_scope_typeOfVar_1_l1 s k0 0) >>= fun o' =>
  match o' with
  | .ret r0 => some r0
  | .go sx =>
    some (-1 : Int)

def F.impl_scope_typeOfVar (s : Vl.T_impl_scope) (v : Int) : Option (Vl.Ty × Bool) :=
  (F.slices_IndexFunc_VarType__impl_scope_typeOfVar_1 s.f2 v) >>= fun v1 =>
  if v1 < 0 then
    some ((⟨(0 : Int), (0 : Int)⟩ : Vl.Ty), false)
  else
    (at? s.f2 v1) >>= fun x =>
    some (x.type, true)

def F.impl_fits (a : Vl.Ty) (b : Vl.Ty) : Option (Bool) :=
  if a.data = b.data then
    if b.index = 0 then
      some true
    else
      some (decide (a.index = b.index))
  else
    some false

def F.impl_ctorsOf_l1 (t : Vl.Ty) (x : Vl.Data) (i : Nat) (out : List Int) : Option (List Int) :=
  if i < x.ctors.length then
    (x.ctors[i]?) >>= fun x7 =>
    if t.index = 0 then
      if out.length + 1 ≤ 67108864 then
        F.impl_ctorsOf_l1 t x (i + 1) (out ++ [(i : Int)])
      else none
    else
      if x7.index = 0 then
        if out.length + 1 ≤ 67108864 then
          F.impl_ctorsOf_l1 t x (i + 1) (out ++ [(i : Int)])
        else none
      else
        if x7.index = t.index then
          if out.length + 1 ≤ 67108864 then
            F.impl_ctorsOf_l1 t x (i + 1) (out ++ [(i : Int)])
          else none
        else
          F.impl_ctorsOf_l1 t x (i + 1) out
  else
    some out
  partial_fixpoint

def F.impl_ctorsOf (w : List Vl.Data) (t : Vl.Ty) : Option (List Int) :=
  if t.data = (-1) then
    some []
  else
    (at? w t.data) >>= fun x =>
    (F.impl_ctorsOf_l1 t x 0 []) >>= fun o' =>
    some o'

def F.slices_Index_int_l1 (s : List Int) (v : Int) (i : Nat) : Option (Lo Int Unit) :=
  if i < s.length then
    (s[i]?) >>= fun x =>
    if v = x then
      some (.ret (i : Int))
    else
      F.slices_Index_int_l1 s v (i + 1)
  else
    some (.go ())
  partial_fixpoint

def F.slices_Index_int (s : List Int) (v : Int) : Option (Int) :=
  (F.slices_Index_int_l1 s v 0) >>= fun o' =>
  match o' with
  | .ret r0 => some r0
  | .go sx =>
    some (-1 : Int)

def F.slices_Contains_int (s : List Int) (v : Int) : Option (Bool) :=
  (F.slices_Index_int s v) >>= fun v1 =>
  some (decide (0 ≤ v1))

def F.impl_argTypes_l1 (t : Vl.Ty) (x2 : Vl.Ctor) (i : Nat) (out : List Vl.Ty) : Option (List Vl.Ty) :=
  if i < x2.args.length then
    (x2.args[i]?) >>= fun x9 =>
    if x9.index = (-1) then
      if out.length + 1 ≤ 67108864 then
        F.impl_argTypes_l1 t x2 (i + 1) (out ++ [(⟨x9.data, t.index⟩ : Vl.Ty)])
      else none
    else
      if out.length + 1 ≤ 67108864 then
        F.impl_argTypes_l1 t x2 (i + 1) (out ++ [x9])
      else none
  else
    some out
  partial_fixpoint

def F.impl_argTypes_l2 (x2 : Vl.Ctor) (i18 : Nat) (out19 : List Vl.Ty) : Option (List Vl.Ty) :=
  if i18 < x2.args.length then
    (x2.args[i18]?) >>= fun x23 =>
    if x23.index = (-1) then
      if out19.length + 1 ≤ 67108864 then
        F.impl_argTypes_l2 x2 (i18 + 1) (out19 ++ [(⟨x23.data, x2.index⟩ : Vl.Ty)])
      else none
    else
      if out19.length + 1 ≤ 67108864 then
        F.impl_argTypes_l2 x2 (i18 + 1) (out19 ++ [x23])
      else none
  else
    some out19
  partial_fixpoint

def F.impl_argTypes (w : List Vl.Data) (t : Vl.Ty) (ctor : Int) : Option (List Vl.Ty) :=
  (at? w t.data) >>= fun x =>
  (at? x.ctors ctor) >>= fun x2 =>
  if x2.index = 0 then
    (F.impl_argTypes_l1 t x2 0 []) >>= fun o' =>
    some o'
  else
    (F.impl_argTypes_l2 x2 0 []) >>= fun o'32 =>
    some o'32

def F.impl_scope_kids (s : Vl.T_impl_scope) (t : Vl.Ty) (e : Vl.Expr) : Option ((List Vl.Ty) × Bool) :=
  if e.op = 1 then
    if t.data = (-1) then
      (F.impl_within e.n (0 : Int) (9 : Int)) >>= fun v =>
      if v = true then
        some ([], decide (e.ctor = 0))
      else
        some ([], false)
    else
      some ([], false)
  else
    if e.op = 2 then
      (F.impl_scope_typeOfVar s e.n) >>= fun v10 =>
      if v10.2 = true then
        (F.impl_fits v10.1 t) >>= fun v14 =>
        if v14 = true then
          some ([], decide (e.ctor = 0))
        else
          some ([], false)
      else
        some ([], false)
    else
      if e.op = 3 then
        if e.n = 0 then
          (F.impl_ctorsOf s.f0 t) >>= fun v22 =>
          (F.slices_Contains_int v22 e.ctor) >>= fun v24 =>
          if v24 = true then
            (F.impl_argTypes s.f0 t e.ctor) >>= fun v28 =>
            some (v28, true)
          else
            some ([], false)
        else
          some ([], false)
      else
        if e.op = 4 then
          if t.data = (-1) then
            if e.n = 0 then
              some ([t, t], decide (e.ctor = 0))
            else
              some ([t, t], false)
          else
            some ([t, t], false)
        else
          if e.op = 5 then
            (F.impl_within e.n (0 : Int) (IntKind.i64.wrap ((s.f1.length : Int) - 1))) >>= fun v38 =>
            if v38 = true then
              if e.ctor = 0 then
                (at? s.f1 e.n) >>= fun x =>
                (F.impl_fits x.res t) >>= fun v45 =>
                some ([x.arg], v45)
              else
                some ([], false)
            else
              some ([], false)
          else
            some ([], false)

mutual
def F.impl_scope_scan (s : Vl.T_impl_scope) (t : Vl.Ty) (e : Vl.Expr) (deep : Int) (count : Int) : Option (Bool × Int) :=
  if 60 < IntKind.i64.wrap (count + 1) then
    some (false, IntKind.i64.wrap (count + 1))
  else
    if 10 < deep then
      some (false, IntKind.i64.wrap (count + 1))
    else
      (F.impl_scope_kids s t e) >>= fun v =>
      if v.2 = true then
        if v.1.length = e.kids.length then
          (F.impl_scope_scan_l1 s e deep v (IntKind.i64.wrap (count + 1)) 0) >>= fun o' =>
          match o' with
          | .ret r0 => some r0
          | .go sx =>
            some (true, sx)
        else
          some (false, IntKind.i64.wrap (count + 1))
      else
        some (false, IntKind.i64.wrap (count + 1))
  partial_fixpoint
def F.impl_scope_scan_l1 (s : Vl.T_impl_scope) (e : Vl.Expr) (deep : Int) (v : (List Vl.Ty) × Bool) (z : Int) (i : Nat) : Option (Lo (Bool × Int) Int) :=
  if i < e.kids.length then
    (e.kids[i]?) >>= fun x =>
    (v.1[i]?) >>= fun x15 =>
    (F.impl_scope_scan s x15 x (IntKind.i64.wrap (deep + 1)) z) >>= fun v17 =>
    if v17.1 = true then
      F.impl_scope_scan_l1 s e deep v v17.2 (i + 1)
    else
      some (.ret (false, v17.2))
  else
    some (.go z)
  partial_fixpoint
end

def F.impl_scope_expr (s : Vl.T_impl_scope) (t : Vl.Ty) (e : Vl.Expr) : Option (Bool) :=
  (F.impl_scope_scan s t e (1 : Int) (0 : Int)) >>= fun v =>
  some v.1

def F.impl_ExprValid (w : List Vl.Data) (funs : List Vl.FunType) (vars : List Vl.VarType) (t : Vl.Ty) (e : Vl.Expr) : Option (Bool) :=
  (F.impl_TypeValid w t) >>= fun v =>
  if v = true then
    (F.impl_scope_ok (⟨w, funs, vars⟩ : Vl.T_impl_scope)) >>= fun v4 =>
    if v4 = true then
      (F.impl_scope_expr (⟨w, funs, vars⟩ : Vl.T_impl_scope) t e) >>= fun v8 =>
      some v8
    else
      some false
  else
    some false

def F.strconv_Itoa (i : Int) : Option (ByteArray) :=
  if 0 ≤ i ∧ i < 100 then
    some (itoaB i)
  else none

def F.impl_letter (v : Int) : Option (ByteArray) :=
  some (strB [IntKind.u8.wrap (IntKind.i64.wrap (97 + v))])

def F.strings_Join (elems : List ByteArray) (sep : ByteArray) : Option (ByteArray) :=
  if joinOk elems sep then
    some (joinB elems sep)
  else none

def F.impl_listed (list : List ByteArray) : Option (ByteArray) :=
  if list.length = 0 then
    some ByteArray.empty
  else
    (F.strings_Join list (⟨#[44]⟩ : ByteArray)) >>= fun v =>
    if (⟨#[40]⟩ : ByteArray).size + v.size ≤ 9223372036854775807 then
      if ((⟨#[40]⟩ : ByteArray) ++ v).size + (⟨#[41]⟩ : ByteArray).size ≤ 9223372036854775807 then
        some (((⟨#[40]⟩ : ByteArray) ++ v) ++ (⟨#[41]⟩ : ByteArray))
      else none
    else none

mutual
def F.impl_scope_text (s : Vl.T_impl_scope) (t : Vl.Ty) (e : Vl.Expr) : Option (ByteArray) :=
  (F.impl_scope_kids s t e) >>= fun v =>
  (F.impl_scope_text_l1 s t e v 0 []) >>= fun o' =>
  if e.op = 1 then
    (F.strconv_Itoa e.n) >>= fun v15 =>
    some v15
  else
    if e.op = 2 then
      (F.impl_letter e.n) >>= fun v19 =>
      some v19
    else
      if e.op = 3 then
        (at? s.f0 t.data) >>= fun x23 =>
        (at? x23.ctors e.ctor) >>= fun x25 =>
        (F.impl_listed o') >>= fun v27 =>
        if x25.name.size + v27.size ≤ 9223372036854775807 then
          some (x25.name ++ v27)
        else none
      else
        if e.op = 4 then
          (F.impl_listed o') >>= fun v32 =>
          if (⟨#[43]⟩ : ByteArray).size + v32.size ≤ 9223372036854775807 then
            some ((⟨#[43]⟩ : ByteArray) ++ v32)
          else none
        else
          (F.strconv_Itoa e.n) >>= fun v35 =>
          if (⟨#[35]⟩ : ByteArray).size + v35.size ≤ 9223372036854775807 then
            (F.impl_listed o') >>= fun v38 =>
            if ((⟨#[35]⟩ : ByteArray) ++ v35).size + v38.size ≤ 9223372036854775807 then
              some (((⟨#[35]⟩ : ByteArray) ++ v35) ++ v38)
            else none
          else none
  partial_fixpoint
def F.impl_scope_text_l1 (s : Vl.T_impl_scope) (t : Vl.Ty) (e : Vl.Expr) (v : (List Vl.Ty) × Bool) (i : Nat) (kids : List ByteArray) : Option (List ByteArray) :=
  if i < e.kids.length then
    (e.kids[i]?) >>= fun x =>
    (v.1[i]?) >>= fun x6 =>
    (F.impl_scope_text s x6 x) >>= fun v8 =>
    if kids.length + 1 ≤ 67108864 then
      F.impl_scope_text_l1 s t e v (i + 1) (kids ++ [v8])
    else none
  else
    some kids
  partial_fixpoint
end

def F.impl_FormatExpr (w : List Vl.Data) (funs : List Vl.FunType) (vars : List Vl.VarType) (t : Vl.Ty) (e : Vl.Expr) : Option (ByteArray) :=
  (F.impl_ExprValid w funs vars t e) >>= fun v =>
  if v = true then
    (F.impl_scope_text (⟨w, funs, vars⟩ : Vl.T_impl_scope) t e) >>= fun v4 =>
    some v4
  else
    some ByteArray.empty

def F.laws_eqType (a : Vl.Ty) (b : Vl.Ty) : Option (Bool) :=
  if a.data = b.data then
    if a.index = b.index then
      some true
    else
      some false
  else
    some false

def F.laws_eqTypeS_l1 (a : List Vl.Ty) (b : List Vl.Ty) (i : Nat) : Option (Lo Bool Unit) :=
  if i < a.length then
    (a[i]?) >>= fun x =>
    (b[i]?) >>= fun x8 =>
    (F.laws_eqType x x8) >>= fun v =>
    if v = true then
      F.laws_eqTypeS_l1 a b (i + 1)
    else
      some (.ret false)
  else
    some (.go ())
  partial_fixpoint

def F.laws_eqTypeS (a : List Vl.Ty) (b : List Vl.Ty) : Option (Bool) :=
  if a.length = b.length then
    (F.laws_eqTypeS_l1 a b 0) >>= fun o' =>
    match o' with
    | .ret r0 => some r0
    | .go sx =>
      some true
  else
    some false

def F.laws_eqCtor (a : Vl.Ctor) (b : Vl.Ctor) : Option (Bool) :=
  if a.name.toList = b.name.toList then
    (F.laws_eqTypeS a.args b.args) >>= fun v =>
    if v = true then
      if a.index = b.index then
        some true
      else
        some false
    else
      some false
  else
    some false

def F.laws_eqCtorS_l1 (a : List Vl.Ctor) (b : List Vl.Ctor) (i : Nat) : Option (Lo Bool Unit) :=
  if i < a.length then
    (a[i]?) >>= fun x =>
    (b[i]?) >>= fun x8 =>
    (F.laws_eqCtor x x8) >>= fun v =>
    if v = true then
      F.laws_eqCtorS_l1 a b (i + 1)
    else
      some (.ret false)
  else
    some (.go ())
  partial_fixpoint

def F.laws_eqCtorS (a : List Vl.Ctor) (b : List Vl.Ctor) : Option (Bool) :=
  if a.length = b.length then
    (F.laws_eqCtorS_l1 a b 0) >>= fun o' =>
    match o' with
    | .ret r0 => some r0
    | .go sx =>
      some true
  else
    some false

def F.laws_eqData (a : Vl.Data) (b : Vl.Data) : Option (Bool) :=
  if a.name.toList = b.name.toList then
    (F.laws_eqCtorS a.ctors b.ctors) >>= fun v =>
    if v = true then
      some true
    else
      some false
  else
    some false

def F.laws_eqDataS_l1 (a : List Vl.Data) (b : List Vl.Data) (i : Nat) : Option (Lo Bool Unit) :=
  if i < a.length then
    (a[i]?) >>= fun x =>
    (b[i]?) >>= fun x8 =>
    (F.laws_eqData x x8) >>= fun v =>
    if v = true then
      F.laws_eqDataS_l1 a b (i + 1)
    else
      some (.ret false)
  else
    some (.go ())
  partial_fixpoint

def F.laws_eqDataS (a : List Vl.Data) (b : List Vl.Data) : Option (Bool) :=
  if a.length = b.length then
    (F.laws_eqDataS_l1 a b 0) >>= fun o' =>
    match o' with
    | .ret r0 => some r0
    | .go sx =>
      some true
  else
    some false

def F.laws_eqFunType (a : Vl.FunType) (b : Vl.FunType) : Option (Bool) :=
  (F.laws_eqType a.arg b.arg) >>= fun v =>
  if v = true then
    (F.laws_eqType a.res b.res) >>= fun v4 =>
    if v4 = true then
      some true
    else
      some false
  else
    some false

def F.laws_eqFunTypeS_l1 (a : List Vl.FunType) (b : List Vl.FunType) (i : Nat) : Option (Lo Bool Unit) :=
  if i < a.length then
    (a[i]?) >>= fun x =>
    (b[i]?) >>= fun x8 =>
    (F.laws_eqFunType x x8) >>= fun v =>
    if v = true then
      F.laws_eqFunTypeS_l1 a b (i + 1)
    else
      some (.ret false)
  else
    some (.go ())
  partial_fixpoint

def F.laws_eqFunTypeS (a : List Vl.FunType) (b : List Vl.FunType) : Option (Bool) :=
  if a.length = b.length then
    (F.laws_eqFunTypeS_l1 a b 0) >>= fun o' =>
    match o' with
    | .ret r0 => some r0
    | .go sx =>
      some true
  else
    some false

def F.laws_eqVarType (a : Vl.VarType) (b : Vl.VarType) : Option (Bool) :=
  if a.var = b.var then
    (F.laws_eqType a.type b.type) >>= fun v =>
    if v = true then
      some true
    else
      some false
  else
    some false

def F.laws_eqVarTypeS_l1 (a : List Vl.VarType) (b : List Vl.VarType) (i : Nat) : Option (Lo Bool Unit) :=
  if i < a.length then
    (a[i]?) >>= fun x =>
    (b[i]?) >>= fun x8 =>
    (F.laws_eqVarType x x8) >>= fun v =>
    if v = true then
      F.laws_eqVarTypeS_l1 a b (i + 1)
    else
      some (.ret false)
  else
    some (.go ())
  partial_fixpoint

def F.laws_eqVarTypeS (a : List Vl.VarType) (b : List Vl.VarType) : Option (Bool) :=
  if a.length = b.length then
    (F.laws_eqVarTypeS_l1 a b 0) >>= fun o' =>
    match o' with
    | .ret r0 => some r0
    | .go sx =>
      some true
  else
    some false

mutual
def F.laws_eqExpr (a : Vl.Expr) (b : Vl.Expr) : Option (Bool) :=
  if a.op = b.op then
    if a.n = b.n then
      if a.ctor = b.ctor then
        (F.laws_eqExprS a.kids b.kids) >>= fun v =>
        if v = true then
          some true
        else
          some false
      else
        some false
    else
      some false
  else
    some false
  partial_fixpoint
def F.laws_eqExprS (a : List Vl.Expr) (b : List Vl.Expr) : Option (Bool) :=
  if a.length = b.length then
    (F.laws_eqExprS_l1 a b 0) >>= fun o' =>
    match o' with
    | .ret r0 => some r0
    | .go sx =>
      some true
  else
    some false
  partial_fixpoint
def F.laws_eqExprS_l1 (a : List Vl.Expr) (b : List Vl.Expr) (i : Nat) : Option (Lo Bool Unit) :=
  if i < a.length then
    (a[i]?) >>= fun x =>
    (b[i]?) >>= fun x8 =>
    (F.laws_eqExpr x x8) >>= fun v =>
    if v = true then
      F.laws_eqExprS_l1 a b (i + 1)
    else
      some (.ret false)
  else
    some (.go ())
  partial_fixpoint
end

def F.laws_FnExactFormatExpr (aW : List Vl.Data) (aFuns : List Vl.FunType) (aVars : List Vl.VarType) (aT : Vl.Ty) (aE : Vl.Expr) : Option (Bool) :=
  (F.laws_szDataS aW (1048576 : Int)) >>= fun v =>
  if v < 0 then
    some true
  else
    (F.laws_szFunTypeS aFuns v) >>= fun v4 =>
    if v4 < 0 then
      some true
    else
      (F.laws_szVarTypeS aVars v4) >>= fun v8 =>
      if v8 < 0 then
        some true
      else
        (F.laws_szExpr aE v8) >>= fun v12 =>
        if v12 < 0 then
          some true
        else
          (F.laws_toDataS aW) >>= fun v16 =>
          (F.laws_toFunTypeS aFuns) >>= fun v18 =>
          (F.laws_toVarTypeS aVars) >>= fun v20 =>
          (F.laws_toType aT) >>= fun v22 =>
          (F.laws_toExpr aE) >>= fun v24 =>
          (F.spec_FormatExpr v16 v18 v20 v22 v24) >>= fun v26 =>
          (F.laws_toDataS aW) >>= fun v28 =>
          (F.laws_toFunTypeS aFuns) >>= fun v30 =>
          (F.laws_toVarTypeS aVars) >>= fun v32 =>
          (F.laws_toExpr aE) >>= fun v34 =>
          (F.laws_toType aT) >>= fun v36 =>
          (F.impl_FormatExpr v28 v30 v32 v36 v34) >>= fun v38 =>
          if v38.toList = v26.toList then
            (F.laws_toDataS aW) >>= fun v42 =>
            (F.laws_eqDataS v28 v42) >>= fun v44 =>
            if v44 = true then
              (F.laws_toFunTypeS aFuns) >>= fun v48 =>
              (F.laws_eqFunTypeS v30 v48) >>= fun v50 =>
              if v50 = true then
                (F.laws_toVarTypeS aVars) >>= fun v54 =>
                (F.laws_eqVarTypeS v32 v54) >>= fun v56 =>
                if v56 = true then
                  (F.laws_toExpr aE) >>= fun v60 =>
                  (F.laws_eqExpr v34 v60) >>= fun v62 =>
                  if v62 = true then
                    some true
                  else
                    some false
                else
                  some false
              else
                some false
            else
              some false
          else
            some false
end
end Go.Vl
