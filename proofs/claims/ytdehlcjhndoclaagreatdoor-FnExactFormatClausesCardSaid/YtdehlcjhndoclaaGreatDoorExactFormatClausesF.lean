/- The functions of the program as Lean functions (printed by gen.py). -/
import Derived.Test.YtdehlcjhndoclaaGreatDoorVlG
import Derived.Test.YtdehlcjhndoclaaGreatDoorVlDraw3
import Derived.Test.YtdehlcjhndoclaaGreatDoorVlFa
import Derived.Test.YtdehlcjhndoclaaGreatDoorVlSplit
import Derived.Test.YtdehlcjhndoclaaGreatDoorVlDeep
import Derived.Test.YtdehlcjhndoclaaGreatDoorVlMk
import Derived.Test.YtdehlcjhndoclaaGreatDoorVlFork
import Derived.Test.YtdehlcjhndoclaaGreatDoorVlText
set_option linter.unusedVariables false
set_option linter.unusedSimpArgs false
set_option linter.unusedVariables false
namespace Go.Vl
open Go
noncomputable section

def F.laws_szTypeS (a : List Vl.Ty) (left' : Int) : Option (Int) :=
  if IntKind.i64.wrap (left' - (a.length : Int)) < 0 then
    some (-1 : Int)
  else
    some (IntKind.i64.wrap (left' - (a.length : Int)))

def F.laws_szCtor (a : Vl.Ctor) (left' : Int) : Option (Int) :=
  if IntKind.i64.wrap (left' - (a.name.size : Int)) < 0 then
    some (-1 : Int)
  else
    (F.laws_szTypeS a.args (IntKind.i64.wrap (left' - (a.name.size : Int)))) >>= fun v =>
    if v < 0 then
      some (-1 : Int)
    else
      some v

def F.laws_szCtorS_l1 (a : List Vl.Ctor) (left'3 : Int) (i : Nat) : Option (Lo Int Int) :=
  if i < a.length then
    (a[i]?) >>= fun x =>
    (F.laws_szCtor x left'3) >>= fun v =>
    if v < 0 then
      some (.ret (-1 : Int))
    else
      F.laws_szCtorS_l1 a v (i + 1)
  else
    some (.go left'3)
  partial_fixpoint

def F.laws_szCtorS (a : List Vl.Ctor) (left' : Int) : Option (Int) :=
  if IntKind.i64.wrap (left' - (a.length : Int)) < 0 then
    some (-1 : Int)
  else
    (F.laws_szCtorS_l1 a (IntKind.i64.wrap (left' - (a.length : Int))) 0) >>= fun o' =>
    match o' with
    | .ret r0 => some r0
    | .go sx =>
      some sx

def F.laws_szData (a : Vl.Data) (left' : Int) : Option (Int) :=
  if IntKind.i64.wrap (left' - (a.name.size : Int)) < 0 then
    some (-1 : Int)
  else
    (F.laws_szCtorS a.ctors (IntKind.i64.wrap (left' - (a.name.size : Int)))) >>= fun v =>
    if v < 0 then
      some (-1 : Int)
    else
      some v

def F.laws_szDataS_l1 (a : List Vl.Data) (left'3 : Int) (i : Nat) : Option (Lo Int Int) :=
  if i < a.length then
    (a[i]?) >>= fun x =>
    (F.laws_szData x left'3) >>= fun v =>
    if v < 0 then
      some (.ret (-1 : Int))
    else
      F.laws_szDataS_l1 a v (i + 1)
  else
    some (.go left'3)
  partial_fixpoint

def F.laws_szDataS (a : List Vl.Data) (left' : Int) : Option (Int) :=
  if IntKind.i64.wrap (left' - (a.length : Int)) < 0 then
    some (-1 : Int)
  else
    (F.laws_szDataS_l1 a (IntKind.i64.wrap (left' - (a.length : Int))) 0) >>= fun o' =>
    match o' with
    | .ret r0 => some r0
    | .go sx =>
      some sx

mutual
def F.laws_szPattern (a : Vl.Pattern) (left' : Int) : Option (Int) :=
  (F.laws_szPatternS a.kids left') >>= fun v =>
  if v < 0 then
    some (-1 : Int)
  else
    some v
  partial_fixpoint
def F.laws_szPatternS (a : List Vl.Pattern) (left' : Int) : Option (Int) :=
  if IntKind.i64.wrap (left' - (a.length : Int)) < 0 then
    some (-1 : Int)
  else
    (F.laws_szPatternS_l1 a (IntKind.i64.wrap (left' - (a.length : Int))) 0) >>= fun o' =>
    match o' with
    | .ret r0 => some r0
    | .go sx =>
      some sx
  partial_fixpoint
def F.laws_szPatternS_l1 (a : List Vl.Pattern) (left'3 : Int) (i : Nat) : Option (Lo Int Int) :=
  if i < a.length then
    (a[i]?) >>= fun x =>
    (F.laws_szPattern x left'3) >>= fun v =>
    if v < 0 then
      some (.ret (-1 : Int))
    else
      F.laws_szPatternS_l1 a v (i + 1)
  else
    some (.go left'3)
  partial_fixpoint
end

def F.laws_szClause (a : Vl.Clause) (left' : Int) : Option (Int) :=
  (F.laws_szPattern a.pat left') >>= fun v =>
  if v < 0 then
    some (-1 : Int)
  else
    some v

def F.laws_szClauseS_l1 (a : List Vl.Clause) (left'3 : Int) (i : Nat) : Option (Lo Int Int) :=
  if i < a.length then
    (a[i]?) >>= fun x =>
    (F.laws_szClause x left'3) >>= fun v =>
    if v < 0 then
      some (.ret (-1 : Int))
    else
      F.laws_szClauseS_l1 a v (i + 1)
  else
    some (.go left'3)
  partial_fixpoint

def F.laws_szClauseS (a : List Vl.Clause) (left' : Int) : Option (Int) :=
  if IntKind.i64.wrap (left' - (a.length : Int)) < 0 then
    some (-1 : Int)
  else
    (F.laws_szClauseS_l1 a (IntKind.i64.wrap (left' - (a.length : Int))) 0) >>= fun o' =>
    match o' with
    | .ret r0 => some r0
    | .go sx =>
      some sx

def F.laws_toType (a : Vl.Ty) : Option (Vl.Ty) :=
  some a

def F.laws_toTypeS_l1 (a : List Vl.Ty) (out : List Vl.Ty) (i : Nat) : Option (List Vl.Ty) :=
  if i < a.length then
    (a[i]?) >>= fun x =>
    (F.laws_toType x) >>= fun v =>
    (out[i]?) >>= fun x7 =>
    F.laws_toTypeS_l1 a (out.set i v) (i + 1)
  else
    some out
  partial_fixpoint

def F.laws_toTypeS (a : List Vl.Ty) : Option (List Vl.Ty) :=
  if a.length ≤ 67108864 then
    (F.laws_toTypeS_l1 a (List.replicate a.length Vl.Ty.z) 0) >>= fun o' =>
    some o'
  else none

def F.laws_toCtor (a : Vl.Ctor) : Option (Vl.Ctor) :=
  (F.laws_toTypeS a.args) >>= fun v =>
  some (⟨a.name, v, a.index⟩ : Vl.Ctor)

def F.laws_toCtorS_l1 (a : List Vl.Ctor) (out : List Vl.Ctor) (i : Nat) : Option (List Vl.Ctor) :=
  if i < a.length then
    (a[i]?) >>= fun x =>
    (F.laws_toCtor x) >>= fun v =>
    (out[i]?) >>= fun x7 =>
    F.laws_toCtorS_l1 a (out.set i v) (i + 1)
  else
    some out
  partial_fixpoint

def F.laws_toCtorS (a : List Vl.Ctor) : Option (List Vl.Ctor) :=
  if a.length ≤ 67108864 then
    (F.laws_toCtorS_l1 a (List.replicate a.length Vl.Ctor.z) 0) >>= fun o' =>
    some o'
  else none

def F.laws_toData (a : Vl.Data) : Option (Vl.Data) :=
  (F.laws_toCtorS a.ctors) >>= fun v =>
  some (⟨a.name, v⟩ : Vl.Data)

def F.laws_toDataS_l1 (a : List Vl.Data) (out : List Vl.Data) (i : Nat) : Option (List Vl.Data) :=
  if i < a.length then
    (a[i]?) >>= fun x =>
    (F.laws_toData x) >>= fun v =>
    (out[i]?) >>= fun x7 =>
    F.laws_toDataS_l1 a (out.set i v) (i + 1)
  else
    some out
  partial_fixpoint

def F.laws_toDataS (a : List Vl.Data) : Option (List Vl.Data) :=
  if a.length ≤ 67108864 then
    (F.laws_toDataS_l1 a (List.replicate a.length Vl.Data.z) 0) >>= fun o' =>
    some o'
  else none

mutual
def F.laws_toPattern (a : Vl.Pattern) : Option (Vl.Pattern) :=
  (F.laws_toPatternS a.kids) >>= fun v =>
  some (⟨a.op, a.ctor, a.n, a.m, a.var, v⟩ : Vl.Pattern)
  partial_fixpoint
def F.laws_toPatternS (a : List Vl.Pattern) : Option (List Vl.Pattern) :=
  if a.length ≤ 67108864 then
    (F.laws_toPatternS_l1 a (List.replicate a.length Vl.Pattern.z) 0) >>= fun o' =>
    some o'
  else none
  partial_fixpoint
def F.laws_toPatternS_l1 (a : List Vl.Pattern) (out : List Vl.Pattern) (i : Nat) : Option (List Vl.Pattern) :=
  if i < a.length then
    (a[i]?) >>= fun x =>
    (F.laws_toPattern x) >>= fun v =>
    (out[i]?) >>= fun x7 =>
    F.laws_toPatternS_l1 a (out.set i v) (i + 1)
  else
    some out
  partial_fixpoint
end

def F.laws_toGuard (a : Vl.Guard) : Option (Vl.Guard) :=
  some a

def F.laws_toClause (a : Vl.Clause) : Option (Vl.Clause) :=
  (F.laws_toPattern a.pat) >>= fun v =>
  (F.laws_toGuard a.guard) >>= fun v2 =>
  some (⟨v, v2⟩ : Vl.Clause)

def F.laws_toClauseS_l1 (a : List Vl.Clause) (out : List Vl.Clause) (i : Nat) : Option (List Vl.Clause) :=
  if i < a.length then
    (a[i]?) >>= fun x =>
    (F.laws_toClause x) >>= fun v =>
    (out[i]?) >>= fun x7 =>
    F.laws_toClauseS_l1 a (out.set i v) (i + 1)
  else
    some out
  partial_fixpoint

def F.laws_toClauseS (a : List Vl.Clause) : Option (List Vl.Clause) :=
  if a.length ≤ 67108864 then
    (F.laws_toClauseS_l1 a (List.replicate a.length Vl.Clause.z) 0) >>= fun o' =>
    some o'
  else none

def F.spec_l1Big (c' : Int) : Option (Bool) :=
  if 65 ≤ c' then
    some (decide (c' ≤ 90))
  else
    some false

def F.spec_l1Data (s : ByteArray) : Option (Bool) :=
  if s.size = 1 then
    if 0 < s.size then
      (F.spec_l1Big ((byteAt s 0 : Nat) : Int)) >>= fun v =>
      if v = true then
        some (decide (¬ (s.toList = (⟨#[73]⟩ : ByteArray).toList)))
      else
        some false
    else none
  else
    some false

def F.spec_NameValid_l1 (s : ByteArray) (i : Nat) : Option (Lo Bool Unit) :=
  if i < s.size then
    if byteAt s i < 97 then
      some (.ret false)
    else
      if 122 < byteAt s i then
        some (.ret false)
      else
        if i + 1 ≤ 9223372036854775807 then
          F.spec_NameValid_l1 s (i + 1)
        else none
  else
    some (.go ())
  partial_fixpoint

def F.spec_NameValid (s : ByteArray) : Option (Bool) :=
  if s.size = 0 then
    some false
  else
    if 5 < s.size then
      some false
    else
      if 0 < s.size then
        (F.spec_l1Big ((byteAt s 0 : Nat) : Int)) >>= fun v =>
        if v = true then
          (F.spec_NameValid_l1 s 1) >>= fun o' =>
          match o' with
          | .ret r0 => some r0
          | .go sx =>
            some true
        else
          some false
      else none

def F.spec_l1Arg (n : Int) (t : Vl.Ty) : Option (Bool) :=
  if t.data = (-1) then
    some (decide (t.index = 0))
  else
    if 0 ≤ t.data then
      if t.data < n then
        if (-1) ≤ t.index then
          some (decide (t.index ≤ 3))
        else
          some false
      else
        some false
    else
      some false

def F.spec_l1Ctor_l1 (n : Int) (c' : Vl.Ctor) (i : Nat) : Option (Lo Bool Unit) :=
  if i < c'.args.length then
    (c'.args[i]?) >>= fun x =>
    (F.spec_l1Arg n x) >>= fun v15 =>
    if v15 = true then
      F.spec_l1Ctor_l1 n c' (i + 1)
    else
      some (.ret false)
  else
    some (.go ())
  partial_fixpoint

def F.spec_l1Ctor (n : Int) (c' : Vl.Ctor) : Option (Bool) :=
  (F.spec_NameValid c'.name) >>= fun v =>
  if v = true then
    if 3 < c'.args.length then
      some false
    else
      if c'.index < 0 then
        some false
      else
        if 3 < c'.index then
          some false
        else
          (F.spec_l1Ctor_l1 n c' 0) >>= fun o' =>
          match o' with
          | .ret r0 => some r0
          | .go sx =>
            some true
  else
    some false

def F.spec_l1Twice_l2 (w : List Vl.Data) (d : Int) (k : Int) (i : Nat) (j : Nat) : Option (Lo Bool Unit) :=
  (w[i]?) >>= fun x10 =>
  if j < x10.ctors.length then
    if (i : Int) < d then
      (at? w d) >>= fun x33 =>
      if k < (x33.ctors.length : Int) then
        (x10.ctors[j]?) >>= fun x37 =>
        (at? x33.ctors k) >>= fun x39 =>
        if x37.name.toList = x39.name.toList then
          some (.ret true)
        else
          if j + 1 ≤ 9223372036854775807 then
            F.spec_l1Twice_l2 w d k i (j + 1)
          else none
      else
        if j + 1 ≤ 9223372036854775807 then
          F.spec_l1Twice_l2 w d k i (j + 1)
        else none
    else
      if (j : Int) < k then
        (at? w d) >>= fun x19 =>
        if k < (x19.ctors.length : Int) then
          (x10.ctors[j]?) >>= fun x23 =>
          (at? x19.ctors k) >>= fun x25 =>
          if x23.name.toList = x25.name.toList then
            some (.ret true)
          else
            if j + 1 ≤ 9223372036854775807 then
              F.spec_l1Twice_l2 w d k i (j + 1)
            else none
        else
          if j + 1 ≤ 9223372036854775807 then
            F.spec_l1Twice_l2 w d k i (j + 1)
          else none
      else
        some (.go ())
  else
    some (.go ())
  partial_fixpoint

def F.spec_l1Twice_l3 (w : List Vl.Data) (d : Int) (k : Int) (i : Nat) (j50 : Nat) : Option (Lo Bool Unit) :=
  (w[i]?) >>= fun x51 =>
  if j50 < x51.ctors.length then
    if (i : Int) < d then
      (at? w d) >>= fun x74 =>
      if k < (x74.ctors.length : Int) then
        (x51.ctors[j50]?) >>= fun x78 =>
        (at? x74.ctors k) >>= fun x80 =>
        if x78.name.toList = x80.name.toList then
          some (.ret true)
        else
          if j50 + 1 ≤ 9223372036854775807 then
            F.spec_l1Twice_l3 w d k i (j50 + 1)
          else none
      else
        if j50 + 1 ≤ 9223372036854775807 then
          F.spec_l1Twice_l3 w d k i (j50 + 1)
        else none
    else
      if (j50 : Int) < k then
        (at? w d) >>= fun x60 =>
        if k < (x60.ctors.length : Int) then
          (x51.ctors[j50]?) >>= fun x64 =>
          (at? x60.ctors k) >>= fun x66 =>
          if x64.name.toList = x66.name.toList then
            some (.ret true)
          else
            if j50 + 1 ≤ 9223372036854775807 then
              F.spec_l1Twice_l3 w d k i (j50 + 1)
            else none
        else
          if j50 + 1 ≤ 9223372036854775807 then
            F.spec_l1Twice_l3 w d k i (j50 + 1)
          else none
      else
        some (.go ())
  else
    some (.go ())
  partial_fixpoint

def F.spec_l1Twice_l1 (w : List Vl.Data) (d : Int) (k : Int) (i : Nat) : Option (Lo Bool Unit) :=
  if (i : Int) ≤ d then
    if (i : Int) < d then
      (w[i]?) >>= fun x =>
      (at? w d) >>= fun x6 =>
      if x.name.toList = x6.name.toList then
        some (.ret true)
      else
        (F.spec_l1Twice_l2 w d k i 0) >>= fun o' =>
        match o' with
        | .ret r0 => some (.ret r0)
        | .go sx =>
          if i + 1 ≤ 9223372036854775807 then
            F.spec_l1Twice_l1 w d k (i + 1)
          else none
    else
      (F.spec_l1Twice_l3 w d k i 0) >>= fun o'89 =>
      match o'89 with
      | .ret r093 => some (.ret r093)
      | .go sx90 =>
        if i + 1 ≤ 9223372036854775807 then
          F.spec_l1Twice_l1 w d k (i + 1)
        else none
  else
    some (.go ())
  partial_fixpoint

def F.spec_l1Twice (w : List Vl.Data) (d : Int) (k : Int) : Option (Bool) :=
  (F.spec_l1Twice_l1 w d k 0) >>= fun o'95 =>
  match o'95 with
  | .ret r097 => some r097
  | .go sx96 =>
    some false

def F.spec_WorldValid_l2 (w : List Vl.Data) (d : Nat) (k : Nat) : Option (Lo Bool Unit) :=
  (w[d]?) >>= fun x17 =>
  if k < x17.ctors.length then
    (x17.ctors[k]?) >>= fun x22 =>
    (F.spec_l1Ctor (w.length : Int) x22) >>= fun v24 =>
    if v24 = true then
      (F.spec_l1Twice w (d : Int) (k : Int)) >>= fun v28 =>
      if v28 = true then
        some (.ret false)
      else
        if k + 1 ≤ 9223372036854775807 then
          F.spec_WorldValid_l2 w d (k + 1)
        else none
    else
      some (.ret false)
  else
    some (.go ())
  partial_fixpoint

def F.spec_WorldValid_l1 (w : List Vl.Data) (d : Nat) : Option (Lo Bool Unit) :=
  if d < w.length then
    (w[d]?) >>= fun x =>
    (F.spec_l1Data x.name) >>= fun v =>
    if v = true then
      if x.ctors.length = 0 then
        some (.ret false)
      else
        if 4 < x.ctors.length then
          some (.ret false)
        else
          (F.spec_WorldValid_l2 w d 0) >>= fun o' =>
          match o' with
          | .ret r0 => some (.ret r0)
          | .go sx =>
            if d + 1 ≤ 9223372036854775807 then
              F.spec_WorldValid_l1 w (d + 1)
            else none
    else
      some (.ret false)
  else
    some (.go ())
  partial_fixpoint

def F.spec_WorldValid (w : List Vl.Data) : Option (Bool) :=
  if 4 < w.length then
    some false
  else
    (F.spec_WorldValid_l1 w 0) >>= fun o'38 =>
    match o'38 with
    | .ret r040 => some r040
    | .go sx39 =>
      some true

def F.spec_l1Is (w : List Vl.Data) (t : Vl.Ty) : Option (Bool) :=
  (F.spec_l1Arg (w.length : Int) t) >>= fun v =>
  if v = true then
    some (decide (0 ≤ t.index))
  else
    some false

def F.spec_TypeValid (w : List Vl.Data) (t : Vl.Ty) : Option (Bool) :=
  (F.spec_WorldValid w) >>= fun v =>
  if v = true then
    (F.spec_l1Is w t) >>= fun v4 =>
    some v4
  else
    some false

def F.spec_l1Fits (c' : Vl.Ctor) (index' : Int) : Option (Bool) :=
  if c'.index = 0 then
    some true
  else
    if index' = 0 then
      some true
    else
      some (decide (c'.index = index'))

def F.spec_l1Ctors_l1 (w : List Vl.Data) (t : Vl.Ty) (out : List Int) (k : Nat) : Option (List Int) :=
  (at? w t.data) >>= fun x =>
  if k < x.ctors.length then
    (x.ctors[k]?) >>= fun x7 =>
    (F.spec_l1Fits x7 t.index) >>= fun v =>
    if v = true then
      if out.length + 1 ≤ 67108864 then
        if k + 1 ≤ 9223372036854775807 then
          F.spec_l1Ctors_l1 w t (out ++ [(k : Int)]) (k + 1)
        else none
      else none
    else
      if k + 1 ≤ 9223372036854775807 then
        F.spec_l1Ctors_l1 w t out (k + 1)
      else none
  else
    some out
  partial_fixpoint

def F.spec_l1Ctors (w : List Vl.Data) (t : Vl.Ty) : Option (List Int) :=
  if t.data = (-1) then
    some []
  else
    (F.spec_l1Ctors_l1 w t [] 0) >>= fun o' =>
    some o'

def F.spec_l1Has_l1 (list : List Int) (n : Int) (i : Nat) : Option (Lo Bool Unit) :=
  if i < list.length then
    (list[i]?) >>= fun x =>
    if x = n then
      some (.ret true)
    else
      F.spec_l1Has_l1 list n (i + 1)
  else
    some (.go ())
  partial_fixpoint

def F.spec_l1Has (list : List Int) (n : Int) : Option (Bool) :=
  (F.spec_l1Has_l1 list n 0) >>= fun o' =>
  match o' with
  | .ret r0 => some r0
  | .go sx =>
    some false

def F.spec_l3Own (w : List Vl.Data) (t : Vl.Ty) (p : Vl.Pattern) : Option (Bool) :=
  if p.op = 2 then
    if p.var < 0 then
      some false
    else
      if 5 < p.var then
        some false
      else
        if p.n = 0 then
          if p.m = 0 then
            if p.ctor = 0 then
              some true
            else
              some false
          else
            some false
        else
          some false
  else
    if p.op = 6 then
      if p.var < 0 then
        some false
      else
        if 5 < p.var then
          some false
        else
          if p.n = 0 then
            if p.m = 0 then
              if p.ctor = 0 then
                some true
              else
                some false
            else
              some false
          else
            some false
    else
      if p.var = 0 then
        if p.op = 3 then
          if p.ctor = 0 then
            if t.data = (-1) then
              if 0 ≤ p.n then
                if p.n ≤ p.m then
                  some (decide (p.m ≤ 9))
                else
                  some false
              else
                some false
            else
              some false
          else
            some false
        else
          if p.n = 0 then
            if p.m = 0 then
              if p.op = 4 then
                (F.spec_l1Ctors w t) >>= fun v =>
                (F.spec_l1Has v p.ctor) >>= fun v32 =>
                some v32
              else
                if p.ctor = 0 then
                  if p.op = 1 then
                    some true
                  else
                    if p.op = 5 then
                      some true
                    else
                      some false
                else
                  some false
            else
              some false
          else
            some false
      else
        some false

def F.spec_l1Result (c' : Vl.Ctor) (index' : Int) : Option (Int) :=
  if c'.index = 0 then
    some index'
  else
    some c'.index

def F.spec_l1Args_l1 (t : Vl.Ty) (x2 : Vl.Ctor) (out : List Vl.Ty) (i : Nat) : Option (List Vl.Ty) :=
  if i < x2.args.length then
    (x2.args[i]?) >>= fun x7 =>
    if x7.index = (-1) then
      (F.spec_l1Result x2 t.index) >>= fun v =>
      if out.length + 1 ≤ 67108864 then
        F.spec_l1Args_l1 t x2 (out ++ [(⟨x7.data, v⟩ : Vl.Ty)]) (i + 1)
      else none
    else
      if out.length + 1 ≤ 67108864 then
        F.spec_l1Args_l1 t x2 (out ++ [x7]) (i + 1)
      else none
  else
    some out
  partial_fixpoint

def F.spec_l1Args (w : List Vl.Data) (t : Vl.Ty) (ctor : Int) : Option (List Vl.Ty) :=
  (at? w t.data) >>= fun x =>
  (at? x.ctors ctor) >>= fun x2 =>
  (F.spec_l1Args_l1 t x2 [] 0) >>= fun o' =>
  some o'

def F.spec_l3Kids (op : Int) : Option (Int) :=
  if op = 5 then
    some (2 : Int)
  else
    if op = 6 then
      some (1 : Int)
    else
      if op = 4 then
        some (-1 : Int)
      else
        some (0 : Int)

def F.spec_l3Types_l1 (t : Vl.Ty) (p : Vl.Pattern) (out : List Vl.Ty) (i : Nat) : Option (List Vl.Ty) :=
  (F.spec_l3Kids p.op) >>= fun v4 =>
  if (i : Int) < v4 then
    if out.length + 1 ≤ 67108864 then
      if i + 1 ≤ 9223372036854775807 then
        F.spec_l3Types_l1 t p (out ++ [t]) (i + 1)
      else none
    else none
  else
    some out
  partial_fixpoint

def F.spec_l3Types (w : List Vl.Data) (t : Vl.Ty) (p : Vl.Pattern) : Option (List Vl.Ty) :=
  if p.op = 4 then
    (F.spec_l1Args w t p.ctor) >>= fun v =>
    some v
  else
    (F.spec_l3Types_l1 t p [] 0) >>= fun o' =>
    some o'

mutual
def F.spec_l3Shape (w : List Vl.Data) (t : Vl.Ty) (p : Vl.Pattern) (depth : Int) : Option (Bool) :=
  if depth < 1 then
    some false
  else
    (F.spec_l3Own w t p) >>= fun v =>
    if v = true then
      (F.spec_l3Types w t p) >>= fun v6 =>
      if p.kids.length = v6.length then
        (F.spec_l3Shape_l1 w p depth v6 0) >>= fun o' =>
        match o' with
        | .ret r0 => some r0
        | .go sx =>
          some true
      else
        some false
    else
      some false
  partial_fixpoint
def F.spec_l3Shape_l1 (w : List Vl.Data) (p : Vl.Pattern) (depth : Int) (v6 : List Vl.Ty) (i : Nat) : Option (Lo Bool Unit) :=
  if i < v6.length then
    (v6[i]?) >>= fun x =>
    (p.kids[i]?) >>= fun x15 =>
    (F.spec_l3Shape w x x15 (IntKind.i64.wrap (depth - 1))) >>= fun v17 =>
    if v17 = true then
      F.spec_l3Shape_l1 w p depth v6 (i + 1)
    else
      some (.ret false)
  else
    some (.go ())
  partial_fixpoint
end

mutual
def F.spec_l3Count (p : Vl.Pattern) (most : Int) : Option (Int) :=
  (F.spec_l3Count_l1 p most (1 : Int) 0) >>= fun o' =>
  some o'
  partial_fixpoint
def F.spec_l3Count_l1 (p : Vl.Pattern) (most : Int) (n : Int) (i : Nat) : Option (Int) :=
  if i < p.kids.length then
    if n ≤ most then
      (p.kids[i]?) >>= fun x =>
      (F.spec_l3Count x (IntKind.i64.wrap (most - n))) >>= fun v =>
      F.spec_l3Count_l1 p most (IntKind.i64.wrap (n + v)) (i + 1)
    else
      some n
  else
    some n
  partial_fixpoint
end

mutual
def F.spec_l3Vars (out : List Vl.VarType) (w : List Vl.Data) (t : Vl.Ty) (p : Vl.Pattern) : Option (List Vl.VarType) :=
  if p.op = 2 then
    if out.length + 1 ≤ 67108864 then
      (F.spec_l3Types w t p) >>= fun v59 =>
      (F.spec_l3Vars_l3 w p v59 (out ++ [(⟨p.var, t⟩ : Vl.VarType)]) 0) >>= fun o'86 =>
      some o'86
    else none
  else
    if p.op = 6 then
      if out.length + 1 ≤ 67108864 then
        (F.spec_l3Types w t p) >>= fun v =>
        (F.spec_l3Vars_l1 w p v (out ++ [(⟨p.var, t⟩ : Vl.VarType)]) 0) >>= fun o' =>
        some o'
      else none
    else
      (F.spec_l3Types w t p) >>= fun v30 =>
      (F.spec_l3Vars_l2 w p v30 out 0) >>= fun o'57 =>
      some o'57
  partial_fixpoint
def F.spec_l3Vars_l1 (w : List Vl.Data) (p : Vl.Pattern) (v : List Vl.Ty) (out7 : List Vl.VarType) (i : Nat) : Option (List Vl.VarType) :=
  if i < v.length then
    if i = 0 then
      (v[i]?) >>= fun x22 =>
      (p.kids[i]?) >>= fun x24 =>
      (F.spec_l3Vars out7 w x22 x24) >>= fun v26 =>
      F.spec_l3Vars_l1 w p v v26 (i + 1)
    else
      if p.op = 5 then
        some out7
      else
        (v[i]?) >>= fun x =>
        (p.kids[i]?) >>= fun x17 =>
        (F.spec_l3Vars out7 w x x17) >>= fun v19 =>
        F.spec_l3Vars_l1 w p v v19 (i + 1)
  else
    some out7
  partial_fixpoint
def F.spec_l3Vars_l2 (w : List Vl.Data) (p : Vl.Pattern) (v30 : List Vl.Ty) (out32 : List Vl.VarType) (i33 : Nat) : Option (List Vl.VarType) :=
  if i33 < v30.length then
    if i33 = 0 then
      (v30[i33]?) >>= fun x49 =>
      (p.kids[i33]?) >>= fun x51 =>
      (F.spec_l3Vars out32 w x49 x51) >>= fun v53 =>
      F.spec_l3Vars_l2 w p v30 v53 (i33 + 1)
    else
      if p.op = 5 then
        some out32
      else
        (v30[i33]?) >>= fun x42 =>
        (p.kids[i33]?) >>= fun x44 =>
        (F.spec_l3Vars out32 w x42 x44) >>= fun v46 =>
        F.spec_l3Vars_l2 w p v30 v46 (i33 + 1)
  else
    some out32
  partial_fixpoint
def F.spec_l3Vars_l3 (w : List Vl.Data) (p : Vl.Pattern) (v59 : List Vl.Ty) (out61 : List Vl.VarType) (i62 : Nat) : Option (List Vl.VarType) :=
  if i62 < v59.length then
    if i62 = 0 then
      (v59[i62]?) >>= fun x78 =>
      (p.kids[i62]?) >>= fun x80 =>
      (F.spec_l3Vars out61 w x78 x80) >>= fun v82 =>
      F.spec_l3Vars_l3 w p v59 v82 (i62 + 1)
    else
      if p.op = 5 then
        some out61
      else
        (v59[i62]?) >>= fun x71 =>
        (p.kids[i62]?) >>= fun x73 =>
        (F.spec_l3Vars out61 w x71 x73) >>= fun v75 =>
        F.spec_l3Vars_l3 w p v59 v75 (i62 + 1)
  else
    some out61
  partial_fixpoint
end

def F.spec_l3Find_l1 (list : List Vl.VarType) (n : Int) (i : Nat) : Option (Lo Int Unit) :=
  if i < list.length then
    (list[i]?) >>= fun x =>
    if x.var = n then
      some (.ret (i : Int))
    else
      F.spec_l3Find_l1 list n (i + 1)
  else
    some (.go ())
  partial_fixpoint

def F.spec_l3Find (list : List Vl.VarType) (n : Int) : Option (Int) :=
  (F.spec_l3Find_l1 list n 0) >>= fun o' =>
  match o' with
  | .ret r0 => some r0
  | .go sx =>
    some (-1 : Int)

def F.spec_l3Alike_l1 (a : List Vl.VarType) (b : List Vl.VarType) (i : Nat) : Option (Lo Bool Unit) :=
  if i < a.length then
    (a[i]?) >>= fun x =>
    (F.spec_l3Find b x.var) >>= fun v =>
    if v < 0 then
      some (.ret false)
    else
      (at? b v) >>= fun x8 =>
      if dec (eq2 (x8.type.data, x8.type.index) (x.type.data, x.type.index)) = true then
        F.spec_l3Alike_l1 a b (i + 1)
      else
        some (.ret false)
  else
    some (.go ())
  partial_fixpoint

def F.spec_l3Alike (a : List Vl.VarType) (b : List Vl.VarType) : Option (Bool) :=
  (F.spec_l3Alike_l1 a b 0) >>= fun o' =>
  match o' with
  | .ret r0 => some r0
  | .go sx =>
    some (decide (a.length = b.length))

def F.spec_l3Linear_l2 (v26 : List Vl.VarType) (i28 : Nat) : Option (Lo Bool Unit) :=
  if i28 < v26.length then
    (v26[i28]?) >>= fun x32 =>
    (F.spec_l3Find v26 x32.var) >>= fun v34 =>
    if v34 = (i28 : Int) then
      F.spec_l3Linear_l2 v26 (i28 + 1)
    else
      some (.ret false)
  else
    some (.go ())
  partial_fixpoint

mutual
def F.spec_l3Linear (w : List Vl.Data) (t : Vl.Ty) (p : Vl.Pattern) : Option (Bool) :=
  (F.spec_l3Types w t p) >>= fun v =>
  (F.spec_l3Linear_l1 w t p v 0) >>= fun o' =>
  match o' with
  | .ret r042 => some r042
  | .go sx =>
    if p.op = 5 then
      (p.kids[0]?) >>= fun x16 =>
      (F.spec_l3Vars [] w t x16) >>= fun v18 =>
      (p.kids[1]?) >>= fun x20 =>
      (F.spec_l3Vars [] w t x20) >>= fun v22 =>
      (F.spec_l3Alike v18 v22) >>= fun v24 =>
      some v24
    else
      (F.spec_l3Vars [] w t p) >>= fun v26 =>
      (F.spec_l3Linear_l2 v26 0) >>= fun o'40 =>
      match o'40 with
      | .ret r0 => some r0
      | .go sx41 =>
        some true
  partial_fixpoint
def F.spec_l3Linear_l1 (w : List Vl.Data) (t : Vl.Ty) (p : Vl.Pattern) (v : List Vl.Ty) (i : Nat) : Option (Lo Bool Unit) :=
  if i < v.length then
    (v[i]?) >>= fun x =>
    (p.kids[i]?) >>= fun x6 =>
    (F.spec_l3Linear w x x6) >>= fun v8 =>
    if v8 = true then
      F.spec_l3Linear_l1 w t p v (i + 1)
    else
      some (.ret false)
  else
    some (.go ())
  partial_fixpoint
end

def F.spec_l3Is (w : List Vl.Data) (t : Vl.Ty) (p : Vl.Pattern) : Option (Bool) :=
  (F.spec_l3Shape w t p (10 : Int)) >>= fun v =>
  if v = true then
    (F.spec_l3Count p (60 : Int)) >>= fun v4 =>
    if v4 ≤ 60 then
      (F.spec_l3Linear w t p) >>= fun v8 =>
      some v8
    else
      some false
  else
    some false

def F.spec_l4Guard (g : Vl.Guard) (vars : List Vl.VarType) : Option (Bool) :=
  if g.op = 0 then
    if g.var = 0 then
      some (decide (g.n = 0))
    else
      some false
  else
    if g.op = 1 then
      if g.n < 0 then
        some false
      else
        if 9 < g.n then
          some false
        else
          (F.spec_l3Find vars g.var) >>= fun v21 =>
          if 0 ≤ v21 then
            (at? vars v21) >>= fun x25 =>
            some (decide (x25.type.data = (-1)))
          else
            some false
    else
      if g.op = 2 then
        if g.n < 0 then
          some false
        else
          if 9 < g.n then
            some false
          else
            (F.spec_l3Find vars g.var) >>= fun v =>
            if 0 ≤ v then
              (at? vars v) >>= fun x =>
              some (decide (x.type.data = (-1)))
            else
              some false
      else
        some false

def F.spec_l4Is (w : List Vl.Data) (t : Vl.Ty) (c' : Vl.Clause) : Option (Bool) :=
  (F.spec_l3Is w t c'.pat) >>= fun v =>
  if v = true then
    (F.spec_l3Vars [] w t c'.pat) >>= fun v4 =>
    (F.spec_l4Guard c'.guard v4) >>= fun v6 =>
    some v6
  else
    some false

def F.spec_ClausesValid_l1 (w : List Vl.Data) (t : Vl.Ty) (list : List Vl.Clause) (i : Nat) : Option (Lo Bool Unit) :=
  if i < list.length then
    (list[i]?) >>= fun x =>
    (F.spec_l4Is w t x) >>= fun v11 =>
    if v11 = true then
      F.spec_ClausesValid_l1 w t list (i + 1)
    else
      some (.ret false)
  else
    some (.go ())
  partial_fixpoint

def F.spec_ClausesValid (w : List Vl.Data) (t : Vl.Ty) (list : List Vl.Clause) : Option (Bool) :=
  (F.spec_TypeValid w t) >>= fun v =>
  if v = true then
    if 8 < list.length then
      some false
    else
      (F.spec_ClausesValid_l1 w t list 0) >>= fun o' =>
      match o' with
      | .ret r0 => some r0
      | .go sx =>
        some true
  else
    some false

def F.spec_l3Letter (n : Int) : Option (ByteArray) :=
  some (strB [IntKind.u8.wrap (97 + IntKind.u8.wrap n)])

def F.spec_l17Dec_l1 (n7 : Int) (out : ByteArray) : Option (Int × ByteArray) :=
  if 9 < n7 then
    if (strB [IntKind.u8.wrap (IntKind.i64.wrap (48 + n7.tmod 10))]).size + out.size ≤ 9223372036854775807 then
      F.spec_l17Dec_l1 (IntKind.i64.wrap (n7.tdiv 10)) ((strB [IntKind.u8.wrap (IntKind.i64.wrap (48 + n7.tmod 10))]) ++ out)
    else none
  else
    some (n7, out)
  partial_fixpoint

def F.spec_l17Dec (n : Int) : Option (ByteArray) :=
  if n < (-9223372036854775807) then
    some (⟨#[45, 57, 50, 50, 51, 51, 55, 50, 48, 51, 54, 56, 53, 52, 55, 55, 53, 56, 48, 56]⟩ : ByteArray)
  else
    if n < 0 then
      (F.spec_l17Dec (IntKind.i64.wrap (0 - n))) >>= fun v =>
      if (⟨#[45]⟩ : ByteArray).size + v.size ≤ 9223372036854775807 then
        some ((⟨#[45]⟩ : ByteArray) ++ v)
      else none
    else
      (F.spec_l17Dec_l1 n ByteArray.empty) >>= fun o' =>
      if (strB [IntKind.u8.wrap (IntKind.i64.wrap (48 + o'.1))]).size + o'.2.size ≤ 9223372036854775807 then
        some ((strB [IntKind.u8.wrap (IntKind.i64.wrap (48 + o'.1))]) ++ o'.2)
      else none
  partial_fixpoint

mutual
def F.spec_l3Text (w : List Vl.Data) (t : Vl.Ty) (p : Vl.Pattern) : Option (ByteArray) :=
  if p.op = 1 then
    some (⟨#[95]⟩ : ByteArray)
  else
    if p.op = 2 then
      (F.spec_l3Letter p.var) >>= fun v =>
      some v
    else
      if p.op = 3 then
        if p.n = p.m then
          (F.spec_l17Dec p.n) >>= fun v10 =>
          some v10
        else
          (F.spec_l17Dec p.n) >>= fun v12 =>
          if v12.size + (⟨#[45]⟩ : ByteArray).size ≤ 9223372036854775807 then
            (F.spec_l17Dec p.m) >>= fun v15 =>
            if (v12 ++ (⟨#[45]⟩ : ByteArray)).size + v15.size ≤ 9223372036854775807 then
              some ((v12 ++ (⟨#[45]⟩ : ByteArray)) ++ v15)
            else none
          else none
      else
        if p.op = 5 then
          (p.kids[0]?) >>= fun x =>
          (F.spec_l3Text w t x) >>= fun v21 =>
          if (⟨#[40]⟩ : ByteArray).size + v21.size ≤ 9223372036854775807 then
            if ((⟨#[40]⟩ : ByteArray) ++ v21).size + (⟨#[124]⟩ : ByteArray).size ≤ 9223372036854775807 then
              (p.kids[1]?) >>= fun x25 =>
              (F.spec_l3Text w t x25) >>= fun v27 =>
              if (((⟨#[40]⟩ : ByteArray) ++ v21) ++ (⟨#[124]⟩ : ByteArray)).size + v27.size ≤ 9223372036854775807 then
                if ((((⟨#[40]⟩ : ByteArray) ++ v21) ++ (⟨#[124]⟩ : ByteArray)) ++ v27).size + (⟨#[41]⟩ : ByteArray).size ≤ 9223372036854775807 then
                  some (((((⟨#[40]⟩ : ByteArray) ++ v21) ++ (⟨#[124]⟩ : ByteArray)) ++ v27) ++ (⟨#[41]⟩ : ByteArray))
                else none
              else none
            else none
          else none
        else
          if p.op = 6 then
            (F.spec_l3Letter p.var) >>= fun v33 =>
            if v33.size + (⟨#[64]⟩ : ByteArray).size ≤ 9223372036854775807 then
              (p.kids[0]?) >>= fun x36 =>
              (F.spec_l3Text w t x36) >>= fun v38 =>
              if (v33 ++ (⟨#[64]⟩ : ByteArray)).size + v38.size ≤ 9223372036854775807 then
                some ((v33 ++ (⟨#[64]⟩ : ByteArray)) ++ v38)
              else none
            else none
          else
            (at? w t.data) >>= fun x41 =>
            (at? x41.ctors p.ctor) >>= fun x43 =>
            (F.spec_l1Args w t p.ctor) >>= fun v45 =>
            (F.spec_l3Text_l1 w p v45 x43.name 0) >>= fun o' =>
            if 0 < v45.length then
              if o'.size + (⟨#[41]⟩ : ByteArray).size ≤ 9223372036854775807 then
                some (o' ++ (⟨#[41]⟩ : ByteArray))
              else none
            else
              some o'
  partial_fixpoint
def F.spec_l3Text_l1 (w : List Vl.Data) (p : Vl.Pattern) (v45 : List Vl.Ty) (out : ByteArray) (i : Nat) : Option (ByteArray) :=
  if i < v45.length then
    if i = 0 then
      if out.size + (⟨#[40]⟩ : ByteArray).size ≤ 9223372036854775807 then
        (v45[i]?) >>= fun x54 =>
        (p.kids[i]?) >>= fun x56 =>
        (F.spec_l3Text w x54 x56) >>= fun v58 =>
        if (out ++ (⟨#[40]⟩ : ByteArray)).size + v58.size ≤ 9223372036854775807 then
          F.spec_l3Text_l1 w p v45 ((out ++ (⟨#[40]⟩ : ByteArray)) ++ v58) (i + 1)
        else none
      else none
    else
      if out.size + (⟨#[44]⟩ : ByteArray).size ≤ 9223372036854775807 then
        (v45[i]?) >>= fun x63 =>
        (p.kids[i]?) >>= fun x65 =>
        (F.spec_l3Text w x63 x65) >>= fun v67 =>
        if (out ++ (⟨#[44]⟩ : ByteArray)).size + v67.size ≤ 9223372036854775807 then
          F.spec_l3Text_l1 w p v45 ((out ++ (⟨#[44]⟩ : ByteArray)) ++ v67) (i + 1)
        else none
      else none
  else
    some out
  partial_fixpoint
end

def F.spec_l4Text (w : List Vl.Data) (t : Vl.Ty) (c' : Vl.Clause) : Option (ByteArray) :=
  (F.spec_l3Text w t c'.pat) >>= fun v =>
  if c'.guard.op = 1 then
    if v.size + (⟨#[32]⟩ : ByteArray).size ≤ 9223372036854775807 then
      (F.spec_l3Letter c'.guard.var) >>= fun v5 =>
      if (v ++ (⟨#[32]⟩ : ByteArray)).size + v5.size ≤ 9223372036854775807 then
        if ((v ++ (⟨#[32]⟩ : ByteArray)) ++ v5).size + (⟨#[60]⟩ : ByteArray).size ≤ 9223372036854775807 then
          (F.spec_l17Dec c'.guard.n) >>= fun v9 =>
          if (((v ++ (⟨#[32]⟩ : ByteArray)) ++ v5) ++ (⟨#[60]⟩ : ByteArray)).size + v9.size ≤ 9223372036854775807 then
            some ((((v ++ (⟨#[32]⟩ : ByteArray)) ++ v5) ++ (⟨#[60]⟩ : ByteArray)) ++ v9)
          else none
        else none
      else none
    else none
  else
    if c'.guard.op = 2 then
      if v.size + (⟨#[32]⟩ : ByteArray).size ≤ 9223372036854775807 then
        (F.spec_l3Letter c'.guard.var) >>= fun v15 =>
        if (v ++ (⟨#[32]⟩ : ByteArray)).size + v15.size ≤ 9223372036854775807 then
          if ((v ++ (⟨#[32]⟩ : ByteArray)) ++ v15).size + (⟨#[61]⟩ : ByteArray).size ≤ 9223372036854775807 then
            (F.spec_l17Dec c'.guard.n) >>= fun v19 =>
            if (((v ++ (⟨#[32]⟩ : ByteArray)) ++ v15) ++ (⟨#[61]⟩ : ByteArray)).size + v19.size ≤ 9223372036854775807 then
              some ((((v ++ (⟨#[32]⟩ : ByteArray)) ++ v15) ++ (⟨#[61]⟩ : ByteArray)) ++ v19)
            else none
          else none
        else none
      else none
    else
      some v

def F.spec_l4Texts_l1 (w : List Vl.Data) (t : Vl.Ty) (list : List Vl.Clause) (out : ByteArray) (i : Nat) : Option (ByteArray) :=
  if i < list.length then
    if 0 < i then
      if out.size + (⟨#[47]⟩ : ByteArray).size ≤ 9223372036854775807 then
        (list[i]?) >>= fun x =>
        (F.spec_l4Text w t x) >>= fun v =>
        if (out ++ (⟨#[47]⟩ : ByteArray)).size + v.size ≤ 9223372036854775807 then
          F.spec_l4Texts_l1 w t list ((out ++ (⟨#[47]⟩ : ByteArray)) ++ v) (i + 1)
        else none
      else none
    else
      (list[i]?) >>= fun x12 =>
      (F.spec_l4Text w t x12) >>= fun v14 =>
      if out.size + v14.size ≤ 9223372036854775807 then
        F.spec_l4Texts_l1 w t list (out ++ v14) (i + 1)
      else none
  else
    some out
  partial_fixpoint

def F.spec_l4Texts (w : List Vl.Data) (t : Vl.Ty) (list : List Vl.Clause) : Option (ByteArray) :=
  (F.spec_l4Texts_l1 w t list ByteArray.empty 0) >>= fun o' =>
  some o'

def F.spec_FormatClauses (w : List Vl.Data) (t : Vl.Ty) (list : List Vl.Clause) : Option (ByteArray) :=
  (F.spec_ClausesValid w t list) >>= fun v =>
  if v = true then
    (F.spec_l4Texts w t list) >>= fun v4 =>
    some v4
  else
    some ByteArray.empty

def F.impl_within (n : Int) (low : Int) (high : Int) : Option (Bool) :=
  if low ≤ n then
    some (decide (n ≤ high))
  else
    some false

def F.impl_NameValid_l1 (s : ByteArray) (i : Nat) : Option (Lo Bool Unit) :=
  if i < s.size then
    if byteAt s i < 97 then
      some (.ret false)
    else
      if 122 < byteAt s i then
        some (.ret false)
      else
        if i + 1 ≤ 9223372036854775807 then
          F.impl_NameValid_l1 s (i + 1)
        else none
  else
    some (.go ())
  partial_fixpoint

def F.impl_NameValid (s : ByteArray) : Option (Bool) :=
  (F.impl_within (s.size : Int) (1 : Int) (5 : Int)) >>= fun v =>
  if v = true then
    if 0 < s.size then
      if byteAt s 0 < 65 then
        some false
      else
        if 90 < byteAt s 0 then
          some false
        else
          (F.impl_NameValid_l1 s 1) >>= fun o' =>
          match o' with
          | .ret r0 => some r0
          | .go sx =>
            some true
    else none
  else
    some false

def F.impl_argOk (w : List Vl.Data) (t : Vl.Ty) : Option (Bool) :=
  if dec (eq2 (t.data, t.index) ((-1), 0)) = true then
    some true
  else
    (F.impl_within t.data (0 : Int) (IntKind.i64.wrap ((w.length : Int) - 1))) >>= fun v =>
    if v = true then
      (F.impl_within t.index (-1 : Int) (3 : Int)) >>= fun v6 =>
      some v6
    else
      some false

def F.impl_ctorOk_1 (t : Vl.Ty) (a1 : List Vl.Data) : Option (Bool) :=
  (F.impl_argOk a1 t) >>= fun v =>
  some (!v)

def F.slices_IndexFunc_Type__impl_ctorOk_1_l1 (s : List Vl.Ty) (k0 : List Vl.Data) (i : Nat) : Option (Lo Int Unit) :=
  if i < s.length then
    (s[i]?) >>= fun x =>
    (F.impl_ctorOk_1 x k0) >>= fun v =>
    if v = true then
      some (.ret (i : Int))
    else
      F.slices_IndexFunc_Type__impl_ctorOk_1_l1 s k0 (i + 1)
  else
    some (.go ())
  partial_fixpoint

def F.slices_IndexFunc_Type__impl_ctorOk_1 (s : List Vl.Ty) (k0 : List Vl.Data) : Option (Int) :=
  (F.slices_IndexFunc_Type__impl_ctorOk_1_l1 s k0 0) >>= fun o' =>
  match o' with
  | .ret r0 => some r0
  | .go sx =>
    some (-1 : Int)

def F.slices_ContainsFunc_Type__impl_ctorOk_1 (s : List Vl.Ty) (k0 : List Vl.Data) : Option (Bool) :=
  (F.slices_IndexFunc_Type__impl_ctorOk_1 s k0) >>= fun v =>
  some (decide (0 ≤ v))

def F.impl_ctorOk (w : List Vl.Data) (c' : Vl.Ctor) : Option (Bool) :=
  (F.impl_NameValid c'.name) >>= fun v =>
  if v = true then
    if c'.args.length ≤ 3 then
      (F.impl_within c'.index (0 : Int) (3 : Int)) >>= fun v7 =>
      if v7 = true then
        (F.slices_ContainsFunc_Type__impl_ctorOk_1 c'.args w) >>= fun v11 =>
        some (!v11)
      else
        some false
    else
      some false
  else
    some false

def F.impl_WorldValid_l2 (w : List Vl.Data) (met4 : List ByteArray) (i : Nat) (x : Vl.Data) (met26 : List ByteArray) (i27 : Nat) : Option (Lo Bool (List ByteArray)) :=
  if i27 < x.ctors.length then
    (x.ctors[i27]?) >>= fun x31 =>
    (F.impl_ctorOk w x31) >>= fun v33 =>
    if v33 = true then
      if dec (x31.name ∈ met26) = true then
        some (.ret false)
      else
        F.impl_WorldValid_l2 w met4 i x (msIns met26 x31.name) (i27 + 1)
    else
      some (.ret false)
  else
    some (.go met26)
  partial_fixpoint

def F.impl_WorldValid_l1 (w : List Vl.Data) (met : List ByteArray) (met4 : List ByteArray) (i : Nat) : Option (Lo Bool ((List ByteArray) × (List ByteArray))) :=
  if i < w.length then
    (w[i]?) >>= fun x =>
    if x.name.size = 1 then
      if 0 < x.name.size then
        if byteAt x.name 0 < 65 then
          some (.ret false)
        else
          if 90 < byteAt x.name 0 then
            some (.ret false)
          else
            if x.name.toList = (⟨#[73]⟩ : ByteArray).toList then
              some (.ret false)
            else
              if dec (x.name ∈ met4) = true then
                some (.ret false)
              else
                (F.impl_within (x.ctors.length : Int) (1 : Int) (4 : Int)) >>= fun v =>
                if v = true then
                  (F.impl_WorldValid_l2 w met4 i x met 0) >>= fun o' =>
                  match o' with
                  | .ret r0 => some (.ret r0)
                  | .go sx =>
                    if i + 1 ≤ 9223372036854775807 then
                      F.impl_WorldValid_l1 w sx (msIns met4 x.name) (i + 1)
                    else none
                else
                  some (.ret false)
      else none
    else
      some (.ret false)
  else
    some (.go (met, met4))
  partial_fixpoint

def F.impl_WorldValid (w : List Vl.Data) : Option (Bool) :=
  if 4 < w.length then
    some false
  else
    (F.impl_WorldValid_l1 w [] [] 0) >>= fun o'44 =>
    match o'44 with
    | .ret r046 => some r046
    | .go sx45 =>
      some true

def F.impl_typeOk (w : List Vl.Data) (t : Vl.Ty) : Option (Bool) :=
  if dec (eq2 (t.data, t.index) ((-1), 0)) = true then
    some true
  else
    (F.impl_within t.data (0 : Int) (IntKind.i64.wrap ((w.length : Int) - 1))) >>= fun v =>
    if v = true then
      (F.impl_within t.index (0 : Int) (3 : Int)) >>= fun v6 =>
      some v6
    else
      some false

def F.impl_TypeValid (w : List Vl.Data) (t : Vl.Ty) : Option (Bool) :=
  (F.impl_WorldValid w) >>= fun v =>
  if v = true then
    (F.impl_typeOk w t) >>= fun v4 =>
    some v4
  else
    some false

def F.impl_only (p : Vl.Pattern) (ctor : Bool) (numbers : Bool) (variable' : Bool) (kids : Int) : Option (Bool) :=
  if ctor = true then
    if numbers = true then
      if variable' = true then
        some (decide ((p.kids.length : Int) = kids))
      else
        if p.var = 0 then
          some (decide ((p.kids.length : Int) = kids))
        else
          some false
    else
      if p.n = 0 then
        if p.m = 0 then
          if variable' = true then
            some (decide ((p.kids.length : Int) = kids))
          else
            if p.var = 0 then
              some (decide ((p.kids.length : Int) = kids))
            else
              some false
        else
          some false
      else
        some false
  else
    if p.ctor = 0 then
      if numbers = true then
        if variable' = true then
          some (decide ((p.kids.length : Int) = kids))
        else
          if p.var = 0 then
            some (decide ((p.kids.length : Int) = kids))
          else
            some false
      else
        if p.n = 0 then
          if p.m = 0 then
            if variable' = true then
              some (decide ((p.kids.length : Int) = kids))
            else
              if p.var = 0 then
                some (decide ((p.kids.length : Int) = kids))
              else
                some false
          else
            some false
        else
          some false
    else
      some false

def F.impl_isVar (v : Int) : Option (Bool) :=
  (F.impl_within v (0 : Int) (5 : Int)) >>= fun v1 =>
  some v1

def F.impl_ctorsOf_l1 (t : Vl.Ty) (x : Vl.Data) (i : Nat) (out : List Int) : Option (List Int) :=
  if i < x.ctors.length then
    (x.ctors[i]?) >>= fun x7 =>
    if t.index = 0 then
      if out.length + 1 ≤ 67108864 then
        F.impl_ctorsOf_l1 t x (i + 1) (out ++ [(i : Int)])
      else none
    else
      if x7.index = 0 then
        if out.length + 1 ≤ 67108864 then
          F.impl_ctorsOf_l1 t x (i + 1) (out ++ [(i : Int)])
        else none
      else
        if x7.index = t.index then
          if out.length + 1 ≤ 67108864 then
            F.impl_ctorsOf_l1 t x (i + 1) (out ++ [(i : Int)])
          else none
        else
          F.impl_ctorsOf_l1 t x (i + 1) out
  else
    some out
  partial_fixpoint

def F.impl_ctorsOf (w : List Vl.Data) (t : Vl.Ty) : Option (List Int) :=
  if t.data = (-1) then
    some []
  else
    (at? w t.data) >>= fun x =>
    (F.impl_ctorsOf_l1 t x 0 []) >>= fun o' =>
    some o'

def F.slices_Index_int_l1 (s : List Int) (v : Int) (i : Nat) : Option (Lo Int Unit) :=
  if i < s.length then
    (s[i]?) >>= fun x =>
    if v = x then
      some (.ret (i : Int))
    else
      F.slices_Index_int_l1 s v (i + 1)
  else
    some (.go ())
  partial_fixpoint

def F.slices_Index_int (s : List Int) (v : Int) : Option (Int) :=
  (F.slices_Index_int_l1 s v 0) >>= fun o' =>
  match o' with
  | .ret r0 => some r0
  | .go sx =>
    some (-1 : Int)

def F.slices_Contains_int (s : List Int) (v : Int) : Option (Bool) :=
  (F.slices_Index_int s v) >>= fun v1 =>
  some (decide (0 ≤ v1))

def F.impl_argTypes_l1 (t : Vl.Ty) (x2 : Vl.Ctor) (i : Nat) (out : List Vl.Ty) : Option (List Vl.Ty) :=
  if i < x2.args.length then
    (x2.args[i]?) >>= fun x9 =>
    if x9.index = (-1) then
      if out.length + 1 ≤ 67108864 then
        F.impl_argTypes_l1 t x2 (i + 1) (out ++ [(⟨x9.data, t.index⟩ : Vl.Ty)])
      else none
    else
      if out.length + 1 ≤ 67108864 then
        F.impl_argTypes_l1 t x2 (i + 1) (out ++ [x9])
      else none
  else
    some out
  partial_fixpoint

def F.impl_argTypes_l2 (x2 : Vl.Ctor) (i18 : Nat) (out19 : List Vl.Ty) : Option (List Vl.Ty) :=
  if i18 < x2.args.length then
    (x2.args[i18]?) >>= fun x23 =>
    if x23.index = (-1) then
      if out19.length + 1 ≤ 67108864 then
        F.impl_argTypes_l2 x2 (i18 + 1) (out19 ++ [(⟨x23.data, x2.index⟩ : Vl.Ty)])
      else none
    else
      if out19.length + 1 ≤ 67108864 then
        F.impl_argTypes_l2 x2 (i18 + 1) (out19 ++ [x23])
      else none
  else
    some out19
  partial_fixpoint

def F.impl_argTypes (w : List Vl.Data) (t : Vl.Ty) (ctor : Int) : Option (List Vl.Ty) :=
  (at? w t.data) >>= fun x =>
  (at? x.ctors ctor) >>= fun x2 =>
  if x2.index = 0 then
    (F.impl_argTypes_l1 t x2 0 []) >>= fun o' =>
    some o'
  else
    (F.impl_argTypes_l2 x2 0 []) >>= fun o'32 =>
    some o'32

def F.impl_shape (w : List Vl.Data) (t : Vl.Ty) (p : Vl.Pattern) : Option ((List Vl.Ty) × Bool) :=
  if p.op = 1 then
    (F.impl_only p false false false (0 : Int)) >>= fun v =>
    some ([], v)
  else
    if p.op = 2 then
      (F.impl_only p false false true (0 : Int)) >>= fun v6 =>
      if v6 = true then
        (F.impl_isVar p.var) >>= fun v10 =>
        some ([], v10)
      else
        some ([], false)
    else
      if p.op = 3 then
        if t.data = (-1) then
          (F.impl_only p false true false (0 : Int)) >>= fun v16 =>
          if v16 = true then
            if 0 ≤ p.n then
              if p.n ≤ p.m then
                some ([], decide (p.m ≤ 9))
              else
                some ([], false)
            else
              some ([], false)
          else
            some ([], false)
        else
          some ([], false)
      else
        if p.op = 4 then
          (F.impl_ctorsOf w t) >>= fun v26 =>
          (F.slices_Contains_int v26 p.ctor) >>= fun v28 =>
          if v28 = true then
            (F.impl_argTypes w t p.ctor) >>= fun v32 =>
            (F.impl_only p true false false (v32.length : Int)) >>= fun v34 =>
            some (v32, v34)
          else
            some ([], false)
        else
          if p.op = 5 then
            (F.impl_only p false false false (2 : Int)) >>= fun v38 =>
            some ([t, t], v38)
          else
            if p.op = 6 then
              (F.impl_only p false false true (1 : Int)) >>= fun v42 =>
              if v42 = true then
                (F.impl_isVar p.var) >>= fun v46 =>
                some ([t], v46)
              else
                some ([t], false)
            else
              some ([], false)

def F.slices_Index_VarType_l1 (s : List Vl.VarType) (v : Vl.VarType) (i : Nat) : Option (Lo Int Unit) :=
  if i < s.length then
    (s[i]?) >>= fun x =>
    if dec (eq3 (v.var, v.type.data, v.type.index) (x.var, x.type.data, x.type.index)) = true then
      some (.ret (i : Int))
    else
      F.slices_Index_VarType_l1 s v (i + 1)
  else
    some (.go ())
  partial_fixpoint

def F.slices_Index_VarType (s : List Vl.VarType) (v : Vl.VarType) : Option (Int) :=
  (F.slices_Index_VarType_l1 s v 0) >>= fun o' =>
  match o' with
  | .ret r0 => some r0
  | .go sx =>
    some (-1 : Int)

def F.slices_Contains_VarType (s : List Vl.VarType) (v : Vl.VarType) : Option (Bool) :=
  (F.slices_Index_VarType s v) >>= fun v1 =>
  some (decide (0 ≤ v1))

def F.impl_sameVars_1 (v : Vl.VarType) (a1 : List Vl.VarType) : Option (Bool) :=
  (F.slices_Contains_VarType a1 v) >>= fun v1 =>
  some (!v1)

def F.slices_IndexFunc_VarType__impl_sameVars_1_l1 (s : List Vl.VarType) (k0 : List Vl.VarType) (i : Nat) : Option (Lo Int Unit) :=
  if i < s.length then
    (s[i]?) >>= fun x =>
    (F.impl_sameVars_1 x k0) >>= fun v =>
    if v = true then
      some (.ret (i : Int))
    else
      F.slices_IndexFunc_VarType__impl_sameVars_1_l1 s k0 (i + 1)
  else
    some (.go ())
  partial_fixpoint

def F.slices_IndexFunc_VarType__impl_sameVars_1 (s : List Vl.VarType) (k0 : List Vl.VarType) : Option (Int) :=
  (F.slices_IndexFunc_VarType__impl_sameVars_1_l1 s k0 0) >>= fun o' =>
  match o' with
  | .ret r0 => some r0
  | .go sx =>
    some (-1 : Int)

def F.slices_ContainsFunc_VarType__impl_sameVars_1 (s : List Vl.VarType) (k0 : List Vl.VarType) : Option (Bool) :=
  (F.slices_IndexFunc_VarType__impl_sameVars_1 s k0) >>= fun v =>
  some (decide (0 ≤ v))

def F.impl_sameVars (a : List Vl.VarType) (b : List Vl.VarType) : Option (Bool) :=
  if a.length = b.length then
    (F.slices_ContainsFunc_VarType__impl_sameVars_1 a b) >>= fun v =>
    some (!v)
  else
    some false

def F.impl_patternScan_l2 (sx : Int × (List Vl.VarType)) (set' : Nat → Bool) (i37 : Nat) : Option (Lo ((List Vl.VarType) × Bool × Int) Unit) :=
  if i37 < sx.2.length then
    (sx.2[i37]?) >>= fun x41 =>
    if 0 ≤ x41.var ∧ x41.var.toNat < 6 then
      if set' x41.var.toNat = true then
        some (.ret ([], false, sx.1))
      else
        F.impl_patternScan_l2 sx (updF set' x41.var.toNat true) (i37 + 1)
    else none
  else
    some (.go ())
  partial_fixpoint

def F.impl_patternScan_l4 (sx81 : Int × (List Vl.VarType)) (set'82 : Nat → Bool) (i83 : Nat) : Option (Lo ((List Vl.VarType) × Bool × Int) Unit) :=
  if i83 < sx81.2.length then
    (sx81.2[i83]?) >>= fun x87 =>
    if 0 ≤ x87.var ∧ x87.var.toNat < 6 then
      if set'82 x87.var.toNat = true then
        some (.ret ([], false, sx81.1))
      else
        F.impl_patternScan_l4 sx81 (updF set'82 x87.var.toNat true) (i83 + 1)
    else none
  else
    some (.go ())
  partial_fixpoint

def F.impl_patternScan_l6 (sx128 : Int × (List Vl.VarType)) (set'129 : Nat → Bool) (i130 : Nat) : Option (Lo ((List Vl.VarType) × Bool × Int) Unit) :=
  if i130 < sx128.2.length then
    (sx128.2[i130]?) >>= fun x134 =>
    if 0 ≤ x134.var ∧ x134.var.toNat < 6 then
      if set'129 x134.var.toNat = true then
        some (.ret ([], false, sx128.1))
      else
        F.impl_patternScan_l6 sx128 (updF set'129 x134.var.toNat true) (i130 + 1)
    else none
  else
    some (.go ())
  partial_fixpoint

mutual
def F.impl_patternScan (w : List Vl.Data) (t : Vl.Ty) (p : Vl.Pattern) (deep : Int) (count : Int) : Option ((List Vl.VarType) × Bool × Int) :=
  if 60 < IntKind.i64.wrap (count + 1) then
    some ([], false, IntKind.i64.wrap (count + 1))
  else
    if 10 < deep then
      some ([], false, IntKind.i64.wrap (count + 1))
    else
      (F.impl_shape w t p) >>= fun v =>
      if v.2 = true then
        if p.op = 2 then
          (F.impl_patternScan_l5 w p deep v (IntKind.i64.wrap (count + 1)) [(⟨p.var, t⟩ : Vl.VarType)] 0) >>= fun o'127 =>
          match o'127 with
          | .ret r0144 => some r0144
          | .go sx128 =>
            (F.impl_patternScan_l6 sx128 (fun _ => false) 0) >>= fun o'141 =>
            match o'141 with
            | .ret r0143 => some r0143
            | .go sx142 =>
              some (sx128.2, true, sx128.1)
        else
          if p.op = 6 then
            (F.impl_patternScan_l1 w p deep v (IntKind.i64.wrap (count + 1)) [(⟨p.var, t⟩ : Vl.VarType)] 0) >>= fun o' =>
            match o' with
            | .ret r050 => some r050
            | .go sx =>
              (F.impl_patternScan_l2 sx (fun _ => false) 0) >>= fun o'48 =>
              match o'48 with
              | .ret r0 => some r0
              | .go sx49 =>
                some (sx.2, true, sx.1)
          else
            (F.impl_patternScan_l3 w p deep v (IntKind.i64.wrap (count + 1)) [] 0) >>= fun o'80 =>
            match o'80 with
            | .ret r097 => some r097
            | .go sx81 =>
              (F.impl_patternScan_l4 sx81 (fun _ => false) 0) >>= fun o'94 =>
              match o'94 with
              | .ret r096 => some r096
              | .go sx95 =>
                some (sx81.2, true, sx81.1)
      else
        some ([], false, IntKind.i64.wrap (count + 1))
  partial_fixpoint
def F.impl_patternScan_l1 (w : List Vl.Data) (p : Vl.Pattern) (deep : Int) (v : (List Vl.Ty) × Bool) (z : Int) (vars : List Vl.VarType) (i : Nat) : Option (Lo ((List Vl.VarType) × Bool × Int) (Int × (List Vl.VarType))) :=
  if i < p.kids.length then
    (p.kids[i]?) >>= fun x =>
    (v.1[i]?) >>= fun x16 =>
    (F.impl_patternScan w x16 x (IntKind.i64.wrap (deep + 1)) z) >>= fun v18 =>
    if v18.2.1 = true then
      if p.op = 5 then
        if i = 1 then
          (F.impl_sameVars vars v18.1) >>= fun v27 =>
          if v27 = true then
            F.impl_patternScan_l1 w p deep v v18.2.2 vars (i + 1)
          else
            some (.ret ([], false, v18.2.2))
        else
          if vars.length + v18.1.length ≤ 67108864 then
            F.impl_patternScan_l1 w p deep v v18.2.2 (vars ++ v18.1) (i + 1)
          else none
      else
        if vars.length + v18.1.length ≤ 67108864 then
          F.impl_patternScan_l1 w p deep v v18.2.2 (vars ++ v18.1) (i + 1)
        else none
    else
      some (.ret ([], false, v18.2.2))
  else
    some (.go (z, vars))
  partial_fixpoint
def F.impl_patternScan_l3 (w : List Vl.Data) (p : Vl.Pattern) (deep : Int) (v : (List Vl.Ty) × Bool) (z51 : Int) (vars52 : List Vl.VarType) (i53 : Nat) : Option (Lo ((List Vl.VarType) × Bool × Int) (Int × (List Vl.VarType))) :=
  if i53 < p.kids.length then
    (p.kids[i53]?) >>= fun x57 =>
    (v.1[i53]?) >>= fun x59 =>
    (F.impl_patternScan w x59 x57 (IntKind.i64.wrap (deep + 1)) z51) >>= fun v61 =>
    if v61.2.1 = true then
      if p.op = 5 then
        if i53 = 1 then
          (F.impl_sameVars vars52 v61.1) >>= fun v70 =>
          if v70 = true then
            F.impl_patternScan_l3 w p deep v v61.2.2 vars52 (i53 + 1)
          else
            some (.ret ([], false, v61.2.2))
        else
          if vars52.length + v61.1.length ≤ 67108864 then
            F.impl_patternScan_l3 w p deep v v61.2.2 (vars52 ++ v61.1) (i53 + 1)
          else none
      else
        if vars52.length + v61.1.length ≤ 67108864 then
          F.impl_patternScan_l3 w p deep v v61.2.2 (vars52 ++ v61.1) (i53 + 1)
        else none
    else
      some (.ret ([], false, v61.2.2))
  else
    some (.go (z51, vars52))
  partial_fixpoint
def F.impl_patternScan_l5 (w : List Vl.Data) (p : Vl.Pattern) (deep : Int) (v : (List Vl.Ty) × Bool) (z98 : Int) (vars99 : List Vl.VarType) (i100 : Nat) : Option (Lo ((List Vl.VarType) × Bool × Int) (Int × (List Vl.VarType))) :=
  if i100 < p.kids.length then
    (p.kids[i100]?) >>= fun x104 =>
    (v.1[i100]?) >>= fun x106 =>
    (F.impl_patternScan w x106 x104 (IntKind.i64.wrap (deep + 1)) z98) >>= fun v108 =>
    if v108.2.1 = true then
      if p.op = 5 then
        if i100 = 1 then
          (F.impl_sameVars vars99 v108.1) >>= fun v117 =>
          if v117 = true then
            F.impl_patternScan_l5 w p deep v v108.2.2 vars99 (i100 + 1)
          else
            some (.ret ([], false, v108.2.2))
        else
          if vars99.length + v108.1.length ≤ 67108864 then
            F.impl_patternScan_l5 w p deep v v108.2.2 (vars99 ++ v108.1) (i100 + 1)
          else none
      else
        if vars99.length + v108.1.length ≤ 67108864 then
          F.impl_patternScan_l5 w p deep v v108.2.2 (vars99 ++ v108.1) (i100 + 1)
        else none
    else
      some (.ret ([], false, v108.2.2))
  else
    some (.go (z98, vars99))
  partial_fixpoint
end

def F.impl_patternVars (w : List Vl.Data) (t : Vl.Ty) (p : Vl.Pattern) : Option ((List Vl.VarType) × Bool) :=
  (F.impl_patternScan w t p (1 : Int) (0 : Int)) >>= fun v =>
  some (v.1, v.2.1)

def F.impl_guardOk (g : Vl.Guard) (vars : List Vl.VarType) : Option (Bool) :=
  if g.op = 0 then
    some (dec (eq3 (g.op, g.var, g.n) (0, 0, 0)))
  else
    (F.impl_within g.op (1 : Int) (2 : Int)) >>= fun v =>
    if v = true then
      (F.impl_within g.n (0 : Int) (9 : Int)) >>= fun v6 =>
      if v6 = true then
        (F.slices_Contains_VarType vars (⟨g.var, (⟨(-1 : Int), (0 : Int)⟩ : Vl.Ty)⟩ : Vl.VarType)) >>= fun v10 =>
        some v10
      else
        some false
    else
      some false

def F.impl_clauseOk (w : List Vl.Data) (t : Vl.Ty) (c' : Vl.Clause) : Option (Bool) :=
  (F.impl_patternVars w t c'.pat) >>= fun v =>
  if v.2 = true then
    (F.impl_guardOk c'.guard v.1) >>= fun v4 =>
    some v4
  else
    some false

def F.impl_ClausesValid_1 (c' : Vl.Clause) (a1 : List Vl.Data) (a2 : Vl.Ty) : Option (Bool) :=
  (F.impl_clauseOk a1 a2 c') >>= fun v =>
  some (!v)

def F.slices_IndexFunc_Clause__impl_ClausesValid_1_l1 (s : List Vl.Clause) (k0 : List Vl.Data) (k1 : Vl.Ty) (i : Nat) : Option (Lo Int Unit) :=
  if i < s.length then
    (s[i]?) >>= fun x =>
    (F.impl_ClausesValid_1 x k0 k1) >>= fun v =>
    if v = true then
      some (.ret (i : Int))
    else
      F.slices_IndexFunc_Clause__impl_ClausesValid_1_l1 s k0 k1 (i + 1)
  else
    some (.go ())
  partial_fixpoint

def F.slices_IndexFunc_Clause__impl_ClausesValid_1 (s : List Vl.Clause) (k0 : List Vl.Data) (k1 : Vl.Ty) : Option (Int) :=
  (F.slices_IndexFunc_Clause__impl_ClausesValid_1_l1 s k0 k1 0) >>= fun o' =>
  match o' with
  | .ret r0 => some r0
  | .go sx =>
    some (-1 : Int)

def F.slices_ContainsFunc_Clause__impl_ClausesValid_1 (s : List Vl.Clause) (k0 : List Vl.Data) (k1 : Vl.Ty) : Option (Bool) :=
  (F.slices_IndexFunc_Clause__impl_ClausesValid_1 s k0 k1) >>= fun v =>
  some (decide (0 ≤ v))

def F.impl_ClausesValid (w : List Vl.Data) (t : Vl.Ty) (list : List Vl.Clause) : Option (Bool) :=
  (F.impl_TypeValid w t) >>= fun v =>
  if v = true then
    if list.length ≤ 8 then
      (F.slices_ContainsFunc_Clause__impl_ClausesValid_1 list w t) >>= fun v7 =>
      some (!v7)
    else
      some false
  else
    some false

def F.impl_kidTypes (w : List Vl.Data) (t : Vl.Ty) (p : Vl.Pattern) : Option (List Vl.Ty) :=
  (F.impl_shape w t p) >>= fun v =>
  some v.1

def F.impl_letter (v : Int) : Option (ByteArray) :=
  some (strB [IntKind.u8.wrap (IntKind.i64.wrap (97 + v))])

def F.strconv_Itoa (i : Int) : Option (ByteArray) :=
  if 0 ≤ i ∧ i < 100 then
    some (itoaB i)
  else none

def F.impl_rangeText (n : Int) (m : Int) : Option (ByteArray) :=
  if n = m then
    (F.strconv_Itoa n) >>= fun v =>
    some v
  else
    (F.strconv_Itoa n) >>= fun v4 =>
    if v4.size + (⟨#[45]⟩ : ByteArray).size ≤ 9223372036854775807 then
      (F.strconv_Itoa m) >>= fun v7 =>
      if (v4 ++ (⟨#[45]⟩ : ByteArray)).size + v7.size ≤ 9223372036854775807 then
        some ((v4 ++ (⟨#[45]⟩ : ByteArray)) ++ v7)
      else none
    else none

def F.strings_Join (elems : List ByteArray) (sep : ByteArray) : Option (ByteArray) :=
  if joinOk elems sep then
    some (joinB elems sep)
  else none

def F.impl_listed (list : List ByteArray) : Option (ByteArray) :=
  if list.length = 0 then
    some ByteArray.empty
  else
    (F.strings_Join list (⟨#[44]⟩ : ByteArray)) >>= fun v =>
    if (⟨#[40]⟩ : ByteArray).size + v.size ≤ 9223372036854775807 then
      if ((⟨#[40]⟩ : ByteArray) ++ v).size + (⟨#[41]⟩ : ByteArray).size ≤ 9223372036854775807 then
        some (((⟨#[40]⟩ : ByteArray) ++ v) ++ (⟨#[41]⟩ : ByteArray))
      else none
    else none

mutual
def F.impl_patternText (w : List Vl.Data) (t : Vl.Ty) (p : Vl.Pattern) : Option (ByteArray) :=
  (F.impl_kidTypes w t p) >>= fun v =>
  (F.impl_patternText_l1 w t p v 0 []) >>= fun o' =>
  if p.op = 1 then
    some (⟨#[95]⟩ : ByteArray)
  else
    if p.op = 2 then
      (F.impl_letter p.var) >>= fun v17 =>
      some v17
    else
      if p.op = 3 then
        (F.impl_rangeText p.n p.m) >>= fun v21 =>
        some v21
      else
        if p.op = 4 then
          (at? w t.data) >>= fun x25 =>
          (at? x25.ctors p.ctor) >>= fun x27 =>
          (F.impl_listed o') >>= fun v29 =>
          if x27.name.size + v29.size ≤ 9223372036854775807 then
            some (x27.name ++ v29)
          else none
        else
          if p.op = 5 then
            (o'[0]?) >>= fun x34 =>
            if (⟨#[40]⟩ : ByteArray).size + x34.size ≤ 9223372036854775807 then
              if ((⟨#[40]⟩ : ByteArray) ++ x34).size + (⟨#[124]⟩ : ByteArray).size ≤ 9223372036854775807 then
                (o'[1]?) >>= fun x38 =>
                if (((⟨#[40]⟩ : ByteArray) ++ x34) ++ (⟨#[124]⟩ : ByteArray)).size + x38.size ≤ 9223372036854775807 then
                  if ((((⟨#[40]⟩ : ByteArray) ++ x34) ++ (⟨#[124]⟩ : ByteArray)) ++ x38).size + (⟨#[41]⟩ : ByteArray).size ≤ 9223372036854775807 then
                    some (((((⟨#[40]⟩ : ByteArray) ++ x34) ++ (⟨#[124]⟩ : ByteArray)) ++ x38) ++ (⟨#[41]⟩ : ByteArray))
                  else none
                else none
              else none
            else none
          else
            (F.impl_letter p.var) >>= fun v42 =>
            if v42.size + (⟨#[64]⟩ : ByteArray).size ≤ 9223372036854775807 then
              (o'[0]?) >>= fun x45 =>
              if (v42 ++ (⟨#[64]⟩ : ByteArray)).size + x45.size ≤ 9223372036854775807 then
                some ((v42 ++ (⟨#[64]⟩ : ByteArray)) ++ x45)
              else none
            else none
  partial_fixpoint
def F.impl_patternText_l1 (w : List Vl.Data) (t : Vl.Ty) (p : Vl.Pattern) (v : List Vl.Ty) (i : Nat) (kids : List ByteArray) : Option (List ByteArray) :=
  if i < p.kids.length then
    (p.kids[i]?) >>= fun x =>
    (v[i]?) >>= fun x6 =>
    (F.impl_patternText w x6 x) >>= fun v8 =>
    if kids.length + 1 ≤ 67108864 then
      F.impl_patternText_l1 w t p v (i + 1) (kids ++ [v8])
    else none
  else
    some kids
  partial_fixpoint
end

def F.impl_guardText (g : Vl.Guard) : Option (ByteArray) :=
  if g.op = 1 then
    (F.impl_letter g.var) >>= fun v =>
    if v.size + (⟨#[60]⟩ : ByteArray).size ≤ 9223372036854775807 then
      (F.strconv_Itoa g.n) >>= fun v5 =>
      if (v ++ (⟨#[60]⟩ : ByteArray)).size + v5.size ≤ 9223372036854775807 then
        some ((v ++ (⟨#[60]⟩ : ByteArray)) ++ v5)
      else none
    else none
  else
    (F.impl_letter g.var) >>= fun v8 =>
    if v8.size + (⟨#[61]⟩ : ByteArray).size ≤ 9223372036854775807 then
      (F.strconv_Itoa g.n) >>= fun v11 =>
      if (v8 ++ (⟨#[61]⟩ : ByteArray)).size + v11.size ≤ 9223372036854775807 then
        some ((v8 ++ (⟨#[61]⟩ : ByteArray)) ++ v11)
      else none
    else none

def F.impl_clausesText_l1 (w : List Vl.Data) (t : Vl.Ty) (list : List Vl.Clause) (i : Nat) (out : List ByteArray) : Option (List ByteArray) :=
  if i < list.length then
    (list[i]?) >>= fun x =>
    (F.impl_patternText w t x.pat) >>= fun v =>
    if x.guard.op = 0 then
      if out.length + 1 ≤ 67108864 then
        F.impl_clausesText_l1 w t list (i + 1) (out ++ [v])
      else none
    else
      (F.impl_guardText x.guard) >>= fun v8 =>
      if (⟨#[32]⟩ : ByteArray).size + v8.size ≤ 9223372036854775807 then
        if v.size + ((⟨#[32]⟩ : ByteArray) ++ v8).size ≤ 9223372036854775807 then
          if out.length + 1 ≤ 67108864 then
            F.impl_clausesText_l1 w t list (i + 1) (out ++ [v ++ ((⟨#[32]⟩ : ByteArray) ++ v8)])
          else none
        else none
      else none
  else
    some out
  partial_fixpoint

def F.impl_clausesText (w : List Vl.Data) (t : Vl.Ty) (list : List Vl.Clause) : Option (ByteArray) :=
  (F.impl_clausesText_l1 w t list 0 []) >>= fun o' =>
  (F.strings_Join o' (⟨#[47]⟩ : ByteArray)) >>= fun v17 =>
  some v17

def F.impl_FormatClauses (w : List Vl.Data) (t : Vl.Ty) (list : List Vl.Clause) : Option (ByteArray) :=
  (F.impl_ClausesValid w t list) >>= fun v =>
  if v = true then
    (F.impl_clausesText w t list) >>= fun v4 =>
    some v4
  else
    some ByteArray.empty

def F.laws_eqType (a : Vl.Ty) (b : Vl.Ty) : Option (Bool) :=
  if a.data = b.data then
    if a.index = b.index then
      some true
    else
      some false
  else
    some false

def F.laws_eqTypeS_l1 (a : List Vl.Ty) (b : List Vl.Ty) (i : Nat) : Option (Lo Bool Unit) :=
  if i < a.length then
    (a[i]?) >>= fun x =>
    (b[i]?) >>= fun x8 =>
    (F.laws_eqType x x8) >>= fun v =>
    if v = true then
      F.laws_eqTypeS_l1 a b (i + 1)
    else
      some (.ret false)
  else
    some (.go ())
  partial_fixpoint

def F.laws_eqTypeS (a : List Vl.Ty) (b : List Vl.Ty) : Option (Bool) :=
  if a.length = b.length then
    (F.laws_eqTypeS_l1 a b 0) >>= fun o' =>
    match o' with
    | .ret r0 => some r0
    | .go sx =>
      some true
  else
    some false

def F.laws_eqCtor (a : Vl.Ctor) (b : Vl.Ctor) : Option (Bool) :=
  if a.name.toList = b.name.toList then
    (F.laws_eqTypeS a.args b.args) >>= fun v =>
    if v = true then
      if a.index = b.index then
        some true
      else
        some false
    else
      some false
  else
    some false

def F.laws_eqCtorS_l1 (a : List Vl.Ctor) (b : List Vl.Ctor) (i : Nat) : Option (Lo Bool Unit) :=
  if i < a.length then
    (a[i]?) >>= fun x =>
    (b[i]?) >>= fun x8 =>
    (F.laws_eqCtor x x8) >>= fun v =>
    if v = true then
      F.laws_eqCtorS_l1 a b (i + 1)
    else
      some (.ret false)
  else
    some (.go ())
  partial_fixpoint

def F.laws_eqCtorS (a : List Vl.Ctor) (b : List Vl.Ctor) : Option (Bool) :=
  if a.length = b.length then
    (F.laws_eqCtorS_l1 a b 0) >>= fun o' =>
    match o' with
    | .ret r0 => some r0
    | .go sx =>
      some true
  else
    some false

def F.laws_eqData (a : Vl.Data) (b : Vl.Data) : Option (Bool) :=
  if a.name.toList = b.name.toList then
    (F.laws_eqCtorS a.ctors b.ctors) >>= fun v =>
    if v = true then
      some true
    else
      some false
  else
    some false

def F.laws_eqDataS_l1 (a : List Vl.Data) (b : List Vl.Data) (i : Nat) : Option (Lo Bool Unit) :=
  if i < a.length then
    (a[i]?) >>= fun x =>
    (b[i]?) >>= fun x8 =>
    (F.laws_eqData x x8) >>= fun v =>
    if v = true then
      F.laws_eqDataS_l1 a b (i + 1)
    else
      some (.ret false)
  else
    some (.go ())
  partial_fixpoint

def F.laws_eqDataS (a : List Vl.Data) (b : List Vl.Data) : Option (Bool) :=
  if a.length = b.length then
    (F.laws_eqDataS_l1 a b 0) >>= fun o' =>
    match o' with
    | .ret r0 => some r0
    | .go sx =>
      some true
  else
    some false

mutual
def F.laws_eqPattern (a : Vl.Pattern) (b : Vl.Pattern) : Option (Bool) :=
  if a.op = b.op then
    if a.ctor = b.ctor then
      if a.n = b.n then
        if a.m = b.m then
          if a.var = b.var then
            (F.laws_eqPatternS a.kids b.kids) >>= fun v =>
            if v = true then
              some true
            else
              some false
          else
            some false
        else
          some false
      else
        some false
    else
      some false
  else
    some false
  partial_fixpoint
def F.laws_eqPatternS (a : List Vl.Pattern) (b : List Vl.Pattern) : Option (Bool) :=
  if a.length = b.length then
    (F.laws_eqPatternS_l1 a b 0) >>= fun o' =>
    match o' with
    | .ret r0 => some r0
    | .go sx =>
      some true
  else
    some false
  partial_fixpoint
def F.laws_eqPatternS_l1 (a : List Vl.Pattern) (b : List Vl.Pattern) (i : Nat) : Option (Lo Bool Unit) :=
  if i < a.length then
    (a[i]?) >>= fun x =>
    (b[i]?) >>= fun x8 =>
    (F.laws_eqPattern x x8) >>= fun v =>
    if v = true then
      F.laws_eqPatternS_l1 a b (i + 1)
    else
      some (.ret false)
  else
    some (.go ())
  partial_fixpoint
end

def F.laws_eqGuard (a : Vl.Guard) (b : Vl.Guard) : Option (Bool) :=
  if a.op = b.op then
    if a.var = b.var then
      if a.n = b.n then
        some true
      else
        some false
    else
      some false
  else
    some false

def F.laws_eqClause (a : Vl.Clause) (b : Vl.Clause) : Option (Bool) :=
  (F.laws_eqPattern a.pat b.pat) >>= fun v =>
  if v = true then
    (F.laws_eqGuard a.guard b.guard) >>= fun v4 =>
    if v4 = true then
      some true
    else
      some false
  else
    some false

def F.laws_eqClauseS_l1 (a : List Vl.Clause) (b : List Vl.Clause) (i : Nat) : Option (Lo Bool Unit) :=
  if i < a.length then
    (a[i]?) >>= fun x =>
    (b[i]?) >>= fun x8 =>
    (F.laws_eqClause x x8) >>= fun v =>
    if v = true then
      F.laws_eqClauseS_l1 a b (i + 1)
    else
      some (.ret false)
  else
    some (.go ())
  partial_fixpoint

def F.laws_eqClauseS (a : List Vl.Clause) (b : List Vl.Clause) : Option (Bool) :=
  if a.length = b.length then
    (F.laws_eqClauseS_l1 a b 0) >>= fun o' =>
    match o' with
    | .ret r0 => some r0
    | .go sx =>
      some true
  else
    some false

def F.laws_FnExactFormatClauses (aW : List Vl.Data) (aT : Vl.Ty) (aList : List Vl.Clause) : Option (Bool) :=
  (F.laws_szDataS aW (1048576 : Int)) >>= fun v =>
  if v < 0 then
    some true
  else
    (F.laws_szClauseS aList v) >>= fun v4 =>
    if v4 < 0 then
      some true
    else
      (F.laws_toDataS aW) >>= fun v8 =>
      (F.laws_toType aT) >>= fun v10 =>
      (F.laws_toClauseS aList) >>= fun v12 =>
      (F.spec_FormatClauses v8 v10 v12) >>= fun v14 =>
      (F.laws_toDataS aW) >>= fun v16 =>
      (F.laws_toClauseS aList) >>= fun v18 =>
      (F.laws_toType aT) >>= fun v20 =>
      (F.impl_FormatClauses v16 v20 v18) >>= fun v22 =>
      if v22.toList = v14.toList then
        (F.laws_toDataS aW) >>= fun v26 =>
        (F.laws_eqDataS v16 v26) >>= fun v28 =>
        if v28 = true then
          (F.laws_toClauseS aList) >>= fun v32 =>
          (F.laws_eqClauseS v18 v32) >>= fun v34 =>
          if v34 = true then
            some true
          else
            some false
        else
          some false
      else
        some false
end
end Go.Vl
