/- The functions of the program as Lean functions (printed by gen.py). -/
import Derived.Test.YtelglbenbnkjmaaVlG
import Derived.Test.YtelglbenbnkjmaaVlDraw3
import Derived.Test.YtelglbenbnkjmaaVlFa
import Derived.Test.YtelglbenbnkjmaaVlSplit
set_option linter.unusedVariables false
set_option linter.unusedSimpArgs false
set_option linter.unusedVariables false
namespace Go.Vl
open Go
noncomputable section

def F.laws_szTypeS (a : List Vl.Ty) (left' : Int) : Option (Int) :=
  if IntKind.i64.wrap (left' - (a.length : Int)) < 0 then
    some (-1 : Int)
  else
    some (IntKind.i64.wrap (left' - (a.length : Int)))

def F.laws_szCtor (a : Vl.Ctor) (left' : Int) : Option (Int) :=
  if IntKind.i64.wrap (left' - (a.name.size : Int)) < 0 then
    some (-1 : Int)
  else
    (F.laws_szTypeS a.args (IntKind.i64.wrap (left' - (a.name.size : Int)))) >>= fun v =>
    if v < 0 then
      some (-1 : Int)
    else
      some v

def F.laws_szCtorS_l1 (a : List Vl.Ctor) (left'3 : Int) (i : Nat) : Option (Lo Int Int) :=
  if i < a.length then
    (a[i]?) >>= fun x =>
    (F.laws_szCtor x left'3) >>= fun v =>
    if v < 0 then
      some (.ret (-1 : Int))
    else
      F.laws_szCtorS_l1 a v (i + 1)
  else
    some (.go left'3)
  partial_fixpoint

def F.laws_szCtorS (a : List Vl.Ctor) (left' : Int) : Option (Int) :=
  if IntKind.i64.wrap (left' - (a.length : Int)) < 0 then
    some (-1 : Int)
  else
    (F.laws_szCtorS_l1 a (IntKind.i64.wrap (left' - (a.length : Int))) 0) >>= fun o' =>
    match o' with
    | .ret r0 => some r0
    | .go sx =>
      some sx

def F.laws_szData (a : Vl.Data) (left' : Int) : Option (Int) :=
  if IntKind.i64.wrap (left' - (a.name.size : Int)) < 0 then
    some (-1 : Int)
  else
    (F.laws_szCtorS a.ctors (IntKind.i64.wrap (left' - (a.name.size : Int)))) >>= fun v =>
    if v < 0 then
      some (-1 : Int)
    else
      some v

def F.laws_szDataS_l1 (a : List Vl.Data) (left'3 : Int) (i : Nat) : Option (Lo Int Int) :=
  if i < a.length then
    (a[i]?) >>= fun x =>
    (F.laws_szData x left'3) >>= fun v =>
    if v < 0 then
      some (.ret (-1 : Int))
    else
      F.laws_szDataS_l1 a v (i + 1)
  else
    some (.go left'3)
  partial_fixpoint

def F.laws_szDataS (a : List Vl.Data) (left' : Int) : Option (Int) :=
  if IntKind.i64.wrap (left' - (a.length : Int)) < 0 then
    some (-1 : Int)
  else
    (F.laws_szDataS_l1 a (IntKind.i64.wrap (left' - (a.length : Int))) 0) >>= fun o' =>
    match o' with
    | .ret r0 => some r0
    | .go sx =>
      some sx

mutual
def F.laws_szPattern (a : Vl.Pattern) (left' : Int) : Option (Int) :=
  (F.laws_szPatternS a.kids left') >>= fun v =>
  if v < 0 then
    some (-1 : Int)
  else
    some v
  partial_fixpoint
def F.laws_szPatternS (a : List Vl.Pattern) (left' : Int) : Option (Int) :=
  if IntKind.i64.wrap (left' - (a.length : Int)) < 0 then
    some (-1 : Int)
  else
    (F.laws_szPatternS_l1 a (IntKind.i64.wrap (left' - (a.length : Int))) 0) >>= fun o' =>
    match o' with
    | .ret r0 => some r0
    | .go sx =>
      some sx
  partial_fixpoint
def F.laws_szPatternS_l1 (a : List Vl.Pattern) (left'3 : Int) (i : Nat) : Option (Lo Int Int) :=
  if i < a.length then
    (a[i]?) >>= fun x =>
    (F.laws_szPattern x left'3) >>= fun v =>
    if v < 0 then
      some (.ret (-1 : Int))
    else
      F.laws_szPatternS_l1 a v (i + 1)
  else
    some (.go left'3)
  partial_fixpoint
end

def F.laws_szClause (a : Vl.Clause) (left' : Int) : Option (Int) :=
  (F.laws_szPattern a.pat left') >>= fun v =>
  if v < 0 then
    some (-1 : Int)
  else
    some v

def F.laws_toType (a : Vl.Ty) : Option (Vl.Ty) :=
  some a

def F.laws_toTypeS_l1 (a : List Vl.Ty) (out : List Vl.Ty) (i : Nat) : Option (List Vl.Ty) :=
  if i < a.length then
    (a[i]?) >>= fun x =>
    (F.laws_toType x) >>= fun v =>
    (out[i]?) >>= fun x7 =>
    F.laws_toTypeS_l1 a (out.set i v) (i + 1)
  else
    some out
  partial_fixpoint

def F.laws_toTypeS (a : List Vl.Ty) : Option (List Vl.Ty) :=
  if a.length ≤ 67108864 then
    (F.laws_toTypeS_l1 a (List.replicate a.length Vl.Ty.z) 0) >>= fun o' =>
    some o'
  else none

def F.laws_toCtor (a : Vl.Ctor) : Option (Vl.Ctor) :=
  (F.laws_toTypeS a.args) >>= fun v =>
  some (⟨a.name, v, a.index⟩ : Vl.Ctor)

def F.laws_toCtorS_l1 (a : List Vl.Ctor) (out : List Vl.Ctor) (i : Nat) : Option (List Vl.Ctor) :=
  if i < a.length then
    (a[i]?) >>= fun x =>
    (F.laws_toCtor x) >>= fun v =>
    (out[i]?) >>= fun x7 =>
    F.laws_toCtorS_l1 a (out.set i v) (i + 1)
  else
    some out
  partial_fixpoint

def F.laws_toCtorS (a : List Vl.Ctor) : Option (List Vl.Ctor) :=
  if a.length ≤ 67108864 then
    (F.laws_toCtorS_l1 a (List.replicate a.length Vl.Ctor.z) 0) >>= fun o' =>
    some o'
  else none

def F.laws_toData (a : Vl.Data) : Option (Vl.Data) :=
  (F.laws_toCtorS a.ctors) >>= fun v =>
  some (⟨a.name, v⟩ : Vl.Data)

def F.laws_toDataS_l1 (a : List Vl.Data) (out : List Vl.Data) (i : Nat) : Option (List Vl.Data) :=
  if i < a.length then
    (a[i]?) >>= fun x =>
    (F.laws_toData x) >>= fun v =>
    (out[i]?) >>= fun x7 =>
    F.laws_toDataS_l1 a (out.set i v) (i + 1)
  else
    some out
  partial_fixpoint

def F.laws_toDataS (a : List Vl.Data) : Option (List Vl.Data) :=
  if a.length ≤ 67108864 then
    (F.laws_toDataS_l1 a (List.replicate a.length Vl.Data.z) 0) >>= fun o' =>
    some o'
  else none

mutual
def F.laws_toPattern (a : Vl.Pattern) : Option (Vl.Pattern) :=
  (F.laws_toPatternS a.kids) >>= fun v =>
  some (⟨a.op, a.ctor, a.n, a.m, a.var, v⟩ : Vl.Pattern)
  partial_fixpoint
def F.laws_toPatternS (a : List Vl.Pattern) : Option (List Vl.Pattern) :=
  if a.length ≤ 67108864 then
    (F.laws_toPatternS_l1 a (List.replicate a.length Vl.Pattern.z) 0) >>= fun o' =>
    some o'
  else none
  partial_fixpoint
def F.laws_toPatternS_l1 (a : List Vl.Pattern) (out : List Vl.Pattern) (i : Nat) : Option (List Vl.Pattern) :=
  if i < a.length then
    (a[i]?) >>= fun x =>
    (F.laws_toPattern x) >>= fun v =>
    (out[i]?) >>= fun x7 =>
    F.laws_toPatternS_l1 a (out.set i v) (i + 1)
  else
    some out
  partial_fixpoint
end

def F.laws_toGuard (a : Vl.Guard) : Option (Vl.Guard) :=
  some a

def F.laws_toClause (a : Vl.Clause) : Option (Vl.Clause) :=
  (F.laws_toPattern a.pat) >>= fun v =>
  (F.laws_toGuard a.guard) >>= fun v2 =>
  some (⟨v, v2⟩ : Vl.Clause)

def F.spec_l1Big (c' : Int) : Option (Bool) :=
  if 65 ≤ c' then
    some (decide (c' ≤ 90))
  else
    some false

def F.spec_l1Data (s : ByteArray) : Option (Bool) :=
  if s.size = 1 then
    if 0 < s.size then
      (F.spec_l1Big ((byteAt s 0 : Nat) : Int)) >>= fun v =>
      if v = true then
        some (decide (¬ (s.toList = (⟨#[73]⟩ : ByteArray).toList)))
      else
        some false
    else none
  else
    some false

def F.spec_NameValid_l1 (s : ByteArray) (i : Nat) : Option (Lo Bool Unit) :=
  if i < s.size then
    if byteAt s i < 97 then
      some (.ret false)
    else
      if 122 < byteAt s i then
        some (.ret false)
      else
        if i + 1 ≤ 9223372036854775807 then
          F.spec_NameValid_l1 s (i + 1)
        else none
  else
    some (.go ())
  partial_fixpoint

def F.spec_NameValid (s : ByteArray) : Option (Bool) :=
  if s.size = 0 then
    some false
  else
    if 5 < s.size then
      some false
    else
      if 0 < s.size then
        (F.spec_l1Big ((byteAt s 0 : Nat) : Int)) >>= fun v =>
        if v = true then
          (F.spec_NameValid_l1 s 1) >>= fun o' =>
          match o' with
          | .ret r0 => some r0
          | .go sx =>
            some true
        else
          some false
      else none

def F.spec_l1Arg (n : Int) (t : Vl.Ty) : Option (Bool) :=
  if t.data = (-1) then
    some (decide (t.index = 0))
  else
    if 0 ≤ t.data then
      if t.data < n then
        if (-1) ≤ t.index then
          some (decide (t.index ≤ 3))
        else
          some false
      else
        some false
    else
      some false

def F.spec_l1Ctor_l1 (n : Int) (c' : Vl.Ctor) (i : Nat) : Option (Lo Bool Unit) :=
  if i < c'.args.length then
    (c'.args[i]?) >>= fun x =>
    (F.spec_l1Arg n x) >>= fun v15 =>
    if v15 = true then
      F.spec_l1Ctor_l1 n c' (i + 1)
    else
      some (.ret false)
  else
    some (.go ())
  partial_fixpoint

def F.spec_l1Ctor (n : Int) (c' : Vl.Ctor) : Option (Bool) :=
  (F.spec_NameValid c'.name) >>= fun v =>
  if v = true then
    if 3 < c'.args.length then
      some false
    else
      if c'.index < 0 then
        some false
      else
        if 3 < c'.index then
          some false
        else
          (F.spec_l1Ctor_l1 n c' 0) >>= fun o' =>
          match o' with
          | .ret r0 => some r0
          | .go sx =>
            some true
  else
    some false

def F.spec_l1Twice_l2 (w : List Vl.Data) (d : Int) (k : Int) (i : Nat) (j : Nat) : Option (Lo Bool Unit) :=
  (w[i]?) >>= fun x10 =>
  if j < x10.ctors.length then
    if (i : Int) < d then
      (at? w d) >>= fun x33 =>
      if k < (x33.ctors.length : Int) then
        (x10.ctors[j]?) >>= fun x37 =>
        (at? x33.ctors k) >>= fun x39 =>
        if x37.name.toList = x39.name.toList then
          some (.ret true)
        else
          if j + 1 ≤ 9223372036854775807 then
            F.spec_l1Twice_l2 w d k i (j + 1)
          else none
      else
        if j + 1 ≤ 9223372036854775807 then
          F.spec_l1Twice_l2 w d k i (j + 1)
        else none
    else
      if (j : Int) < k then
        (at? w d) >>= fun x19 =>
        if k < (x19.ctors.length : Int) then
          (x10.ctors[j]?) >>= fun x23 =>
          (at? x19.ctors k) >>= fun x25 =>
          if x23.name.toList = x25.name.toList then
            some (.ret true)
          else
            if j + 1 ≤ 9223372036854775807 then
              F.spec_l1Twice_l2 w d k i (j + 1)
            else none
        else
          if j + 1 ≤ 9223372036854775807 then
            F.spec_l1Twice_l2 w d k i (j + 1)
          else none
      else
        some (.go ())
  else
    some (.go ())
  partial_fixpoint

def F.spec_l1Twice_l3 (w : List Vl.Data) (d : Int) (k : Int) (i : Nat) (j50 : Nat) : Option (Lo Bool Unit) :=
  (w[i]?) >>= fun x51 =>
  if j50 < x51.ctors.length then
    if (i : Int) < d then
      (at? w d) >>= fun x74 =>
      if k < (x74.ctors.length : Int) then
        (x51.ctors[j50]?) >>= fun x78 =>
        (at? x74.ctors k) >>= fun x80 =>
        if x78.name.toList = x80.name.toList then
          some (.ret true)
        else
          if j50 + 1 ≤ 9223372036854775807 then
            F.spec_l1Twice_l3 w d k i (j50 + 1)
          else none
      else
        if j50 + 1 ≤ 9223372036854775807 then
          F.spec_l1Twice_l3 w d k i (j50 + 1)
        else none
    else
      if (j50 : Int) < k then
        (at? w d) >>= fun x60 =>
        if k < (x60.ctors.length : Int) then
          (x51.ctors[j50]?) >>= fun x64 =>
          (at? x60.ctors k) >>= fun x66 =>
          if x64.name.toList = x66.name.toList then
            some (.ret true)
          else
            if j50 + 1 ≤ 9223372036854775807 then
              F.spec_l1Twice_l3 w d k i (j50 + 1)
            else none
        else
          if j50 + 1 ≤ 9223372036854775807 then
            F.spec_l1Twice_l3 w d k i (j50 + 1)
          else none
      else
        some (.go ())
  else
    some (.go ())
  partial_fixpoint

def F.spec_l1Twice_l1 (w : List Vl.Data) (d : Int) (k : Int) (i : Nat) : Option (Lo Bool Unit) :=
  if (i : Int) ≤ d then
    if (i : Int) < d then
      (w[i]?) >>= fun x =>
      (at? w d) >>= fun x6 =>
      if x.name.toList = x6.name.toList then
        some (.ret true)
      else
        (F.spec_l1Twice_l2 w d k i 0) >>= fun o' =>
        match o' with
        | .ret r0 => some (.ret r0)
        | .go sx =>
          if i + 1 ≤ 9223372036854775807 then
            F.spec_l1Twice_l1 w d k (i + 1)
          else none
    else
      (F.spec_l1Twice_l3 w d k i 0) >>= fun o'89 =>
      match o'89 with
      | .ret r093 => some (.ret r093)
      | .go sx90 =>
        if i + 1 ≤ 9223372036854775807 then
          F.spec_l1Twice_l1 w d k (i + 1)
        else none
  else
    some (.go ())
  partial_fixpoint

def F.spec_l1Twice (w : List Vl.Data) (d : Int) (k : Int) : Option (Bool) :=
  (F.spec_l1Twice_l1 w d k 0) >>= fun o'95 =>
  match o'95 with
  | .ret r097 => some r097
  | .go sx96 =>
    some false

def F.spec_WorldValid_l2 (w : List Vl.Data) (d : Nat) (k : Nat) : Option (Lo Bool Unit) :=
  (w[d]?) >>= fun x17 =>
  if k < x17.ctors.length then
    (x17.ctors[k]?) >>= fun x22 =>
    (F.spec_l1Ctor (w.length : Int) x22) >>= fun v24 =>
    if v24 = true then
      (F.spec_l1Twice w (d : Int) (k : Int)) >>= fun v28 =>
      if v28 = true then
        some (.ret false)
      else
        if k + 1 ≤ 9223372036854775807 then
          F.spec_WorldValid_l2 w d (k + 1)
        else none
    else
      some (.ret false)
  else
    some (.go ())
  partial_fixpoint

def F.spec_WorldValid_l1 (w : List Vl.Data) (d : Nat) : Option (Lo Bool Unit) :=
  if d < w.length then
    (w[d]?) >>= fun x =>
    (F.spec_l1Data x.name) >>= fun v =>
    if v = true then
      if x.ctors.length = 0 then
        some (.ret false)
      else
        if 4 < x.ctors.length then
          some (.ret false)
        else
          (F.spec_WorldValid_l2 w d 0) >>= fun o' =>
          match o' with
          | .ret r0 => some (.ret r0)
          | .go sx =>
            if d + 1 ≤ 9223372036854775807 then
              F.spec_WorldValid_l1 w (d + 1)
            else none
    else
      some (.ret false)
  else
    some (.go ())
  partial_fixpoint

def F.spec_WorldValid (w : List Vl.Data) : Option (Bool) :=
  if 4 < w.length then
    some false
  else
    (F.spec_WorldValid_l1 w 0) >>= fun o'38 =>
    match o'38 with
    | .ret r040 => some r040
    | .go sx39 =>
      some true

def F.spec_l1Is (w : List Vl.Data) (t : Vl.Ty) : Option (Bool) :=
  (F.spec_l1Arg (w.length : Int) t) >>= fun v =>
  if v = true then
    some (decide (0 ≤ t.index))
  else
    some false

def F.spec_TypeValid (w : List Vl.Data) (t : Vl.Ty) : Option (Bool) :=
  (F.spec_WorldValid w) >>= fun v =>
  if v = true then
    (F.spec_l1Is w t) >>= fun v4 =>
    some v4
  else
    some false

def F.spec_l1Fits (c' : Vl.Ctor) (index' : Int) : Option (Bool) :=
  if c'.index = 0 then
    some true
  else
    if index' = 0 then
      some true
    else
      some (decide (c'.index = index'))

def F.spec_l1Ctors_l1 (w : List Vl.Data) (t : Vl.Ty) (out : List Int) (k : Nat) : Option (List Int) :=
  (at? w t.data) >>= fun x =>
  if k < x.ctors.length then
    (x.ctors[k]?) >>= fun x7 =>
    (F.spec_l1Fits x7 t.index) >>= fun v =>
    if v = true then
      if out.length + 1 ≤ 67108864 then
        if k + 1 ≤ 9223372036854775807 then
          F.spec_l1Ctors_l1 w t (out ++ [(k : Int)]) (k + 1)
        else none
      else none
    else
      if k + 1 ≤ 9223372036854775807 then
        F.spec_l1Ctors_l1 w t out (k + 1)
      else none
  else
    some out
  partial_fixpoint

def F.spec_l1Ctors (w : List Vl.Data) (t : Vl.Ty) : Option (List Int) :=
  if t.data = (-1) then
    some []
  else
    (F.spec_l1Ctors_l1 w t [] 0) >>= fun o' =>
    some o'

def F.spec_l1Has_l1 (list : List Int) (n : Int) (i : Nat) : Option (Lo Bool Unit) :=
  if i < list.length then
    (list[i]?) >>= fun x =>
    if x = n then
      some (.ret true)
    else
      F.spec_l1Has_l1 list n (i + 1)
  else
    some (.go ())
  partial_fixpoint

def F.spec_l1Has (list : List Int) (n : Int) : Option (Bool) :=
  (F.spec_l1Has_l1 list n 0) >>= fun o' =>
  match o' with
  | .ret r0 => some r0
  | .go sx =>
    some false

def F.spec_l3Own (w : List Vl.Data) (t : Vl.Ty) (p : Vl.Pattern) : Option (Bool) :=
  if p.op = 2 then
    if p.var < 0 then
      some false
    else
      if 5 < p.var then
        some false
      else
        if p.n = 0 then
          if p.m = 0 then
            if p.ctor = 0 then
              some true
            else
              some false
          else
            some false
        else
          some false
  else
    if p.op = 6 then
      if p.var < 0 then
        some false
      else
        if 5 < p.var then
          some false
        else
          if p.n = 0 then
            if p.m = 0 then
              if p.ctor = 0 then
                some true
              else
                some false
            else
              some false
          else
            some false
    else
      if p.var = 0 then
        if p.op = 3 then
          if p.ctor = 0 then
            if t.data = (-1) then
              if 0 ≤ p.n then
                if p.n ≤ p.m then
                  some (decide (p.m ≤ 9))
                else
                  some false
              else
                some false
            else
              some false
          else
            some false
        else
          if p.n = 0 then
            if p.m = 0 then
              if p.op = 4 then
                (F.spec_l1Ctors w t) >>= fun v =>
                (F.spec_l1Has v p.ctor) >>= fun v32 =>
                some v32
              else
                if p.ctor = 0 then
                  if p.op = 1 then
                    some true
                  else
                    if p.op = 5 then
                      some true
                    else
                      some false
                else
                  some false
            else
              some false
          else
            some false
      else
        some false

def F.spec_l1Result (c' : Vl.Ctor) (index' : Int) : Option (Int) :=
  if c'.index = 0 then
    some index'
  else
    some c'.index

def F.spec_l1Args_l1 (t : Vl.Ty) (x2 : Vl.Ctor) (out : List Vl.Ty) (i : Nat) : Option (List Vl.Ty) :=
  if i < x2.args.length then
    (x2.args[i]?) >>= fun x7 =>
    if x7.index = (-1) then
      (F.spec_l1Result x2 t.index) >>= fun v =>
      if out.length + 1 ≤ 67108864 then
        F.spec_l1Args_l1 t x2 (out ++ [(⟨x7.data, v⟩ : Vl.Ty)]) (i + 1)
      else none
    else
      if out.length + 1 ≤ 67108864 then
        F.spec_l1Args_l1 t x2 (out ++ [x7]) (i + 1)
      else none
  else
    some out
  partial_fixpoint

def F.spec_l1Args (w : List Vl.Data) (t : Vl.Ty) (ctor : Int) : Option (List Vl.Ty) :=
  (at? w t.data) >>= fun x =>
  (at? x.ctors ctor) >>= fun x2 =>
  (F.spec_l1Args_l1 t x2 [] 0) >>= fun o' =>
  some o'

def F.spec_l3Kids (op : Int) : Option (Int) :=
  if op = 5 then
    some (2 : Int)
  else
    if op = 6 then
      some (1 : Int)
    else
      if op = 4 then
        some (-1 : Int)
      else
        some (0 : Int)

def F.spec_l3Types_l1 (t : Vl.Ty) (p : Vl.Pattern) (out : List Vl.Ty) (i : Nat) : Option (List Vl.Ty) :=
  (F.spec_l3Kids p.op) >>= fun v4 =>
  if (i : Int) < v4 then
    if out.length + 1 ≤ 67108864 then
      if i + 1 ≤ 9223372036854775807 then
        F.spec_l3Types_l1 t p (out ++ [t]) (i + 1)
      else none
    else none
  else
    some out
  partial_fixpoint

def F.spec_l3Types (w : List Vl.Data) (t : Vl.Ty) (p : Vl.Pattern) : Option (List Vl.Ty) :=
  if p.op = 4 then
    (F.spec_l1Args w t p.ctor) >>= fun v =>
    some v
  else
    (F.spec_l3Types_l1 t p [] 0) >>= fun o' =>
    some o'

mutual
def F.spec_l3Shape (w : List Vl.Data) (t : Vl.Ty) (p : Vl.Pattern) (depth : Int) : Option (Bool) :=
  if depth < 1 then
    some false
  else
    (F.spec_l3Own w t p) >>= fun v =>
    if v = true then
      (F.spec_l3Types w t p) >>= fun v6 =>
      if p.kids.length = v6.length then
        (F.spec_l3Shape_l1 w p depth v6 0) >>= fun o' =>
        match o' with
        | .ret r0 => some r0
        | .go sx =>
          some true
      else
        some false
    else
      some false
  partial_fixpoint
def F.spec_l3Shape_l1 (w : List Vl.Data) (p : Vl.Pattern) (depth : Int) (v6 : List Vl.Ty) (i : Nat) : Option (Lo Bool Unit) :=
  if i < v6.length then
    (v6[i]?) >>= fun x =>
    (p.kids[i]?) >>= fun x15 =>
    (F.spec_l3Shape w x x15 (IntKind.i64.wrap (depth - 1))) >>= fun v17 =>
    if v17 = true then
      F.spec_l3Shape_l1 w p depth v6 (i + 1)
    else
      some (.ret false)
  else
    some (.go ())
  partial_fixpoint
end

mutual
def F.spec_l3Count (p : Vl.Pattern) (most : Int) : Option (Int) :=
  (F.spec_l3Count_l1 p most (1 : Int) 0) >>= fun o' =>
  some o'
  partial_fixpoint
def F.spec_l3Count_l1 (p : Vl.Pattern) (most : Int) (n : Int) (i : Nat) : Option (Int) :=
  if i < p.kids.length then
    if n ≤ most then
      (p.kids[i]?) >>= fun x =>
      (F.spec_l3Count x (IntKind.i64.wrap (most - n))) >>= fun v =>
      F.spec_l3Count_l1 p most (IntKind.i64.wrap (n + v)) (i + 1)
    else
      some n
  else
    some n
  partial_fixpoint
end

mutual
def F.spec_l3Vars (out : List Vl.VarType) (w : List Vl.Data) (t : Vl.Ty) (p : Vl.Pattern) : Option (List Vl.VarType) :=
  if p.op = 2 then
    if out.length + 1 ≤ 67108864 then
      (F.spec_l3Types w t p) >>= fun v59 =>
      (F.spec_l3Vars_l3 w p v59 (out ++ [(⟨p.var, t⟩ : Vl.VarType)]) 0) >>= fun o'86 =>
      some o'86
    else none
  else
    if p.op = 6 then
      if out.length + 1 ≤ 67108864 then
        (F.spec_l3Types w t p) >>= fun v =>
        (F.spec_l3Vars_l1 w p v (out ++ [(⟨p.var, t⟩ : Vl.VarType)]) 0) >>= fun o' =>
        some o'
      else none
    else
      (F.spec_l3Types w t p) >>= fun v30 =>
      (F.spec_l3Vars_l2 w p v30 out 0) >>= fun o'57 =>
      some o'57
  partial_fixpoint
def F.spec_l3Vars_l1 (w : List Vl.Data) (p : Vl.Pattern) (v : List Vl.Ty) (out7 : List Vl.VarType) (i : Nat) : Option (List Vl.VarType) :=
  if i < v.length then
    if i = 0 then
      (v[i]?) >>= fun x22 =>
      (p.kids[i]?) >>= fun x24 =>
      (F.spec_l3Vars out7 w x22 x24) >>= fun v26 =>
      F.spec_l3Vars_l1 w p v v26 (i + 1)
    else
      if p.op = 5 then
        some out7
      else
        (v[i]?) >>= fun x =>
        (p.kids[i]?) >>= fun x17 =>
        (F.spec_l3Vars out7 w x x17) >>= fun v19 =>
        F.spec_l3Vars_l1 w p v v19 (i + 1)
  else
    some out7
  partial_fixpoint
def F.spec_l3Vars_l2 (w : List Vl.Data) (p : Vl.Pattern) (v30 : List Vl.Ty) (out32 : List Vl.VarType) (i33 : Nat) : Option (List Vl.VarType) :=
  if i33 < v30.length then
    if i33 = 0 then
      (v30[i33]?) >>= fun x49 =>
      (p.kids[i33]?) >>= fun x51 =>
      (F.spec_l3Vars out32 w x49 x51) >>= fun v53 =>
      F.spec_l3Vars_l2 w p v30 v53 (i33 + 1)
    else
      if p.op = 5 then
        some out32
      else
        (v30[i33]?) >>= fun x42 =>
        (p.kids[i33]?) >>= fun x44 =>
        (F.spec_l3Vars out32 w x42 x44) >>= fun v46 =>
        F.spec_l3Vars_l2 w p v30 v46 (i33 + 1)
  else
    some out32
  partial_fixpoint
def F.spec_l3Vars_l3 (w : List Vl.Data) (p : Vl.Pattern) (v59 : List Vl.Ty) (out61 : List Vl.VarType) (i62 : Nat) : Option (List Vl.VarType) :=
  if i62 < v59.length then
    if i62 = 0 then
      (v59[i62]?) >>= fun x78 =>
      (p.kids[i62]?) >>= fun x80 =>
      (F.spec_l3Vars out61 w x78 x80) >>= fun v82 =>
      F.spec_l3Vars_l3 w p v59 v82 (i62 + 1)
    else
      if p.op = 5 then
        some out61
      else
        (v59[i62]?) >>= fun x71 =>
        (p.kids[i62]?) >>= fun x73 =>
        (F.spec_l3Vars out61 w x71 x73) >>= fun v75 =>
        F.spec_l3Vars_l3 w p v59 v75 (i62 + 1)
  else
    some out61
  partial_fixpoint
end

def F.spec_l3Find_l1 (list : List Vl.VarType) (n : Int) (i : Nat) : Option (Lo Int Unit) :=
  if i < list.length then
    (list[i]?) >>= fun x =>
    if x.var = n then
      some (.ret (i : Int))
    else
      F.spec_l3Find_l1 list n (i + 1)
  else
    some (.go ())
  partial_fixpoint

def F.spec_l3Find (list : List Vl.VarType) (n : Int) : Option (Int) :=
  (F.spec_l3Find_l1 list n 0) >>= fun o' =>
  match o' with
  | .ret r0 => some r0
  | .go sx =>
    some (-1 : Int)

def F.spec_l3Alike_l1 (a : List Vl.VarType) (b : List Vl.VarType) (i : Nat) : Option (Lo Bool Unit) :=
  if i < a.length then
    (a[i]?) >>= fun x =>
    (F.spec_l3Find b x.var) >>= fun v =>
    if v < 0 then
      some (.ret false)
    else
      (at? b v) >>= fun x8 =>
      if dec (eq2 (x8.type.data, x8.type.index) (x.type.data, x.type.index)) = true then
        F.spec_l3Alike_l1 a b (i + 1)
      else
        some (.ret false)
  else
    some (.go ())
  partial_fixpoint

def F.spec_l3Alike (a : List Vl.VarType) (b : List Vl.VarType) : Option (Bool) :=
  (F.spec_l3Alike_l1 a b 0) >>= fun o' =>
  match o' with
  | .ret r0 => some r0
  | .go sx =>
    some (decide (a.length = b.length))

def F.spec_l3Linear_l2 (v26 : List Vl.VarType) (i28 : Nat) : Option (Lo Bool Unit) :=
  if i28 < v26.length then
    (v26[i28]?) >>= fun x32 =>
    (F.spec_l3Find v26 x32.var) >>= fun v34 =>
    if v34 = (i28 : Int) then
      F.spec_l3Linear_l2 v26 (i28 + 1)
    else
      some (.ret false)
  else
    some (.go ())
  partial_fixpoint

mutual
def F.spec_l3Linear (w : List Vl.Data) (t : Vl.Ty) (p : Vl.Pattern) : Option (Bool) :=
  (F.spec_l3Types w t p) >>= fun v =>
  (F.spec_l3Linear_l1 w t p v 0) >>= fun o' =>
  match o' with
  | .ret r042 => some r042
  | .go sx =>
    if p.op = 5 then
      (p.kids[0]?) >>= fun x16 =>
      (F.spec_l3Vars [] w t x16) >>= fun v18 =>
      (p.kids[1]?) >>= fun x20 =>
      (F.spec_l3Vars [] w t x20) >>= fun v22 =>
      (F.spec_l3Alike v18 v22) >>= fun v24 =>
      some v24
    else
      (F.spec_l3Vars [] w t p) >>= fun v26 =>
      (F.spec_l3Linear_l2 v26 0) >>= fun o'40 =>
      match o'40 with
      | .ret r0 => some r0
      | .go sx41 =>
        some true
  partial_fixpoint
def F.spec_l3Linear_l1 (w : List Vl.Data) (t : Vl.Ty) (p : Vl.Pattern) (v : List Vl.Ty) (i : Nat) : Option (Lo Bool Unit) :=
  if i < v.length then
    (v[i]?) >>= fun x =>
    (p.kids[i]?) >>= fun x6 =>
    (F.spec_l3Linear w x x6) >>= fun v8 =>
    if v8 = true then
      F.spec_l3Linear_l1 w t p v (i + 1)
    else
      some (.ret false)
  else
    some (.go ())
  partial_fixpoint
end

def F.spec_l3Is (w : List Vl.Data) (t : Vl.Ty) (p : Vl.Pattern) : Option (Bool) :=
  (F.spec_l3Shape w t p (10 : Int)) >>= fun v =>
  if v = true then
    (F.spec_l3Count p (60 : Int)) >>= fun v4 =>
    if v4 ≤ 60 then
      (F.spec_l3Linear w t p) >>= fun v8 =>
      some v8
    else
      some false
  else
    some false

def F.spec_l4Guard (g : Vl.Guard) (vars : List Vl.VarType) : Option (Bool) :=
  if g.op = 0 then
    if g.var = 0 then
      some (decide (g.n = 0))
    else
      some false
  else
    if g.op = 1 then
      if g.n < 0 then
        some false
      else
        if 9 < g.n then
          some false
        else
          (F.spec_l3Find vars g.var) >>= fun v21 =>
          if 0 ≤ v21 then
            (at? vars v21) >>= fun x25 =>
            some (decide (x25.type.data = (-1)))
          else
            some false
    else
      if g.op = 2 then
        if g.n < 0 then
          some false
        else
          if 9 < g.n then
            some false
          else
            (F.spec_l3Find vars g.var) >>= fun v =>
            if 0 ≤ v then
              (at? vars v) >>= fun x =>
              some (decide (x.type.data = (-1)))
            else
              some false
      else
        some false

def F.spec_l4Is (w : List Vl.Data) (t : Vl.Ty) (c' : Vl.Clause) : Option (Bool) :=
  (F.spec_l3Is w t c'.pat) >>= fun v =>
  if v = true then
    (F.spec_l3Vars [] w t c'.pat) >>= fun v4 =>
    (F.spec_l4Guard c'.guard v4) >>= fun v6 =>
    some v6
  else
    some false

def F.spec_ClauseValid (w : List Vl.Data) (t : Vl.Ty) (c' : Vl.Clause) : Option (Bool) :=
  (F.spec_TypeValid w t) >>= fun v =>
  if v = true then
    (F.spec_l4Is w t c') >>= fun v4 =>
    some v4
  else
    some false

mutual
def F.spec_l11Has (p : Vl.Pattern) (v : Int) : Option (Bool) :=
  (F.spec_l11Has_l1 p v 0) >>= fun o' =>
  match o' with
  | .ret r0 => some r0
  | .go sx =>
    if p.op = 2 then
      some (decide (p.var = v))
    else
      if p.op = 6 then
        some (decide (p.var = v))
      else
        some false
  partial_fixpoint
def F.spec_l11Has_l1 (p : Vl.Pattern) (v : Int) (i : Nat) : Option (Lo Bool Unit) :=
  if i < p.kids.length then
    (p.kids[i]?) >>= fun x =>
    (F.spec_l11Has x v) >>= fun v5 =>
    if v5 = true then
      some (.ret true)
    else
      F.spec_l11Has_l1 p v (i + 1)
  else
    some (.go ())
  partial_fixpoint
end

mutual
def F.spec_l11Under (p : Vl.Pattern) (v : Int) : Option (Bool) :=
  (F.spec_l11Under_l1 p v 0) >>= fun o' =>
  match o' with
  | .ret r0 => some r0
  | .go sx =>
    some false
  partial_fixpoint
def F.spec_l11Under_l1 (p : Vl.Pattern) (v : Int) (i : Nat) : Option (Lo Bool Unit) :=
  if i < p.kids.length then
    if p.op = 5 then
      (p.kids[i]?) >>= fun x =>
      (F.spec_l11Has x v) >>= fun v7 =>
      if v7 = true then
        some (.ret true)
      else
        (F.spec_l11Under x v) >>= fun v11 =>
        if v11 = true then
          some (.ret true)
        else
          F.spec_l11Under_l1 p v (i + 1)
    else
      (p.kids[i]?) >>= fun x16 =>
      (F.spec_l11Under x16 v) >>= fun v18 =>
      if v18 = true then
        some (.ret true)
      else
        F.spec_l11Under_l1 p v (i + 1)
  else
    some (.go ())
  partial_fixpoint
end

mutual
def F.spec_l3Copy (p : Vl.Pattern) : Option (Vl.Pattern) :=
  (F.spec_l3Copy_l1 p [] 0) >>= fun o' =>
  some (⟨p.op, p.ctor, p.n, p.m, p.var, o'⟩ : Vl.Pattern)
  partial_fixpoint
def F.spec_l3Copy_l1 (p : Vl.Pattern) (out : List Vl.Pattern) (i : Nat) : Option (List Vl.Pattern) :=
  if i < p.kids.length then
    (p.kids[i]?) >>= fun x =>
    (F.spec_l3Copy x) >>= fun v =>
    if out.length + 1 ≤ 67108864 then
      F.spec_l3Copy_l1 p (out ++ [v]) (i + 1)
    else none
  else
    some out
  partial_fixpoint
end

def F.spec_l11Range (g : Vl.Guard) : Option (Int × Int) :=
  if g.op = 1 then
    some ((0 : Int), IntKind.i64.wrap (g.n - 1))
  else
    some (g.n, g.n)

mutual
def F.spec_l5Meet (a : Vl.Pattern) (b : Vl.Pattern) : Option (Vl.Pattern × Bool) :=
  if a.op = 1 then
    some (b, true)
  else
    if b.op = 1 then
      some (a, true)
    else
      if a.op = 3 then
        if a.n < b.n then
          if b.m < a.m then
            some ((⟨(3 : Int), (0 : Int), b.n, b.m, (0 : Int), []⟩ : Vl.Pattern), decide (b.n ≤ b.m))
          else
            some ((⟨(3 : Int), (0 : Int), b.n, a.m, (0 : Int), []⟩ : Vl.Pattern), decide (b.n ≤ a.m))
        else
          if b.m < a.m then
            some ((⟨(3 : Int), (0 : Int), a.n, b.m, (0 : Int), []⟩ : Vl.Pattern), decide (a.n ≤ b.m))
          else
            some ((⟨(3 : Int), (0 : Int), a.n, a.m, (0 : Int), []⟩ : Vl.Pattern), decide (a.n ≤ a.m))
      else
        if a.ctor = b.ctor then
          (F.spec_l5Meet_l1 a b [] 0) >>= fun o' =>
          match o' with
          | .ret r0 => some r0
          | .go sx =>
            some ((⟨(4 : Int), a.ctor, (0 : Int), (0 : Int), (0 : Int), sx⟩ : Vl.Pattern), true)
        else
          some ((⟨(0 : Int), (0 : Int), (0 : Int), (0 : Int), (0 : Int), []⟩ : Vl.Pattern), false)
  partial_fixpoint
def F.spec_l5Meet_l1 (a : Vl.Pattern) (b : Vl.Pattern) (out : List Vl.Pattern) (i : Nat) : Option (Lo (Vl.Pattern × Bool) (List Vl.Pattern)) :=
  if i < a.kids.length then
    (a.kids[i]?) >>= fun x =>
    (b.kids[i]?) >>= fun x19 =>
    (F.spec_l5Meet x x19) >>= fun v =>
    if v.2 = true then
      if out.length + 1 ≤ 67108864 then
        F.spec_l5Meet_l1 a b (out ++ [v.1]) (i + 1)
      else none
    else
      some (.ret ((⟨(0 : Int), (0 : Int), (0 : Int), (0 : Int), (0 : Int), []⟩ : Vl.Pattern), false))
  else
    some (.go out)
  partial_fixpoint
end

def F.spec_l11Narrow (p : Vl.Pattern) (n : Int) (m : Int) : Option (Vl.Pattern × Bool) :=
  if p.op = 1 then
    some ((⟨(3 : Int), (0 : Int), n, m, (0 : Int), []⟩ : Vl.Pattern), decide (n ≤ m))
  else
    if p.op = 2 then
      some ((⟨(6 : Int), (0 : Int), (0 : Int), (0 : Int), p.var, [(⟨(3 : Int), (0 : Int), n, m, (0 : Int), []⟩ : Vl.Pattern)]⟩ : Vl.Pattern), decide (n ≤ m))
    else
      if p.op = 6 then
        (p.kids[0]?) >>= fun x =>
        (F.spec_l11Narrow x n m) >>= fun v =>
        some ((⟨(6 : Int), (0 : Int), (0 : Int), (0 : Int), p.var, [v.1]⟩ : Vl.Pattern), v.2)
      else
        if p.op = 5 then
          (p.kids[0]?) >>= fun x11 =>
          (F.spec_l11Narrow x11 n m) >>= fun v13 =>
          (p.kids[1]?) >>= fun x15 =>
          (F.spec_l11Narrow x15 n m) >>= fun v17 =>
          if v13.2 = true then
            if v17.2 = true then
              some ((⟨(5 : Int), (0 : Int), (0 : Int), (0 : Int), (0 : Int), [v13.1, v17.1]⟩ : Vl.Pattern), true)
            else
              some (v13.1, true)
          else
            some (v17.1, v17.2)
        else
          (F.spec_l5Meet p (⟨(3 : Int), (0 : Int), n, m, (0 : Int), []⟩ : Vl.Pattern)) >>= fun v23 =>
          some (v23.1, v23.2)
  partial_fixpoint

mutual
def F.spec_l11Put (p : Vl.Pattern) (v : Int) (n : Int) (m : Int) : Option (Vl.Pattern × Bool) :=
  if p.op = 2 then
    if p.var = v then
      (F.spec_l11Narrow p n m) >>= fun v39 =>
      some (v39.1, v39.2)
    else
      (F.spec_l11Put_l3 p v n m [] 0) >>= fun o'55 =>
      match o'55 with
      | .ret r057 => some r057
      | .go sx56 =>
        some ((⟨p.op, p.ctor, p.n, p.m, p.var, sx56⟩ : Vl.Pattern), true)
  else
    if p.op = 6 then
      if p.var = v then
        (F.spec_l11Narrow p n m) >>= fun v7 =>
        some (v7.1, v7.2)
      else
        (F.spec_l11Put_l1 p v n m [] 0) >>= fun o' =>
        match o' with
        | .ret r0 => some r0
        | .go sx =>
          some ((⟨p.op, p.ctor, p.n, p.m, p.var, sx⟩ : Vl.Pattern), true)
    else
      (F.spec_l11Put_l2 p v n m [] 0) >>= fun o'34 =>
      match o'34 with
      | .ret r036 => some r036
      | .go sx35 =>
        some ((⟨p.op, p.ctor, p.n, p.m, p.var, sx35⟩ : Vl.Pattern), true)
  partial_fixpoint
def F.spec_l11Put_l1 (p : Vl.Pattern) (v : Int) (n : Int) (m : Int) (out : List Vl.Pattern) (i : Nat) : Option (Lo (Vl.Pattern × Bool) (List Vl.Pattern)) :=
  if i < p.kids.length then
    (p.kids[i]?) >>= fun x =>
    (F.spec_l11Put x v n m) >>= fun v13 =>
    if v13.2 = true then
      if out.length + 1 ≤ 67108864 then
        F.spec_l11Put_l1 p v n m (out ++ [v13.1]) (i + 1)
      else none
    else
      some (.ret ((⟨(0 : Int), (0 : Int), (0 : Int), (0 : Int), (0 : Int), []⟩ : Vl.Pattern), false))
  else
    some (.go out)
  partial_fixpoint
def F.spec_l11Put_l2 (p : Vl.Pattern) (v : Int) (n : Int) (m : Int) (out20 : List Vl.Pattern) (i21 : Nat) : Option (Lo (Vl.Pattern × Bool) (List Vl.Pattern)) :=
  if i21 < p.kids.length then
    (p.kids[i21]?) >>= fun x25 =>
    (F.spec_l11Put x25 v n m) >>= fun v27 =>
    if v27.2 = true then
      if out20.length + 1 ≤ 67108864 then
        F.spec_l11Put_l2 p v n m (out20 ++ [v27.1]) (i21 + 1)
      else none
    else
      some (.ret ((⟨(0 : Int), (0 : Int), (0 : Int), (0 : Int), (0 : Int), []⟩ : Vl.Pattern), false))
  else
    some (.go out20)
  partial_fixpoint
def F.spec_l11Put_l3 (p : Vl.Pattern) (v : Int) (n : Int) (m : Int) (out41 : List Vl.Pattern) (i42 : Nat) : Option (Lo (Vl.Pattern × Bool) (List Vl.Pattern)) :=
  if i42 < p.kids.length then
    (p.kids[i42]?) >>= fun x46 =>
    (F.spec_l11Put x46 v n m) >>= fun v48 =>
    if v48.2 = true then
      if out41.length + 1 ≤ 67108864 then
        F.spec_l11Put_l3 p v n m (out41 ++ [v48.1]) (i42 + 1)
      else none
    else
      some (.ret ((⟨(0 : Int), (0 : Int), (0 : Int), (0 : Int), (0 : Int), []⟩ : Vl.Pattern), false))
  else
    some (.go out41)
  partial_fixpoint
end

def F.spec_l11Guard (c' : Vl.Clause) : Option (Vl.Clause × Bool) :=
  if c'.guard.op = 0 then
    (F.spec_l3Copy c'.pat) >>= fun v =>
    some ((⟨v, (⟨(0 : Int), (0 : Int), (0 : Int)⟩ : Vl.Guard)⟩ : Vl.Clause), true)
  else
    (F.spec_l11Range c'.guard) >>= fun v4 =>
    (F.spec_l11Put c'.pat c'.guard.var v4.1 v4.2) >>= fun v6 =>
    (F.spec_l3Copy v6.1) >>= fun v8 =>
    some ((⟨v8, (⟨(0 : Int), (0 : Int), (0 : Int)⟩ : Vl.Guard)⟩ : Vl.Clause), v6.2)

def F.spec_GuardNever (w : List Vl.Data) (t : Vl.Ty) (c' : Vl.Clause) : Option (Bool) :=
  (F.spec_ClauseValid w t c') >>= fun v =>
  if v = true then
    if c'.guard.op = 0 then
      some false
    else
      (F.spec_l11Under c'.pat c'.guard.var) >>= fun v6 =>
      if v6 = true then
        some false
      else
        (F.spec_l11Guard c') >>= fun v10 =>
        some (!v10.2)
  else
    some false

def F.impl_within (n : Int) (low : Int) (high : Int) : Option (Bool) :=
  if low ≤ n then
    some (decide (n ≤ high))
  else
    some false

def F.impl_NameValid_l1 (s : ByteArray) (i : Nat) : Option (Lo Bool Unit) :=
  if i < s.size then
    if byteAt s i < 97 then
      some (.ret false)
    else
      if 122 < byteAt s i then
        some (.ret false)
      else
        if i + 1 ≤ 9223372036854775807 then
          F.impl_NameValid_l1 s (i + 1)
        else none
  else
    some (.go ())
  partial_fixpoint

def F.impl_NameValid (s : ByteArray) : Option (Bool) :=
  (F.impl_within (s.size : Int) (1 : Int) (5 : Int)) >>= fun v =>
  if v = true then
    if 0 < s.size then
      if byteAt s 0 < 65 then
        some false
      else
        if 90 < byteAt s 0 then
          some false
        else
          (F.impl_NameValid_l1 s 1) >>= fun o' =>
          match o' with
          | .ret r0 => some r0
          | .go sx =>
            some true
    else none
  else
    some false

def F.impl_argOk (w : List Vl.Data) (t : Vl.Ty) : Option (Bool) :=
  if dec (eq2 (t.data, t.index) ((-1), 0)) = true then
    some true
  else
    (F.impl_within t.data (0 : Int) (IntKind.i64.wrap ((w.length : Int) - 1))) >>= fun v =>
    if v = true then
      (F.impl_within t.index (-1 : Int) (3 : Int)) >>= fun v6 =>
      some v6
    else
      some false

def F.impl_ctorOk_1 (t : Vl.Ty) (a1 : List Vl.Data) : Option (Bool) :=
  (F.impl_argOk a1 t) >>= fun v =>
  some (!v)

def F.slices_IndexFunc_Type__impl_ctorOk_1_l1 (s : List Vl.Ty) (k0 : List Vl.Data) (i : Nat) : Option (Lo Int Unit) :=
  if i < s.length then
    (s[i]?) >>= fun x =>
    (F.impl_ctorOk_1 x k0) >>= fun v =>
    if v = true then
      some (.ret (i : Int))
    else
      F.slices_IndexFunc_Type__impl_ctorOk_1_l1 s k0 (i + 1)
  else
    some (.go ())
  partial_fixpoint

def F.slices_IndexFunc_Type__impl_ctorOk_1 (s : List Vl.Ty) (k0 : List Vl.Data) : Option (Int) :=
  (F.slices_IndexFunc_Type__impl_ctorOk_1_l1 s k0 0) >>= fun o' =>
  match o' with
  | .ret r0 => some r0
  | .go sx =>
    some (-1 : Int)

def F.slices_ContainsFunc_Type__impl_ctorOk_1 (s : List Vl.Ty) (k0 : List Vl.Data) : Option (Bool) :=
  (F.slices_IndexFunc_Type__impl_ctorOk_1 s k0) >>= fun v =>
  some (decide (0 ≤ v))

def F.impl_ctorOk (w : List Vl.Data) (c' : Vl.Ctor) : Option (Bool) :=
  (F.impl_NameValid c'.name) >>= fun v =>
  if v = true then
    if c'.args.length ≤ 3 then
      (F.impl_within c'.index (0 : Int) (3 : Int)) >>= fun v7 =>
      if v7 = true then
        (F.slices_ContainsFunc_Type__impl_ctorOk_1 c'.args w) >>= fun v11 =>
        some (!v11)
      else
        some false
    else
      some false
  else
    some false

def F.impl_WorldValid_l2 (w : List Vl.Data) (met4 : List ByteArray) (i : Nat) (x : Vl.Data) (met26 : List ByteArray) (i27 : Nat) : Option (Lo Bool (List ByteArray)) :=
  if i27 < x.ctors.length then
    (x.ctors[i27]?) >>= fun x31 =>
    (F.impl_ctorOk w x31) >>= fun v33 =>
    if v33 = true then
      if dec (x31.name ∈ met26) = true then
        some (.ret false)
      else
        F.impl_WorldValid_l2 w met4 i x (msIns met26 x31.name) (i27 + 1)
    else
      some (.ret false)
  else
    some (.go met26)
  partial_fixpoint

def F.impl_WorldValid_l1 (w : List Vl.Data) (met : List ByteArray) (met4 : List ByteArray) (i : Nat) : Option (Lo Bool ((List ByteArray) × (List ByteArray))) :=
  if i < w.length then
    (w[i]?) >>= fun x =>
    if x.name.size = 1 then
      if 0 < x.name.size then
        if byteAt x.name 0 < 65 then
          some (.ret false)
        else
          if 90 < byteAt x.name 0 then
            some (.ret false)
          else
            if x.name.toList = (⟨#[73]⟩ : ByteArray).toList then
              some (.ret false)
            else
              if dec (x.name ∈ met4) = true then
                some (.ret false)
              else
                (F.impl_within (x.ctors.length : Int) (1 : Int) (4 : Int)) >>= fun v =>
                if v = true then
                  (F.impl_WorldValid_l2 w met4 i x met 0) >>= fun o' =>
                  match o' with
                  | .ret r0 => some (.ret r0)
                  | .go sx =>
                    if i + 1 ≤ 9223372036854775807 then
                      F.impl_WorldValid_l1 w sx (msIns met4 x.name) (i + 1)
                    else none
                else
                  some (.ret false)
      else none
    else
      some (.ret false)
  else
    some (.go (met, met4))
  partial_fixpoint

def F.impl_WorldValid (w : List Vl.Data) : Option (Bool) :=
  if 4 < w.length then
    some false
  else
    (F.impl_WorldValid_l1 w [] [] 0) >>= fun o'44 =>
    match o'44 with
    | .ret r046 => some r046
    | .go sx45 =>
      some true

def F.impl_typeOk (w : List Vl.Data) (t : Vl.Ty) : Option (Bool) :=
  if dec (eq2 (t.data, t.index) ((-1), 0)) = true then
    some true
  else
    (F.impl_within t.data (0 : Int) (IntKind.i64.wrap ((w.length : Int) - 1))) >>= fun v =>
    if v = true then
      (F.impl_within t.index (0 : Int) (3 : Int)) >>= fun v6 =>
      some v6
    else
      some false

def F.impl_TypeValid (w : List Vl.Data) (t : Vl.Ty) : Option (Bool) :=
  (F.impl_WorldValid w) >>= fun v =>
  if v = true then
    (F.impl_typeOk w t) >>= fun v4 =>
    some v4
  else
    some false

def F.impl_only (p : Vl.Pattern) (ctor : Bool) (numbers : Bool) (variable' : Bool) (kids : Int) : Option (Bool) :=
  if ctor = true then
    if numbers = true then
      if variable' = true then
        some (decide ((p.kids.length : Int) = kids))
      else
        if p.var = 0 then
          some (decide ((p.kids.length : Int) = kids))
        else
          some false
    else
      if p.n = 0 then
        if p.m = 0 then
          if variable' = true then
            some (decide ((p.kids.length : Int) = kids))
          else
            if p.var = 0 then
              some (decide ((p.kids.length : Int) = kids))
            else
              some false
        else
          some false
      else
        some false
  else
    if p.ctor = 0 then
      if numbers = true then
        if variable' = true then
          some (decide ((p.kids.length : Int) = kids))
        else
          if p.var = 0 then
            some (decide ((p.kids.length : Int) = kids))
          else
            some false
      else
        if p.n = 0 then
          if p.m = 0 then
            if variable' = true then
              some (decide ((p.kids.length : Int) = kids))
            else
              if p.var = 0 then
                some (decide ((p.kids.length : Int) = kids))
              else
                some false
          else
            some false
        else
          some false
    else
      some false

def F.impl_isVar (v : Int) : Option (Bool) :=
  (F.impl_within v (0 : Int) (5 : Int)) >>= fun v1 =>
  some v1

def F.impl_ctorsOf_l1 (t : Vl.Ty) (x : Vl.Data) (i : Nat) (out : List Int) : Option (List Int) :=
  if i < x.ctors.length then
    (x.ctors[i]?) >>= fun x7 =>
    if t.index = 0 then
      if out.length + 1 ≤ 67108864 then
        F.impl_ctorsOf_l1 t x (i + 1) (out ++ [(i : Int)])
      else none
    else
      if x7.index = 0 then
        if out.length + 1 ≤ 67108864 then
          F.impl_ctorsOf_l1 t x (i + 1) (out ++ [(i : Int)])
        else none
      else
        if x7.index = t.index then
          if out.length + 1 ≤ 67108864 then
            F.impl_ctorsOf_l1 t x (i + 1) (out ++ [(i : Int)])
          else none
        else
          F.impl_ctorsOf_l1 t x (i + 1) out
  else
    some out
  partial_fixpoint

def F.impl_ctorsOf (w : List Vl.Data) (t : Vl.Ty) : Option (List Int) :=
  if t.data = (-1) then
    some []
  else
    (at? w t.data) >>= fun x =>
    (F.impl_ctorsOf_l1 t x 0 []) >>= fun o' =>
    some o'

def F.slices_Index_int_l1 (s : List Int) (v : Int) (i : Nat) : Option (Lo Int Unit) :=
  if i < s.length then
    (s[i]?) >>= fun x =>
    if v = x then
      some (.ret (i : Int))
    else
      F.slices_Index_int_l1 s v (i + 1)
  else
    some (.go ())
  partial_fixpoint

def F.slices_Index_int (s : List Int) (v : Int) : Option (Int) :=
  (F.slices_Index_int_l1 s v 0) >>= fun o' =>
  match o' with
  | .ret r0 => some r0
  | .go sx =>
    some (-1 : Int)

def F.slices_Contains_int (s : List Int) (v : Int) : Option (Bool) :=
  (F.slices_Index_int s v) >>= fun v1 =>
  some (decide (0 ≤ v1))

def F.impl_argTypes_l1 (t : Vl.Ty) (x2 : Vl.Ctor) (i : Nat) (out : List Vl.Ty) : Option (List Vl.Ty) :=
  if i < x2.args.length then
    (x2.args[i]?) >>= fun x9 =>
    if x9.index = (-1) then
      if out.length + 1 ≤ 67108864 then
        F.impl_argTypes_l1 t x2 (i + 1) (out ++ [(⟨x9.data, t.index⟩ : Vl.Ty)])
      else none
    else
      if out.length + 1 ≤ 67108864 then
        F.impl_argTypes_l1 t x2 (i + 1) (out ++ [x9])
      else none
  else
    some out
  partial_fixpoint

def F.impl_argTypes_l2 (x2 : Vl.Ctor) (i18 : Nat) (out19 : List Vl.Ty) : Option (List Vl.Ty) :=
  if i18 < x2.args.length then
    (x2.args[i18]?) >>= fun x23 =>
    if x23.index = (-1) then
      if out19.length + 1 ≤ 67108864 then
        F.impl_argTypes_l2 x2 (i18 + 1) (out19 ++ [(⟨x23.data, x2.index⟩ : Vl.Ty)])
      else none
    else
      if out19.length + 1 ≤ 67108864 then
        F.impl_argTypes_l2 x2 (i18 + 1) (out19 ++ [x23])
      else none
  else
    some out19
  partial_fixpoint

def F.impl_argTypes (w : List Vl.Data) (t : Vl.Ty) (ctor : Int) : Option (List Vl.Ty) :=
  (at? w t.data) >>= fun x =>
  (at? x.ctors ctor) >>= fun x2 =>
  if x2.index = 0 then
    (F.impl_argTypes_l1 t x2 0 []) >>= fun o' =>
    some o'
  else
    (F.impl_argTypes_l2 x2 0 []) >>= fun o'32 =>
    some o'32

def F.impl_shape (w : List Vl.Data) (t : Vl.Ty) (p : Vl.Pattern) : Option ((List Vl.Ty) × Bool) :=
  if p.op = 1 then
    (F.impl_only p false false false (0 : Int)) >>= fun v =>
    some ([], v)
  else
    if p.op = 2 then
      (F.impl_only p false false true (0 : Int)) >>= fun v6 =>
      if v6 = true then
        (F.impl_isVar p.var) >>= fun v10 =>
        some ([], v10)
      else
        some ([], false)
    else
      if p.op = 3 then
        if t.data = (-1) then
          (F.impl_only p false true false (0 : Int)) >>= fun v16 =>
          if v16 = true then
            if 0 ≤ p.n then
              if p.n ≤ p.m then
                some ([], decide (p.m ≤ 9))
              else
                some ([], false)
            else
              some ([], false)
          else
            some ([], false)
        else
          some ([], false)
      else
        if p.op = 4 then
          (F.impl_ctorsOf w t) >>= fun v26 =>
          (F.slices_Contains_int v26 p.ctor) >>= fun v28 =>
          if v28 = true then
            (F.impl_argTypes w t p.ctor) >>= fun v32 =>
            (F.impl_only p true false false (v32.length : Int)) >>= fun v34 =>
            some (v32, v34)
          else
            some ([], false)
        else
          if p.op = 5 then
            (F.impl_only p false false false (2 : Int)) >>= fun v38 =>
            some ([t, t], v38)
          else
            if p.op = 6 then
              (F.impl_only p false false true (1 : Int)) >>= fun v42 =>
              if v42 = true then
                (F.impl_isVar p.var) >>= fun v46 =>
                some ([t], v46)
              else
                some ([t], false)
            else
              some ([], false)

def F.slices_Index_VarType_l1 (s : List Vl.VarType) (v : Vl.VarType) (i : Nat) : Option (Lo Int Unit) :=
  if i < s.length then
    (s[i]?) >>= fun x =>
    if dec (eq3 (v.var, v.type.data, v.type.index) (x.var, x.type.data, x.type.index)) = true then
      some (.ret (i : Int))
    else
      F.slices_Index_VarType_l1 s v (i + 1)
  else
    some (.go ())
  partial_fixpoint

def F.slices_Index_VarType (s : List Vl.VarType) (v : Vl.VarType) : Option (Int) :=
  (F.slices_Index_VarType_l1 s v 0) >>= fun o' =>
  match o' with
  | .ret r0 => some r0
  | .go sx =>
    some (-1 : Int)

def F.slices_Contains_VarType (s : List Vl.VarType) (v : Vl.VarType) : Option (Bool) :=
  (F.slices_Index_VarType s v) >>= fun v1 =>
  some (decide (0 ≤ v1))

def F.impl_sameVars_1 (v : Vl.VarType) (a1 : List Vl.VarType) : Option (Bool) :=
  (F.slices_Contains_VarType a1 v) >>= fun v1 =>
  some (!v1)

def F.slices_IndexFunc_VarType__impl_sameVars_1_l1 (s : List Vl.VarType) (k0 : List Vl.VarType) (i : Nat) : Option (Lo Int Unit) :=
  if i < s.length then
    (s[i]?) >>= fun x =>
    (F.impl_sameVars_1 x k0) >>= fun v =>
    if v = true then
      some (.ret (i : Int))
    else
      F.slices_IndexFunc_VarType__impl_sameVars_1_l1 s k0 (i + 1)
  else
    some (.go ())
  partial_fixpoint

def F.slices_IndexFunc_VarType__impl_sameVars_1 (s : List Vl.VarType) (k0 : List Vl.VarType) : Option (Int) :=
  (F.slices_IndexFunc_VarType__impl_sameVars_1_l1 s k0 0) >>= fun o' =>
  match o' with
  | .ret r0 => some r0
  | .go sx =>
    some (-1 : Int)

def F.slices_ContainsFunc_VarType__impl_sameVars_1 (s : List Vl.VarType) (k0 : List Vl.VarType) : Option (Bool) :=
  (F.slices_IndexFunc_VarType__impl_sameVars_1 s k0) >>= fun v =>
  some (decide (0 ≤ v))

def F.impl_sameVars (a : List Vl.VarType) (b : List Vl.VarType) : Option (Bool) :=
  if a.length = b.length then
    (F.slices_ContainsFunc_VarType__impl_sameVars_1 a b) >>= fun v =>
    some (!v)
  else
    some false

def F.impl_patternScan_l2 (sx : Int × (List Vl.VarType)) (set' : Nat → Bool) (i37 : Nat) : Option (Lo ((List Vl.VarType) × Bool × Int) Unit) :=
  if i37 < sx.2.length then
    (sx.2[i37]?) >>= fun x41 =>
    if 0 ≤ x41.var ∧ x41.var.toNat < 6 then
      if set' x41.var.toNat = true then
        some (.ret ([], false, sx.1))
      else
        F.impl_patternScan_l2 sx (updF set' x41.var.toNat true) (i37 + 1)
    else none
  else
    some (.go ())
  partial_fixpoint

def F.impl_patternScan_l4 (sx81 : Int × (List Vl.VarType)) (set'82 : Nat → Bool) (i83 : Nat) : Option (Lo ((List Vl.VarType) × Bool × Int) Unit) :=
  if i83 < sx81.2.length then
    (sx81.2[i83]?) >>= fun x87 =>
    if 0 ≤ x87.var ∧ x87.var.toNat < 6 then
      if set'82 x87.var.toNat = true then
        some (.ret ([], false, sx81.1))
      else
        F.impl_patternScan_l4 sx81 (updF set'82 x87.var.toNat true) (i83 + 1)
    else none
  else
    some (.go ())
  partial_fixpoint

def F.impl_patternScan_l6 (sx128 : Int × (List Vl.VarType)) (set'129 : Nat → Bool) (i130 : Nat) : Option (Lo ((List Vl.VarType) × Bool × Int) Unit) :=
  if i130 < sx128.2.length then
    (sx128.2[i130]?) >>= fun x134 =>
    if 0 ≤ x134.var ∧ x134.var.toNat < 6 then
      if set'129 x134.var.toNat = true then
        some (.ret ([], false, sx128.1))
      else
        F.impl_patternScan_l6 sx128 (updF set'129 x134.var.toNat true) (i130 + 1)
    else none
  else
    some (.go ())
  partial_fixpoint

mutual
def F.impl_patternScan (w : List Vl.Data) (t : Vl.Ty) (p : Vl.Pattern) (deep : Int) (count : Int) : Option ((List Vl.VarType) × Bool × Int) :=
  if 60 < IntKind.i64.wrap (count + 1) then
    some ([], false, IntKind.i64.wrap (count + 1))
  else
    if 10 < deep then
      some ([], false, IntKind.i64.wrap (count + 1))
    else
      (F.impl_shape w t p) >>= fun v =>
      if v.2 = true then
        if p.op = 2 then
          (F.impl_patternScan_l5 w p deep v (IntKind.i64.wrap (count + 1)) [(⟨p.var, t⟩ : Vl.VarType)] 0) >>= fun o'127 =>
          match o'127 with
          | .ret r0144 => some r0144
          | .go sx128 =>
            (F.impl_patternScan_l6 sx128 (fun _ => false) 0) >>= fun o'141 =>
            match o'141 with
            | .ret r0143 => some r0143
            | .go sx142 =>
              some (sx128.2, true, sx128.1)
        else
          if p.op = 6 then
            (F.impl_patternScan_l1 w p deep v (IntKind.i64.wrap (count + 1)) [(⟨p.var, t⟩ : Vl.VarType)] 0) >>= fun o' =>
            match o' with
            | .ret r050 => some r050
            | .go sx =>
              (F.impl_patternScan_l2 sx (fun _ => false) 0) >>= fun o'48 =>
              match o'48 with
              | .ret r0 => some r0
              | .go sx49 =>
                some (sx.2, true, sx.1)
          else
            (F.impl_patternScan_l3 w p deep v (IntKind.i64.wrap (count + 1)) [] 0) >>= fun o'80 =>
            match o'80 with
            | .ret r097 => some r097
            | .go sx81 =>
              (F.impl_patternScan_l4 sx81 (fun _ => false) 0) >>= fun o'94 =>
              match o'94 with
              | .ret r096 => some r096
              | .go sx95 =>
                some (sx81.2, true, sx81.1)
      else
        some ([], false, IntKind.i64.wrap (count + 1))
  partial_fixpoint
def F.impl_patternScan_l1 (w : List Vl.Data) (p : Vl.Pattern) (deep : Int) (v : (List Vl.Ty) × Bool) (z : Int) (vars : List Vl.VarType) (i : Nat) : Option (Lo ((List Vl.VarType) × Bool × Int) (Int × (List Vl.VarType))) :=
  if i < p.kids.length then
    (p.kids[i]?) >>= fun x =>
    (v.1[i]?) >>= fun x16 =>
    (F.impl_patternScan w x16 x (IntKind.i64.wrap (deep + 1)) z) >>= fun v18 =>
    if v18.2.1 = true then
      if p.op = 5 then
        if i = 1 then
          (F.impl_sameVars vars v18.1) >>= fun v27 =>
          if v27 = true then
            F.impl_patternScan_l1 w p deep v v18.2.2 vars (i + 1)
          else
            some (.ret ([], false, v18.2.2))
        else
          if vars.length + v18.1.length ≤ 67108864 then
            F.impl_patternScan_l1 w p deep v v18.2.2 (vars ++ v18.1) (i + 1)
          else none
      else
        if vars.length + v18.1.length ≤ 67108864 then
          F.impl_patternScan_l1 w p deep v v18.2.2 (vars ++ v18.1) (i + 1)
        else none
    else
      some (.ret ([], false, v18.2.2))
  else
    some (.go (z, vars))
  partial_fixpoint
def F.impl_patternScan_l3 (w : List Vl.Data) (p : Vl.Pattern) (deep : Int) (v : (List Vl.Ty) × Bool) (z51 : Int) (vars52 : List Vl.VarType) (i53 : Nat) : Option (Lo ((List Vl.VarType) × Bool × Int) (Int × (List Vl.VarType))) :=
  if i53 < p.kids.length then
    (p.kids[i53]?) >>= fun x57 =>
    (v.1[i53]?) >>= fun x59 =>
    (F.impl_patternScan w x59 x57 (IntKind.i64.wrap (deep + 1)) z51) >>= fun v61 =>
    if v61.2.1 = true then
      if p.op = 5 then
        if i53 = 1 then
          (F.impl_sameVars vars52 v61.1) >>= fun v70 =>
          if v70 = true then
            F.impl_patternScan_l3 w p deep v v61.2.2 vars52 (i53 + 1)
          else
            some (.ret ([], false, v61.2.2))
        else
          if vars52.length + v61.1.length ≤ 67108864 then
            F.impl_patternScan_l3 w p deep v v61.2.2 (vars52 ++ v61.1) (i53 + 1)
          else none
      else
        if vars52.length + v61.1.length ≤ 67108864 then
          F.impl_patternScan_l3 w p deep v v61.2.2 (vars52 ++ v61.1) (i53 + 1)
        else none
    else
      some (.ret ([], false, v61.2.2))
  else
    some (.go (z51, vars52))
  partial_fixpoint
def F.impl_patternScan_l5 (w : List Vl.Data) (p : Vl.Pattern) (deep : Int) (v : (List Vl.Ty) × Bool) (z98 : Int) (vars99 : List Vl.VarType) (i100 : Nat) : Option (Lo ((List Vl.VarType) × Bool × Int) (Int × (List Vl.VarType))) :=
  if i100 < p.kids.length then
    (p.kids[i100]?) >>= fun x104 =>
    (v.1[i100]?) >>= fun x106 =>
    (F.impl_patternScan w x106 x104 (IntKind.i64.wrap (deep + 1)) z98) >>= fun v108 =>
    if v108.2.1 = true then
      if p.op = 5 then
        if i100 = 1 then
          (F.impl_sameVars vars99 v108.1) >>= fun v117 =>
          if v117 = true then
            F.impl_patternScan_l5 w p deep v v108.2.2 vars99 (i100 + 1)
          else
            some (.ret ([], false, v108.2.2))
        else
          if vars99.length + v108.1.length ≤ 67108864 then
            F.impl_patternScan_l5 w p deep v v108.2.2 (vars99 ++ v108.1) (i100 + 1)
          else none
      else
        if vars99.length + v108.1.length ≤ 67108864 then
          F.impl_patternScan_l5 w p deep v v108.2.2 (vars99 ++ v108.1) (i100 + 1)
        else none
    else
      some (.ret ([], false, v108.2.2))
  else
    some (.go (z98, vars99))
  partial_fixpoint
end

def F.impl_patternVars (w : List Vl.Data) (t : Vl.Ty) (p : Vl.Pattern) : Option ((List Vl.VarType) × Bool) :=
  (F.impl_patternScan w t p (1 : Int) (0 : Int)) >>= fun v =>
  some (v.1, v.2.1)

def F.impl_guardOk (g : Vl.Guard) (vars : List Vl.VarType) : Option (Bool) :=
  if g.op = 0 then
    some (dec (eq3 (g.op, g.var, g.n) (0, 0, 0)))
  else
    (F.impl_within g.op (1 : Int) (2 : Int)) >>= fun v =>
    if v = true then
      (F.impl_within g.n (0 : Int) (9 : Int)) >>= fun v6 =>
      if v6 = true then
        (F.slices_Contains_VarType vars (⟨g.var, (⟨(-1 : Int), (0 : Int)⟩ : Vl.Ty)⟩ : Vl.VarType)) >>= fun v10 =>
        some v10
      else
        some false
    else
      some false

def F.impl_clauseOk (w : List Vl.Data) (t : Vl.Ty) (c' : Vl.Clause) : Option (Bool) :=
  (F.impl_patternVars w t c'.pat) >>= fun v =>
  if v.2 = true then
    (F.impl_guardOk c'.guard v.1) >>= fun v4 =>
    some v4
  else
    some false

def F.impl_ClauseValid (w : List Vl.Data) (t : Vl.Ty) (c' : Vl.Clause) : Option (Bool) :=
  (F.impl_TypeValid w t) >>= fun v =>
  if v = true then
    (F.impl_clauseOk w t c') >>= fun v4 =>
    some v4
  else
    some false

def F.impl_narrow (p : Vl.Pattern) (n : Int) (m : Int) : Option (Vl.Pattern × Bool) :=
  if p.op = 1 then
    some ((⟨(3 : Int), (0 : Int), n, m, (0 : Int), []⟩ : Vl.Pattern), true)
  else
    if p.op = 2 then
      some ((⟨(6 : Int), (0 : Int), (0 : Int), (0 : Int), p.var, [(⟨(3 : Int), (0 : Int), n, m, (0 : Int), []⟩ : Vl.Pattern)]⟩ : Vl.Pattern), true)
    else
      if p.op = 3 then
        some ((⟨(3 : Int), (0 : Int), if n > p.n then n else p.n, if m < p.m then m else p.m, (0 : Int), []⟩ : Vl.Pattern), decide ((if n > p.n then n else p.n) ≤ (if m < p.m then m else p.m)))
      else
        if p.op = 6 then
          (p.kids[0]?) >>= fun x =>
          (F.impl_narrow x n m) >>= fun v =>
          some ((⟨(6 : Int), (0 : Int), (0 : Int), (0 : Int), p.var, [v.1]⟩ : Vl.Pattern), v.2)
        else
          (p.kids[0]?) >>= fun x11 =>
          (F.impl_narrow x11 n m) >>= fun v13 =>
          (p.kids[1]?) >>= fun x15 =>
          (F.impl_narrow x15 n m) >>= fun v17 =>
          if v13.2 = true then
            if v17.2 = true then
              some ((⟨(5 : Int), (0 : Int), (0 : Int), (0 : Int), (0 : Int), [v13.1, v17.1]⟩ : Vl.Pattern), true)
            else
              some (v13.1, true)
          else
            some (v17.1, v17.2)
  partial_fixpoint

def F.slices_Clone_Pattern (s : List Vl.Pattern) : Option (List Vl.Pattern) :=
  if s.length ≤ 67108864 then
    some s
  else none

mutual
def F.impl_narrowed (p : Vl.Pattern) (v : Int) (n : Int) (m : Int) : Option (Vl.Pattern × Bool × Bool) :=
  if p.op = 2 then
    if p.var = v then
      (F.impl_narrow p n m) >>= fun v46 =>
      some (v46.1, true, v46.2)
    else
      (F.impl_narrowed_l3 p v n m 0) >>= fun o'64 =>
      match o'64 with
      | .ret r066 => some r066
      | .go sx65 =>
        some (p, false, false)
  else
    if p.op = 6 then
      if p.var = v then
        (F.impl_narrow p n m) >>= fun v7 =>
        some (v7.1, true, v7.2)
      else
        (F.impl_narrowed_l1 p v n m 0) >>= fun o' =>
        match o' with
        | .ret r0 => some r0
        | .go sx =>
          some (p, false, false)
    else
      if p.op = 5 then
        some (p, false, false)
      else
        (F.impl_narrowed_l2 p v n m 0) >>= fun o'41 =>
        match o'41 with
        | .ret r043 => some r043
        | .go sx42 =>
          some (p, false, false)
  partial_fixpoint
def F.impl_narrowed_l1 (p : Vl.Pattern) (v : Int) (n : Int) (m : Int) (i : Nat) : Option (Lo (Vl.Pattern × Bool × Bool) Unit) :=
  if i < p.kids.length then
    (p.kids[i]?) >>= fun x =>
    (F.impl_narrowed x v n m) >>= fun v13 =>
    if v13.2.1 = true then
      (F.slices_Clone_Pattern p.kids) >>= fun v17 =>
      (v17[i]?) >>= fun x19 =>
      some (.ret ((⟨p.op, p.ctor, p.n, p.m, p.var, v17.set i v13.1⟩ : Vl.Pattern), true, v13.2.2))
    else
      F.impl_narrowed_l1 p v n m (i + 1)
  else
    some (.go ())
  partial_fixpoint
def F.impl_narrowed_l2 (p : Vl.Pattern) (v : Int) (n : Int) (m : Int) (i25 : Nat) : Option (Lo (Vl.Pattern × Bool × Bool) Unit) :=
  if i25 < p.kids.length then
    (p.kids[i25]?) >>= fun x29 =>
    (F.impl_narrowed x29 v n m) >>= fun v31 =>
    if v31.2.1 = true then
      (F.slices_Clone_Pattern p.kids) >>= fun v35 =>
      (v35[i25]?) >>= fun x37 =>
      some (.ret ((⟨p.op, p.ctor, p.n, p.m, p.var, v35.set i25 v31.1⟩ : Vl.Pattern), true, v31.2.2))
    else
      F.impl_narrowed_l2 p v n m (i25 + 1)
  else
    some (.go ())
  partial_fixpoint
def F.impl_narrowed_l3 (p : Vl.Pattern) (v : Int) (n : Int) (m : Int) (i48 : Nat) : Option (Lo (Vl.Pattern × Bool × Bool) Unit) :=
  if i48 < p.kids.length then
    (p.kids[i48]?) >>= fun x52 =>
    (F.impl_narrowed x52 v n m) >>= fun v54 =>
    if v54.2.1 = true then
      (F.slices_Clone_Pattern p.kids) >>= fun v58 =>
      (v58[i48]?) >>= fun x60 =>
      some (.ret ((⟨p.op, p.ctor, p.n, p.m, p.var, v58.set i48 v54.1⟩ : Vl.Pattern), true, v54.2.2))
    else
      F.impl_narrowed_l3 p v n m (i48 + 1)
  else
    some (.go ())
  partial_fixpoint
end

def F.impl_guarded (c' : Vl.Clause) : Option (Vl.Pattern × Bool × Bool) :=
  if c'.guard.op = 2 then
    (F.impl_narrowed c'.pat c'.guard.var c'.guard.n c'.guard.n) >>= fun v =>
    if v.2.2 = true then
      some (v.1, v.2.1, decide (c'.guard.n ≤ c'.guard.n))
    else
      some (v.1, v.2.1, false)
  else
    (F.impl_narrowed c'.pat c'.guard.var (0 : Int) (IntKind.i64.wrap (c'.guard.n - 1))) >>= fun v6 =>
    if v6.2.2 = true then
      some (v6.1, v6.2.1, decide (0 ≤ IntKind.i64.wrap (c'.guard.n - 1)))
    else
      some (v6.1, v6.2.1, false)

def F.impl_GuardNever (w : List Vl.Data) (t : Vl.Ty) (c' : Vl.Clause) : Option (Bool) :=
  (F.impl_ClauseValid w t c') >>= fun v =>
  if v = true then
    if c'.guard.op = 0 then
      some false
    else
      (F.impl_guarded c') >>= fun v6 =>
      if v6.2.1 = true then
        some (!v6.2.2)
      else
        some false
  else
    some false

def F.laws_eqType (a : Vl.Ty) (b : Vl.Ty) : Option (Bool) :=
  if a.data = b.data then
    if a.index = b.index then
      some true
    else
      some false
  else
    some false

def F.laws_eqTypeS_l1 (a : List Vl.Ty) (b : List Vl.Ty) (i : Nat) : Option (Lo Bool Unit) :=
  if i < a.length then
    (a[i]?) >>= fun x =>
    (b[i]?) >>= fun x8 =>
    (F.laws_eqType x x8) >>= fun v =>
    if v = true then
      F.laws_eqTypeS_l1 a b (i + 1)
    else
      some (.ret false)
  else
    some (.go ())
  partial_fixpoint

def F.laws_eqTypeS (a : List Vl.Ty) (b : List Vl.Ty) : Option (Bool) :=
  if a.length = b.length then
    (F.laws_eqTypeS_l1 a b 0) >>= fun o' =>
    match o' with
    | .ret r0 => some r0
    | .go sx =>
      some true
  else
    some false

def F.laws_eqCtor (a : Vl.Ctor) (b : Vl.Ctor) : Option (Bool) :=
  if a.name.toList = b.name.toList then
    (F.laws_eqTypeS a.args b.args) >>= fun v =>
    if v = true then
      if a.index = b.index then
        some true
      else
        some false
    else
      some false
  else
    some false

def F.laws_eqCtorS_l1 (a : List Vl.Ctor) (b : List Vl.Ctor) (i : Nat) : Option (Lo Bool Unit) :=
  if i < a.length then
    (a[i]?) >>= fun x =>
    (b[i]?) >>= fun x8 =>
    (F.laws_eqCtor x x8) >>= fun v =>
    if v = true then
      F.laws_eqCtorS_l1 a b (i + 1)
    else
      some (.ret false)
  else
    some (.go ())
  partial_fixpoint

def F.laws_eqCtorS (a : List Vl.Ctor) (b : List Vl.Ctor) : Option (Bool) :=
  if a.length = b.length then
    (F.laws_eqCtorS_l1 a b 0) >>= fun o' =>
    match o' with
    | .ret r0 => some r0
    | .go sx =>
      some true
  else
    some false

def F.laws_eqData (a : Vl.Data) (b : Vl.Data) : Option (Bool) :=
  if a.name.toList = b.name.toList then
    (F.laws_eqCtorS a.ctors b.ctors) >>= fun v =>
    if v = true then
      some true
    else
      some false
  else
    some false

def F.laws_eqDataS_l1 (a : List Vl.Data) (b : List Vl.Data) (i : Nat) : Option (Lo Bool Unit) :=
  if i < a.length then
    (a[i]?) >>= fun x =>
    (b[i]?) >>= fun x8 =>
    (F.laws_eqData x x8) >>= fun v =>
    if v = true then
      F.laws_eqDataS_l1 a b (i + 1)
    else
      some (.ret false)
  else
    some (.go ())
  partial_fixpoint

def F.laws_eqDataS (a : List Vl.Data) (b : List Vl.Data) : Option (Bool) :=
  if a.length = b.length then
    (F.laws_eqDataS_l1 a b 0) >>= fun o' =>
    match o' with
    | .ret r0 => some r0
    | .go sx =>
      some true
  else
    some false

mutual
def F.laws_eqPattern (a : Vl.Pattern) (b : Vl.Pattern) : Option (Bool) :=
  if a.op = b.op then
    if a.ctor = b.ctor then
      if a.n = b.n then
        if a.m = b.m then
          if a.var = b.var then
            (F.laws_eqPatternS a.kids b.kids) >>= fun v =>
            if v = true then
              some true
            else
              some false
          else
            some false
        else
          some false
      else
        some false
    else
      some false
  else
    some false
  partial_fixpoint
def F.laws_eqPatternS (a : List Vl.Pattern) (b : List Vl.Pattern) : Option (Bool) :=
  if a.length = b.length then
    (F.laws_eqPatternS_l1 a b 0) >>= fun o' =>
    match o' with
    | .ret r0 => some r0
    | .go sx =>
      some true
  else
    some false
  partial_fixpoint
def F.laws_eqPatternS_l1 (a : List Vl.Pattern) (b : List Vl.Pattern) (i : Nat) : Option (Lo Bool Unit) :=
  if i < a.length then
    (a[i]?) >>= fun x =>
    (b[i]?) >>= fun x8 =>
    (F.laws_eqPattern x x8) >>= fun v =>
    if v = true then
      F.laws_eqPatternS_l1 a b (i + 1)
    else
      some (.ret false)
  else
    some (.go ())
  partial_fixpoint
end

def F.laws_eqGuard (a : Vl.Guard) (b : Vl.Guard) : Option (Bool) :=
  if a.op = b.op then
    if a.var = b.var then
      if a.n = b.n then
        some true
      else
        some false
    else
      some false
  else
    some false

def F.laws_eqClause (a : Vl.Clause) (b : Vl.Clause) : Option (Bool) :=
  (F.laws_eqPattern a.pat b.pat) >>= fun v =>
  if v = true then
    (F.laws_eqGuard a.guard b.guard) >>= fun v4 =>
    if v4 = true then
      some true
    else
      some false
  else
    some false

def F.laws_FnExactGuardNever (aW : List Vl.Data) (aT : Vl.Ty) (aC : Vl.Clause) : Option (Bool) :=
  (F.laws_szDataS aW (1048576 : Int)) >>= fun v =>
  if v < 0 then
    some true
  else
    (F.laws_szClause aC v) >>= fun v4 =>
    if v4 < 0 then
      some true
    else
      (F.laws_toDataS aW) >>= fun v8 =>
      (F.laws_toType aT) >>= fun v10 =>
      (F.laws_toClause aC) >>= fun v12 =>
      (F.spec_GuardNever v8 v10 v12) >>= fun v14 =>
      (F.laws_toDataS aW) >>= fun v16 =>
      (F.laws_toClause aC) >>= fun v18 =>
      (F.laws_toType aT) >>= fun v20 =>
      (F.impl_GuardNever v16 v20 v18) >>= fun v22 =>
      if v22 = v14 then
        (F.laws_toDataS aW) >>= fun v26 =>
        (F.laws_eqDataS v16 v26) >>= fun v28 =>
        if v28 = true then
          (F.laws_toClause aC) >>= fun v32 =>
          (F.laws_eqClause v18 v32) >>= fun v34 =>
          if v34 = true then
            some true
          else
            some false
        else
          some false
      else
        some false
end
end Go.Vl
