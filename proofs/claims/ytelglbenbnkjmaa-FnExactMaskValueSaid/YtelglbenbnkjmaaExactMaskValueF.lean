/- The functions of the program as Lean functions (printed by gen.py). -/
import Derived.Test.YtelglbenbnkjmaaVlG
import Derived.Test.YtelglbenbnkjmaaVlDraw3
import Derived.Test.YtelglbenbnkjmaaVlFa
import Derived.Test.YtelglbenbnkjmaaVlSplit
import Derived.Test.YtelglbenbnkjmaaVlDeep
import Derived.Test.YtelglbenbnkjmaaVlMk
import Derived.Test.YtelglbenbnkjmaaVlFork
set_option linter.unusedVariables false
set_option linter.unusedSimpArgs false
set_option linter.unusedVariables false
namespace Go.Vl
open Go
noncomputable section

def F.laws_markText_l1 (k3 : Int) (out : ByteArray) : Option (ByteArray) :=
  if 0 < k3 then
    if (strB [IntKind.u8.wrap (IntKind.i64.wrap (48 + k3.tmod 10))]).size + out.size ≤ 9223372036854775807 then
      F.laws_markText_l1 (IntKind.i64.wrap (k3.tdiv 10)) ((strB [IntKind.u8.wrap (IntKind.i64.wrap (48 + k3.tmod 10))]) ++ out)
    else none
  else
    some out
  partial_fixpoint

def F.laws_markText (k : Int) : Option (ByteArray) :=
  if k ≤ 0 then
    some (⟨#[109, 48]⟩ : ByteArray)
  else
    (F.laws_markText_l1 k ByteArray.empty) >>= fun o' =>
    if (⟨#[109]⟩ : ByteArray).size + o'.size ≤ 9223372036854775807 then
      some ((⟨#[109]⟩ : ByteArray) ++ o')
    else none

def F.laws_szTypeS (a : List Vl.Ty) (left' : Int) : Option (Int) :=
  if IntKind.i64.wrap (left' - (a.length : Int)) < 0 then
    some (-1 : Int)
  else
    some (IntKind.i64.wrap (left' - (a.length : Int)))

def F.laws_szCtor (a : Vl.Ctor) (left' : Int) : Option (Int) :=
  if IntKind.i64.wrap (left' - (a.name.size : Int)) < 0 then
    some (-1 : Int)
  else
    (F.laws_szTypeS a.args (IntKind.i64.wrap (left' - (a.name.size : Int)))) >>= fun v =>
    if v < 0 then
      some (-1 : Int)
    else
      some v

def F.laws_szCtorS_l1 (a : List Vl.Ctor) (left'3 : Int) (i : Nat) : Option (Lo Int Int) :=
  if i < a.length then
    (a[i]?) >>= fun x =>
    (F.laws_szCtor x left'3) >>= fun v =>
    if v < 0 then
      some (.ret (-1 : Int))
    else
      F.laws_szCtorS_l1 a v (i + 1)
  else
    some (.go left'3)
  partial_fixpoint

def F.laws_szCtorS (a : List Vl.Ctor) (left' : Int) : Option (Int) :=
  if IntKind.i64.wrap (left' - (a.length : Int)) < 0 then
    some (-1 : Int)
  else
    (F.laws_szCtorS_l1 a (IntKind.i64.wrap (left' - (a.length : Int))) 0) >>= fun o' =>
    match o' with
    | .ret r0 => some r0
    | .go sx =>
      some sx

def F.laws_szData (a : Vl.Data) (left' : Int) : Option (Int) :=
  if IntKind.i64.wrap (left' - (a.name.size : Int)) < 0 then
    some (-1 : Int)
  else
    (F.laws_szCtorS a.ctors (IntKind.i64.wrap (left' - (a.name.size : Int)))) >>= fun v =>
    if v < 0 then
      some (-1 : Int)
    else
      some v

def F.laws_szDataS_l1 (a : List Vl.Data) (left'3 : Int) (i : Nat) : Option (Lo Int Int) :=
  if i < a.length then
    (a[i]?) >>= fun x =>
    (F.laws_szData x left'3) >>= fun v =>
    if v < 0 then
      some (.ret (-1 : Int))
    else
      F.laws_szDataS_l1 a v (i + 1)
  else
    some (.go left'3)
  partial_fixpoint

def F.laws_szDataS (a : List Vl.Data) (left' : Int) : Option (Int) :=
  if IntKind.i64.wrap (left' - (a.length : Int)) < 0 then
    some (-1 : Int)
  else
    (F.laws_szDataS_l1 a (IntKind.i64.wrap (left' - (a.length : Int))) 0) >>= fun o' =>
    match o' with
    | .ret r0 => some r0
    | .go sx =>
      some sx

mutual
def F.laws_szValue (a : Vl.Value) (left' : Int) : Option (Int) :=
  (F.laws_szValueS a.kids left') >>= fun v =>
  if v < 0 then
    some (-1 : Int)
  else
    some v
  partial_fixpoint
def F.laws_szValueS (a : List Vl.Value) (left' : Int) : Option (Int) :=
  if IntKind.i64.wrap (left' - (a.length : Int)) < 0 then
    some (-1 : Int)
  else
    (F.laws_szValueS_l1 a (IntKind.i64.wrap (left' - (a.length : Int))) 0) >>= fun o' =>
    match o' with
    | .ret r0 => some r0
    | .go sx =>
      some sx
  partial_fixpoint
def F.laws_szValueS_l1 (a : List Vl.Value) (left'3 : Int) (i : Nat) : Option (Lo Int Int) :=
  if i < a.length then
    (a[i]?) >>= fun x =>
    (F.laws_szValue x left'3) >>= fun v =>
    if v < 0 then
      some (.ret (-1 : Int))
    else
      F.laws_szValueS_l1 a v (i + 1)
  else
    some (.go left'3)
  partial_fixpoint
end

def F.laws_szIntS (a : List Int) (left' : Int) : Option (Int) :=
  if IntKind.i64.wrap (left' - (a.length : Int)) < 0 then
    some (-1 : Int)
  else
    some (IntKind.i64.wrap (left' - (a.length : Int)))

def F.laws_szIntSS_l1 (a : List (List Int)) (left'3 : Int) (i : Nat) : Option (Lo Int Int) :=
  if i < a.length then
    (a[i]?) >>= fun x =>
    (F.laws_szIntS x left'3) >>= fun v =>
    if v < 0 then
      some (.ret (-1 : Int))
    else
      F.laws_szIntSS_l1 a v (i + 1)
  else
    some (.go left'3)
  partial_fixpoint

def F.laws_szIntSS (a : List (List Int)) (left' : Int) : Option (Int) :=
  if IntKind.i64.wrap (left' - (a.length : Int)) < 0 then
    some (-1 : Int)
  else
    (F.laws_szIntSS_l1 a (IntKind.i64.wrap (left' - (a.length : Int))) 0) >>= fun o' =>
    match o' with
    | .ret r0 => some r0
    | .go sx =>
      some sx

def F.laws_toType (a : Vl.Ty) : Option (Vl.Ty) :=
  some a

def F.laws_toTypeS_l1 (a : List Vl.Ty) (out : List Vl.Ty) (i : Nat) : Option (List Vl.Ty) :=
  if i < a.length then
    (a[i]?) >>= fun x =>
    (F.laws_toType x) >>= fun v =>
    (out[i]?) >>= fun x7 =>
    F.laws_toTypeS_l1 a (out.set i v) (i + 1)
  else
    some out
  partial_fixpoint

def F.laws_toTypeS (a : List Vl.Ty) : Option (List Vl.Ty) :=
  if a.length ≤ 67108864 then
    (F.laws_toTypeS_l1 a (List.replicate a.length Vl.Ty.z) 0) >>= fun o' =>
    some o'
  else none

def F.laws_toCtor (a : Vl.Ctor) : Option (Vl.Ctor) :=
  (F.laws_toTypeS a.args) >>= fun v =>
  some (⟨a.name, v, a.index⟩ : Vl.Ctor)

def F.laws_toCtorS_l1 (a : List Vl.Ctor) (out : List Vl.Ctor) (i : Nat) : Option (List Vl.Ctor) :=
  if i < a.length then
    (a[i]?) >>= fun x =>
    (F.laws_toCtor x) >>= fun v =>
    (out[i]?) >>= fun x7 =>
    F.laws_toCtorS_l1 a (out.set i v) (i + 1)
  else
    some out
  partial_fixpoint

def F.laws_toCtorS (a : List Vl.Ctor) : Option (List Vl.Ctor) :=
  if a.length ≤ 67108864 then
    (F.laws_toCtorS_l1 a (List.replicate a.length Vl.Ctor.z) 0) >>= fun o' =>
    some o'
  else none

def F.laws_toData (a : Vl.Data) : Option (Vl.Data) :=
  (F.laws_toCtorS a.ctors) >>= fun v =>
  some (⟨a.name, v⟩ : Vl.Data)

def F.laws_toDataS_l1 (a : List Vl.Data) (out : List Vl.Data) (i : Nat) : Option (List Vl.Data) :=
  if i < a.length then
    (a[i]?) >>= fun x =>
    (F.laws_toData x) >>= fun v =>
    (out[i]?) >>= fun x7 =>
    F.laws_toDataS_l1 a (out.set i v) (i + 1)
  else
    some out
  partial_fixpoint

def F.laws_toDataS (a : List Vl.Data) : Option (List Vl.Data) :=
  if a.length ≤ 67108864 then
    (F.laws_toDataS_l1 a (List.replicate a.length Vl.Data.z) 0) >>= fun o' =>
    some o'
  else none

mutual
def F.laws_toValue (a : Vl.Value) : Option (Vl.Value) :=
  (F.laws_toValueS a.kids) >>= fun v =>
  some (⟨a.ctor, a.n, v⟩ : Vl.Value)
  partial_fixpoint
def F.laws_toValueS (a : List Vl.Value) : Option (List Vl.Value) :=
  if a.length ≤ 67108864 then
    (F.laws_toValueS_l1 a (List.replicate a.length Vl.Value.z) 0) >>= fun o' =>
    some o'
  else none
  partial_fixpoint
def F.laws_toValueS_l1 (a : List Vl.Value) (out : List Vl.Value) (i : Nat) : Option (List Vl.Value) :=
  if i < a.length then
    (a[i]?) >>= fun x =>
    (F.laws_toValue x) >>= fun v =>
    (out[i]?) >>= fun x7 =>
    F.laws_toValueS_l1 a (out.set i v) (i + 1)
  else
    some out
  partial_fixpoint
end

def F.laws_toIntS_l1 (a : List Int) (out : List Int) (i : Nat) : Option (List Int) :=
  if i < a.length then
    (a[i]?) >>= fun x =>
    (out[i]?) >>= fun x6 =>
    F.laws_toIntS_l1 a (out.set i x) (i + 1)
  else
    some out
  partial_fixpoint

def F.laws_toIntS (a : List Int) : Option (List Int) :=
  if a.length ≤ 67108864 then
    (F.laws_toIntS_l1 a (List.replicate a.length (0 : Int)) 0) >>= fun o' =>
    some o'
  else none

def F.laws_toIntSS_l1 (a : List (List Int)) (out : List (List Int)) (i : Nat) : Option (List (List Int)) :=
  if i < a.length then
    (a[i]?) >>= fun x =>
    (F.laws_toIntS x) >>= fun v =>
    (out[i]?) >>= fun x7 =>
    F.laws_toIntSS_l1 a (out.set i v) (i + 1)
  else
    some out
  partial_fixpoint

def F.laws_toIntSS (a : List (List Int)) : Option (List (List Int)) :=
  if a.length ≤ 67108864 then
    (F.laws_toIntSS_l1 a (List.replicate a.length []) 0) >>= fun o' =>
    some o'
  else none

def F.spec_l1Big (c' : Int) : Option (Bool) :=
  if 65 ≤ c' then
    some (decide (c' ≤ 90))
  else
    some false

def F.spec_l1Data (s : ByteArray) : Option (Bool) :=
  if s.size = 1 then
    if 0 < s.size then
      (F.spec_l1Big ((byteAt s 0 : Nat) : Int)) >>= fun v =>
      if v = true then
        some (decide (¬ (s.toList = (⟨#[73]⟩ : ByteArray).toList)))
      else
        some false
    else none
  else
    some false

def F.spec_NameValid_l1 (s : ByteArray) (i : Nat) : Option (Lo Bool Unit) :=
  if i < s.size then
    if byteAt s i < 97 then
      some (.ret false)
    else
      if 122 < byteAt s i then
        some (.ret false)
      else
        if i + 1 ≤ 9223372036854775807 then
          F.spec_NameValid_l1 s (i + 1)
        else none
  else
    some (.go ())
  partial_fixpoint

def F.spec_NameValid (s : ByteArray) : Option (Bool) :=
  if s.size = 0 then
    some false
  else
    if 5 < s.size then
      some false
    else
      if 0 < s.size then
        (F.spec_l1Big ((byteAt s 0 : Nat) : Int)) >>= fun v =>
        if v = true then
          (F.spec_NameValid_l1 s 1) >>= fun o' =>
          match o' with
          | .ret r0 => some r0
          | .go sx =>
            some true
        else
          some false
      else none

def F.spec_l1Arg (n : Int) (t : Vl.Ty) : Option (Bool) :=
  if t.data = (-1) then
    some (decide (t.index = 0))
  else
    if 0 ≤ t.data then
      if t.data < n then
        if (-1) ≤ t.index then
          some (decide (t.index ≤ 3))
        else
          some false
      else
        some false
    else
      some false

def F.spec_l1Ctor_l1 (n : Int) (c' : Vl.Ctor) (i : Nat) : Option (Lo Bool Unit) :=
  if i < c'.args.length then
    (c'.args[i]?) >>= fun x =>
    (F.spec_l1Arg n x) >>= fun v15 =>
    if v15 = true then
      F.spec_l1Ctor_l1 n c' (i + 1)
    else
      some (.ret false)
  else
    some (.go ())
  partial_fixpoint

def F.spec_l1Ctor (n : Int) (c' : Vl.Ctor) : Option (Bool) :=
  (F.spec_NameValid c'.name) >>= fun v =>
  if v = true then
    if 3 < c'.args.length then
      some false
    else
      if c'.index < 0 then
        some false
      else
        if 3 < c'.index then
          some false
        else
          (F.spec_l1Ctor_l1 n c' 0) >>= fun o' =>
          match o' with
          | .ret r0 => some r0
          | .go sx =>
            some true
  else
    some false

def F.spec_l1Twice_l2 (w : List Vl.Data) (d : Int) (k : Int) (i : Nat) (j : Nat) : Option (Lo Bool Unit) :=
  (w[i]?) >>= fun x10 =>
  if j < x10.ctors.length then
    if (i : Int) < d then
      (at? w d) >>= fun x33 =>
      if k < (x33.ctors.length : Int) then
        (x10.ctors[j]?) >>= fun x37 =>
        (at? x33.ctors k) >>= fun x39 =>
        if x37.name.toList = x39.name.toList then
          some (.ret true)
        else
          if j + 1 ≤ 9223372036854775807 then
            F.spec_l1Twice_l2 w d k i (j + 1)
          else none
      else
        if j + 1 ≤ 9223372036854775807 then
          F.spec_l1Twice_l2 w d k i (j + 1)
        else none
    else
      if (j : Int) < k then
        (at? w d) >>= fun x19 =>
        if k < (x19.ctors.length : Int) then
          (x10.ctors[j]?) >>= fun x23 =>
          (at? x19.ctors k) >>= fun x25 =>
          if x23.name.toList = x25.name.toList then
            some (.ret true)
          else
            if j + 1 ≤ 9223372036854775807 then
              F.spec_l1Twice_l2 w d k i (j + 1)
            else none
        else
          if j + 1 ≤ 9223372036854775807 then
            F.spec_l1Twice_l2 w d k i (j + 1)
          else none
      else
        some (.go ())
  else
    some (.go ())
  partial_fixpoint

def F.spec_l1Twice_l3 (w : List Vl.Data) (d : Int) (k : Int) (i : Nat) (j50 : Nat) : Option (Lo Bool Unit) :=
  (w[i]?) >>= fun x51 =>
  if j50 < x51.ctors.length then
    if (i : Int) < d then
      (at? w d) >>= fun x74 =>
      if k < (x74.ctors.length : Int) then
        (x51.ctors[j50]?) >>= fun x78 =>
        (at? x74.ctors k) >>= fun x80 =>
        if x78.name.toList = x80.name.toList then
          some (.ret true)
        else
          if j50 + 1 ≤ 9223372036854775807 then
            F.spec_l1Twice_l3 w d k i (j50 + 1)
          else none
      else
        if j50 + 1 ≤ 9223372036854775807 then
          F.spec_l1Twice_l3 w d k i (j50 + 1)
        else none
    else
      if (j50 : Int) < k then
        (at? w d) >>= fun x60 =>
        if k < (x60.ctors.length : Int) then
          (x51.ctors[j50]?) >>= fun x64 =>
          (at? x60.ctors k) >>= fun x66 =>
          if x64.name.toList = x66.name.toList then
            some (.ret true)
          else
            if j50 + 1 ≤ 9223372036854775807 then
              F.spec_l1Twice_l3 w d k i (j50 + 1)
            else none
        else
          if j50 + 1 ≤ 9223372036854775807 then
            F.spec_l1Twice_l3 w d k i (j50 + 1)
          else none
      else
        some (.go ())
  else
    some (.go ())
  partial_fixpoint

def F.spec_l1Twice_l1 (w : List Vl.Data) (d : Int) (k : Int) (i : Nat) : Option (Lo Bool Unit) :=
  if (i : Int) ≤ d then
    if (i : Int) < d then
      (w[i]?) >>= fun x =>
      (at? w d) >>= fun x6 =>
      if x.name.toList = x6.name.toList then
        some (.ret true)
      else
        (F.spec_l1Twice_l2 w d k i 0) >>= fun o' =>
        match o' with
        | .ret r0 => some (.ret r0)
        | .go sx =>
          if i + 1 ≤ 9223372036854775807 then
            F.spec_l1Twice_l1 w d k (i + 1)
          else none
    else
      (F.spec_l1Twice_l3 w d k i 0) >>= fun o'89 =>
      match o'89 with
      | .ret r093 => some (.ret r093)
      | .go sx90 =>
        if i + 1 ≤ 9223372036854775807 then
          F.spec_l1Twice_l1 w d k (i + 1)
        else none
  else
    some (.go ())
  partial_fixpoint

def F.spec_l1Twice (w : List Vl.Data) (d : Int) (k : Int) : Option (Bool) :=
  (F.spec_l1Twice_l1 w d k 0) >>= fun o'95 =>
  match o'95 with
  | .ret r097 => some r097
  | .go sx96 =>
    some false

def F.spec_WorldValid_l2 (w : List Vl.Data) (d : Nat) (k : Nat) : Option (Lo Bool Unit) :=
  (w[d]?) >>= fun x17 =>
  if k < x17.ctors.length then
    (x17.ctors[k]?) >>= fun x22 =>
    (F.spec_l1Ctor (w.length : Int) x22) >>= fun v24 =>
    if v24 = true then
      (F.spec_l1Twice w (d : Int) (k : Int)) >>= fun v28 =>
      if v28 = true then
        some (.ret false)
      else
        if k + 1 ≤ 9223372036854775807 then
          F.spec_WorldValid_l2 w d (k + 1)
        else none
    else
      some (.ret false)
  else
    some (.go ())
  partial_fixpoint

def F.spec_WorldValid_l1 (w : List Vl.Data) (d : Nat) : Option (Lo Bool Unit) :=
  if d < w.length then
    (w[d]?) >>= fun x =>
    (F.spec_l1Data x.name) >>= fun v =>
    if v = true then
      if x.ctors.length = 0 then
        some (.ret false)
      else
        if 4 < x.ctors.length then
          some (.ret false)
        else
          (F.spec_WorldValid_l2 w d 0) >>= fun o' =>
          match o' with
          | .ret r0 => some (.ret r0)
          | .go sx =>
            if d + 1 ≤ 9223372036854775807 then
              F.spec_WorldValid_l1 w (d + 1)
            else none
    else
      some (.ret false)
  else
    some (.go ())
  partial_fixpoint

def F.spec_WorldValid (w : List Vl.Data) : Option (Bool) :=
  if 4 < w.length then
    some false
  else
    (F.spec_WorldValid_l1 w 0) >>= fun o'38 =>
    match o'38 with
    | .ret r040 => some r040
    | .go sx39 =>
      some true

def F.spec_l1Is (w : List Vl.Data) (t : Vl.Ty) : Option (Bool) :=
  (F.spec_l1Arg (w.length : Int) t) >>= fun v =>
  if v = true then
    some (decide (0 ≤ t.index))
  else
    some false

def F.spec_TypeValid (w : List Vl.Data) (t : Vl.Ty) : Option (Bool) :=
  (F.spec_WorldValid w) >>= fun v =>
  if v = true then
    (F.spec_l1Is w t) >>= fun v4 =>
    some v4
  else
    some false

def F.spec_l10Hole (v : Vl.Value) : Option (Bool) :=
  if v.ctor = (-2) then
    if v.n = 0 then
      some (decide (v.kids.length = 0))
    else
      some false
  else
    some false

def F.spec_l1Fits (c' : Vl.Ctor) (index' : Int) : Option (Bool) :=
  if c'.index = 0 then
    some true
  else
    if index' = 0 then
      some true
    else
      some (decide (c'.index = index'))

def F.spec_l1Ctors_l1 (w : List Vl.Data) (t : Vl.Ty) (out : List Int) (k : Nat) : Option (List Int) :=
  (at? w t.data) >>= fun x =>
  if k < x.ctors.length then
    (x.ctors[k]?) >>= fun x7 =>
    (F.spec_l1Fits x7 t.index) >>= fun v =>
    if v = true then
      if out.length + 1 ≤ 67108864 then
        if k + 1 ≤ 9223372036854775807 then
          F.spec_l1Ctors_l1 w t (out ++ [(k : Int)]) (k + 1)
        else none
      else none
    else
      if k + 1 ≤ 9223372036854775807 then
        F.spec_l1Ctors_l1 w t out (k + 1)
      else none
  else
    some out
  partial_fixpoint

def F.spec_l1Ctors (w : List Vl.Data) (t : Vl.Ty) : Option (List Int) :=
  if t.data = (-1) then
    some []
  else
    (F.spec_l1Ctors_l1 w t [] 0) >>= fun o' =>
    some o'

def F.spec_l1Has_l1 (list : List Int) (n : Int) (i : Nat) : Option (Lo Bool Unit) :=
  if i < list.length then
    (list[i]?) >>= fun x =>
    if x = n then
      some (.ret true)
    else
      F.spec_l1Has_l1 list n (i + 1)
  else
    some (.go ())
  partial_fixpoint

def F.spec_l1Has (list : List Int) (n : Int) : Option (Bool) :=
  (F.spec_l1Has_l1 list n 0) >>= fun o' =>
  match o' with
  | .ret r0 => some r0
  | .go sx =>
    some false

def F.spec_l1Result (c' : Vl.Ctor) (index' : Int) : Option (Int) :=
  if c'.index = 0 then
    some index'
  else
    some c'.index

def F.spec_l1Args_l1 (t : Vl.Ty) (x2 : Vl.Ctor) (out : List Vl.Ty) (i : Nat) : Option (List Vl.Ty) :=
  if i < x2.args.length then
    (x2.args[i]?) >>= fun x7 =>
    if x7.index = (-1) then
      (F.spec_l1Result x2 t.index) >>= fun v =>
      if out.length + 1 ≤ 67108864 then
        F.spec_l1Args_l1 t x2 (out ++ [(⟨x7.data, v⟩ : Vl.Ty)]) (i + 1)
      else none
    else
      if out.length + 1 ≤ 67108864 then
        F.spec_l1Args_l1 t x2 (out ++ [x7]) (i + 1)
      else none
  else
    some out
  partial_fixpoint

def F.spec_l1Args (w : List Vl.Data) (t : Vl.Ty) (ctor : Int) : Option (List Vl.Ty) :=
  (at? w t.data) >>= fun x =>
  (at? x.ctors ctor) >>= fun x2 =>
  (F.spec_l1Args_l1 t x2 [] 0) >>= fun o' =>
  some o'

mutual
def F.spec_l2Fits (w : List Vl.Data) (t : Vl.Ty) (v : Vl.Value) (depth : Int) : Option (Bool) :=
  if depth < 1 then
    some false
  else
    if t.data = (-1) then
      if v.ctor = (-1) then
        if 0 ≤ v.n then
          if v.n ≤ 9 then
            some (decide (v.kids.length = 0))
          else
            some false
        else
          some false
      else
        some false
    else
      if v.n = 0 then
        (F.spec_l1Ctors w t) >>= fun v13 =>
        (F.spec_l1Has v13 v.ctor) >>= fun v15 =>
        if v15 = true then
          (F.spec_l1Args w t v.ctor) >>= fun v19 =>
          if v.kids.length = v19.length then
            (F.spec_l2Fits_l1 w v depth v19 0) >>= fun o' =>
            match o' with
            | .ret r0 => some r0
            | .go sx =>
              some true
          else
            some false
        else
          some false
      else
        some false
  partial_fixpoint
def F.spec_l2Fits_l1 (w : List Vl.Data) (v : Vl.Value) (depth : Int) (v19 : List Vl.Ty) (i : Nat) : Option (Lo Bool Unit) :=
  if i < v19.length then
    (v19[i]?) >>= fun x =>
    (v.kids[i]?) >>= fun x28 =>
    (F.spec_l2Fits w x x28 (IntKind.i64.wrap (depth - 1))) >>= fun v30 =>
    if v30 = true then
      F.spec_l2Fits_l1 w v depth v19 (i + 1)
    else
      some (.ret false)
  else
    some (.go ())
  partial_fixpoint
end

mutual
def F.spec_l10Fits (w : List Vl.Data) (t : Vl.Ty) (v : Vl.Value) (depth : Int) : Option (Bool) :=
  if depth < 1 then
    some false
  else
    if v.ctor = (-2) then
      (F.spec_l10Hole v) >>= fun v5 =>
      some v5
    else
      if t.data = (-1) then
        (F.spec_l2Fits w t v depth) >>= fun v9 =>
        some v9
      else
        if v.n = 0 then
          (F.spec_l1Ctors w t) >>= fun v13 =>
          (F.spec_l1Has v13 v.ctor) >>= fun v15 =>
          if v15 = true then
            (F.spec_l1Args w t v.ctor) >>= fun v19 =>
            if v.kids.length = v19.length then
              (F.spec_l10Fits_l1 w v depth v19 0) >>= fun o' =>
              match o' with
              | .ret r0 => some r0
              | .go sx =>
                some true
            else
              some false
          else
            some false
        else
          some false
  partial_fixpoint
def F.spec_l10Fits_l1 (w : List Vl.Data) (v : Vl.Value) (depth : Int) (v19 : List Vl.Ty) (i : Nat) : Option (Lo Bool Unit) :=
  if i < v19.length then
    (v19[i]?) >>= fun x =>
    (v.kids[i]?) >>= fun x28 =>
    (F.spec_l10Fits w x x28 (IntKind.i64.wrap (depth - 1))) >>= fun v30 =>
    if v30 = true then
      F.spec_l10Fits_l1 w v depth v19 (i + 1)
    else
      some (.ret false)
  else
    some (.go ())
  partial_fixpoint
end

mutual
def F.spec_l2Count (v : Vl.Value) (most : Int) : Option (Int) :=
  (F.spec_l2Count_l1 v most (1 : Int) 0) >>= fun o' =>
  some o'
  partial_fixpoint
def F.spec_l2Count_l1 (v : Vl.Value) (most : Int) (n : Int) (i : Nat) : Option (Int) :=
  if i < v.kids.length then
    if n ≤ most then
      (v.kids[i]?) >>= fun x =>
      (F.spec_l2Count x (IntKind.i64.wrap (most - n))) >>= fun v7 =>
      F.spec_l2Count_l1 v most (IntKind.i64.wrap (n + v7)) (i + 1)
    else
      some n
  else
    some n
  partial_fixpoint
end

def F.spec_l10Is (w : List Vl.Data) (t : Vl.Ty) (v : Vl.Value) : Option (Bool) :=
  (F.spec_l10Fits w t v (10 : Int)) >>= fun v1 =>
  if v1 = true then
    (F.spec_l2Count v (60 : Int)) >>= fun v5 =>
    some (decide (v5 ≤ 60))
  else
    some false

def F.spec_PartialValid (w : List Vl.Data) (t : Vl.Ty) (v : Vl.Value) : Option (Bool) :=
  (F.spec_TypeValid w t) >>= fun v1 =>
  if v1 = true then
    (F.spec_l10Is w t v) >>= fun v5 =>
    some v5
  else
    some false

def F.spec_l7SamePath_l1 (a : List Int) (b : List Int) (i : Nat) : Option (Lo Bool Unit) :=
  if i < a.length then
    (a[i]?) >>= fun x =>
    (b[i]?) >>= fun x8 =>
    if x = x8 then
      F.spec_l7SamePath_l1 a b (i + 1)
    else
      some (.ret false)
  else
    some (.go ())
  partial_fixpoint

def F.spec_l7SamePath (a : List Int) (b : List Int) : Option (Bool) :=
  if a.length = b.length then
    (F.spec_l7SamePath_l1 a b 0) >>= fun o' =>
    match o' with
    | .ret r0 => some r0
    | .go sx =>
      some true
  else
    some false

def F.spec_l10Path_l1 (list : List (List Int)) (path : List Int) (i : Nat) : Option (Lo Bool Unit) :=
  if i < list.length then
    (list[i]?) >>= fun x =>
    (F.spec_l7SamePath x path) >>= fun v =>
    if v = true then
      some (.ret true)
    else
      F.spec_l10Path_l1 list path (i + 1)
  else
    some (.go ())
  partial_fixpoint

def F.spec_l10Path (list : List (List Int)) (path : List Int) : Option (Bool) :=
  (F.spec_l10Path_l1 list path 0) >>= fun o' =>
  match o' with
  | .ret r0 => some r0
  | .go sx =>
    some false

def F.spec_l7Path (path : List Int) (i : Int) : Option (List Int) :=
  if path.length ≤ 67108864 then
    if path.length + 1 ≤ 67108864 then
      some (path ++ [i])
    else none
  else none

mutual
def F.spec_l10Mask (v : Vl.Value) (paths : List (List Int)) (path : List Int) : Option (Vl.Value) :=
  (F.spec_l10Path paths path) >>= fun v1 =>
  if v1 = true then
    (F.spec_l10Mask_l1 v paths path [] 0) >>= fun o' =>
    some (⟨v.ctor, v.n, o'⟩ : Vl.Value)
  else
    some (⟨(-2 : Int), (0 : Int), []⟩ : Vl.Value)
  partial_fixpoint
def F.spec_l10Mask_l1 (v : Vl.Value) (paths : List (List Int)) (path : List Int) (out : List Vl.Value) (i : Nat) : Option (List Vl.Value) :=
  if i < v.kids.length then
    (v.kids[i]?) >>= fun x =>
    (F.spec_l7Path path (i : Int)) >>= fun v9 =>
    (F.spec_l10Mask x paths v9) >>= fun v11 =>
    if out.length + 1 ≤ 67108864 then
      F.spec_l10Mask_l1 v paths path (out ++ [v11]) (i + 1)
    else none
  else
    some out
  partial_fixpoint
end

def F.spec_MaskValue (w : List Vl.Data) (t : Vl.Ty) (v : Vl.Value) (paths : List (List Int)) : Option (Vl.Value × Bool) :=
  (F.spec_PartialValid w t v) >>= fun v1 =>
  if v1 = true then
    (F.spec_l10Mask v paths []) >>= fun v5 =>
    some (v5, true)
  else
    some ((⟨(0 : Int), (0 : Int), []⟩ : Vl.Value), false)

def F.impl_within (n : Int) (low : Int) (high : Int) : Option (Bool) :=
  if low ≤ n then
    some (decide (n ≤ high))
  else
    some false

def F.impl_NameValid_l1 (s : ByteArray) (i : Nat) : Option (Lo Bool Unit) :=
  if i < s.size then
    if byteAt s i < 97 then
      some (.ret false)
    else
      if 122 < byteAt s i then
        some (.ret false)
      else
        if i + 1 ≤ 9223372036854775807 then
          F.impl_NameValid_l1 s (i + 1)
        else none
  else
    some (.go ())
  partial_fixpoint

def F.impl_NameValid (s : ByteArray) : Option (Bool) :=
  (F.impl_within (s.size : Int) (1 : Int) (5 : Int)) >>= fun v =>
  if v = true then
    if 0 < s.size then
      if byteAt s 0 < 65 then
        some false
      else
        if 90 < byteAt s 0 then
          some false
        else
          (F.impl_NameValid_l1 s 1) >>= fun o' =>
          match o' with
          | .ret r0 => some r0
          | .go sx =>
            some true
    else none
  else
    some false

def F.impl_argOk (w : List Vl.Data) (t : Vl.Ty) : Option (Bool) :=
  if dec (eq2 (t.data, t.index) ((-1), 0)) = true then
    some true
  else
    (F.impl_within t.data (0 : Int) (IntKind.i64.wrap ((w.length : Int) - 1))) >>= fun v =>
    if v = true then
      (F.impl_within t.index (-1 : Int) (3 : Int)) >>= fun v6 =>
      some v6
    else
      some false

def F.impl_ctorOk_1 (t : Vl.Ty) (a1 : List Vl.Data) : Option (Bool) :=
  (F.impl_argOk a1 t) >>= fun v =>
  some (!v)

def F.slices_IndexFunc_Type__impl_ctorOk_1_l1 (s : List Vl.Ty) (k0 : List Vl.Data) (i : Nat) : Option (Lo Int Unit) :=
  if i < s.length then
    (s[i]?) >>= fun x =>
    (F.impl_ctorOk_1 x k0) >>= fun v =>
    if v = true then
      some (.ret (i : Int))
    else
      F.slices_IndexFunc_Type__impl_ctorOk_1_l1 s k0 (i + 1)
  else
    some (.go ())
  partial_fixpoint

def F.slices_IndexFunc_Type__impl_ctorOk_1 (s : List Vl.Ty) (k0 : List Vl.Data) : Option (Int) :=
  (F.slices_IndexFunc_Type__impl_ctorOk_1_l1 s k0 0) >>= fun o' =>
  match o' with
  | .ret r0 => some r0
  | .go sx =>
    some (-1 : Int)

def F.slices_ContainsFunc_Type__impl_ctorOk_1 (s : List Vl.Ty) (k0 : List Vl.Data) : Option (Bool) :=
  (F.slices_IndexFunc_Type__impl_ctorOk_1 s k0) >>= fun v =>
  some (decide (0 ≤ v))

def F.impl_ctorOk (w : List Vl.Data) (c' : Vl.Ctor) : Option (Bool) :=
  (F.impl_NameValid c'.name) >>= fun v =>
  if v = true then
    if c'.args.length ≤ 3 then
      (F.impl_within c'.index (0 : Int) (3 : Int)) >>= fun v7 =>
      if v7 = true then
        (F.slices_ContainsFunc_Type__impl_ctorOk_1 c'.args w) >>= fun v11 =>
        some (!v11)
      else
        some false
    else
      some false
  else
    some false

def F.impl_WorldValid_l2 (w : List Vl.Data) (met4 : List ByteArray) (i : Nat) (x : Vl.Data) (met26 : List ByteArray) (i27 : Nat) : Option (Lo Bool (List ByteArray)) :=
  if i27 < x.ctors.length then
    (x.ctors[i27]?) >>= fun x31 =>
    (F.impl_ctorOk w x31) >>= fun v33 =>
    if v33 = true then
      if dec (x31.name ∈ met26) = true then
        some (.ret false)
      else
        F.impl_WorldValid_l2 w met4 i x (msIns met26 x31.name) (i27 + 1)
    else
      some (.ret false)
  else
    some (.go met26)
  partial_fixpoint

def F.impl_WorldValid_l1 (w : List Vl.Data) (met : List ByteArray) (met4 : List ByteArray) (i : Nat) : Option (Lo Bool ((List ByteArray) × (List ByteArray))) :=
  if i < w.length then
    (w[i]?) >>= fun x =>
    if x.name.size = 1 then
      if 0 < x.name.size then
        if byteAt x.name 0 < 65 then
          some (.ret false)
        else
          if 90 < byteAt x.name 0 then
            some (.ret false)
          else
            if x.name.toList = (⟨#[73]⟩ : ByteArray).toList then
              some (.ret false)
            else
              if dec (x.name ∈ met4) = true then
                some (.ret false)
              else
                (F.impl_within (x.ctors.length : Int) (1 : Int) (4 : Int)) >>= fun v =>
                if v = true then
                  (F.impl_WorldValid_l2 w met4 i x met 0) >>= fun o' =>
                  match o' with
                  | .ret r0 => some (.ret r0)
                  | .go sx =>
                    if i + 1 ≤ 9223372036854775807 then
                      F.impl_WorldValid_l1 w sx (msIns met4 x.name) (i + 1)
                    else none
                else
                  some (.ret false)
      else none
    else
      some (.ret false)
  else
    some (.go (met, met4))
  partial_fixpoint

def F.impl_WorldValid (w : List Vl.Data) : Option (Bool) :=
  if 4 < w.length then
    some false
  else
    (F.impl_WorldValid_l1 w [] [] 0) >>= fun o'44 =>
    match o'44 with
    | .ret r046 => some r046
    | .go sx45 =>
      some true

def F.impl_typeOk (w : List Vl.Data) (t : Vl.Ty) : Option (Bool) :=
  if dec (eq2 (t.data, t.index) ((-1), 0)) = true then
    some true
  else
    (F.impl_within t.data (0 : Int) (IntKind.i64.wrap ((w.length : Int) - 1))) >>= fun v =>
    if v = true then
      (F.impl_within t.index (0 : Int) (3 : Int)) >>= fun v6 =>
      some v6
    else
      some false

def F.impl_TypeValid (w : List Vl.Data) (t : Vl.Ty) : Option (Bool) :=
  (F.impl_WorldValid w) >>= fun v =>
  if v = true then
    (F.impl_typeOk w t) >>= fun v4 =>
    some v4
  else
    some false

def F.impl_ctorsOf_l1 (t : Vl.Ty) (x : Vl.Data) (i : Nat) (out : List Int) : Option (List Int) :=
  if i < x.ctors.length then
    (x.ctors[i]?) >>= fun x7 =>
    if t.index = 0 then
      if out.length + 1 ≤ 67108864 then
        F.impl_ctorsOf_l1 t x (i + 1) (out ++ [(i : Int)])
      else none
    else
      if x7.index = 0 then
        if out.length + 1 ≤ 67108864 then
          F.impl_ctorsOf_l1 t x (i + 1) (out ++ [(i : Int)])
        else none
      else
        if x7.index = t.index then
          if out.length + 1 ≤ 67108864 then
            F.impl_ctorsOf_l1 t x (i + 1) (out ++ [(i : Int)])
          else none
        else
          F.impl_ctorsOf_l1 t x (i + 1) out
  else
    some out
  partial_fixpoint

def F.impl_ctorsOf (w : List Vl.Data) (t : Vl.Ty) : Option (List Int) :=
  if t.data = (-1) then
    some []
  else
    (at? w t.data) >>= fun x =>
    (F.impl_ctorsOf_l1 t x 0 []) >>= fun o' =>
    some o'

def F.slices_Index_int_l1 (s : List Int) (v : Int) (i : Nat) : Option (Lo Int Unit) :=
  if i < s.length then
    (s[i]?) >>= fun x =>
    if v = x then
      some (.ret (i : Int))
    else
      F.slices_Index_int_l1 s v (i + 1)
  else
    some (.go ())
  partial_fixpoint

def F.slices_Index_int (s : List Int) (v : Int) : Option (Int) :=
  (F.slices_Index_int_l1 s v 0) >>= fun o' =>
  match o' with
  | .ret r0 => some r0
  | .go sx =>
    some (-1 : Int)

def F.slices_Contains_int (s : List Int) (v : Int) : Option (Bool) :=
  (F.slices_Index_int s v) >>= fun v1 =>
  some (decide (0 ≤ v1))

def F.impl_argTypes_l1 (t : Vl.Ty) (x2 : Vl.Ctor) (i : Nat) (out : List Vl.Ty) : Option (List Vl.Ty) :=
  if i < x2.args.length then
    (x2.args[i]?) >>= fun x9 =>
    if x9.index = (-1) then
      if out.length + 1 ≤ 67108864 then
        F.impl_argTypes_l1 t x2 (i + 1) (out ++ [(⟨x9.data, t.index⟩ : Vl.Ty)])
      else none
    else
      if out.length + 1 ≤ 67108864 then
        F.impl_argTypes_l1 t x2 (i + 1) (out ++ [x9])
      else none
  else
    some out
  partial_fixpoint

def F.impl_argTypes_l2 (x2 : Vl.Ctor) (i18 : Nat) (out19 : List Vl.Ty) : Option (List Vl.Ty) :=
  if i18 < x2.args.length then
    (x2.args[i18]?) >>= fun x23 =>
    if x23.index = (-1) then
      if out19.length + 1 ≤ 67108864 then
        F.impl_argTypes_l2 x2 (i18 + 1) (out19 ++ [(⟨x23.data, x2.index⟩ : Vl.Ty)])
      else none
    else
      if out19.length + 1 ≤ 67108864 then
        F.impl_argTypes_l2 x2 (i18 + 1) (out19 ++ [x23])
      else none
  else
    some out19
  partial_fixpoint

def F.impl_argTypes (w : List Vl.Data) (t : Vl.Ty) (ctor : Int) : Option (List Vl.Ty) :=
  (at? w t.data) >>= fun x =>
  (at? x.ctors ctor) >>= fun x2 =>
  if x2.index = 0 then
    (F.impl_argTypes_l1 t x2 0 []) >>= fun o' =>
    some o'
  else
    (F.impl_argTypes_l2 x2 0 []) >>= fun o'32 =>
    some o'32

mutual
def F.impl_valueScan (w : List Vl.Data) (t : Vl.Ty) (v : Vl.Value) (deep : Int) (holes : Bool) (count : Int) : Option (Bool × Int) :=
  if 60 < IntKind.i64.wrap (count + 1) then
    some (false, IntKind.i64.wrap (count + 1))
  else
    if 10 < deep then
      some (false, IntKind.i64.wrap (count + 1))
    else
      if holes = true then
        if v.ctor = (-2) then
          if v.n = 0 then
            some (decide (v.kids.length = 0), IntKind.i64.wrap (count + 1))
          else
            some (false, IntKind.i64.wrap (count + 1))
        else
          if t.data = (-1) then
            if v.ctor = (-1) then
              (F.impl_within v.n (0 : Int) (9 : Int)) >>= fun v15 =>
              if v15 = true then
                some (decide (v.kids.length = 0), IntKind.i64.wrap (count + 1))
              else
                some (false, IntKind.i64.wrap (count + 1))
            else
              some (false, IntKind.i64.wrap (count + 1))
          else
            if v.n = 0 then
              (F.impl_ctorsOf w t) >>= fun v21 =>
              (F.slices_Contains_int v21 v.ctor) >>= fun v23 =>
              if v23 = true then
                (F.impl_argTypes w t v.ctor) >>= fun v27 =>
                if v27.length = v.kids.length then
                  (F.impl_valueScan_l1 w v deep holes v27 (IntKind.i64.wrap (count + 1)) 0) >>= fun o' =>
                  match o' with
                  | .ret r0 => some r0
                  | .go sx =>
                    some (true, sx)
                else
                  some (false, IntKind.i64.wrap (count + 1))
              else
                some (false, IntKind.i64.wrap (count + 1))
            else
              some (false, IntKind.i64.wrap (count + 1))
      else
        if t.data = (-1) then
          if v.ctor = (-1) then
            (F.impl_within v.n (0 : Int) (9 : Int)) >>= fun v48 =>
            if v48 = true then
              some (decide (v.kids.length = 0), IntKind.i64.wrap (count + 1))
            else
              some (false, IntKind.i64.wrap (count + 1))
          else
            some (false, IntKind.i64.wrap (count + 1))
        else
          if v.n = 0 then
            (F.impl_ctorsOf w t) >>= fun v54 =>
            (F.slices_Contains_int v54 v.ctor) >>= fun v56 =>
            if v56 = true then
              (F.impl_argTypes w t v.ctor) >>= fun v60 =>
              if v60.length = v.kids.length then
                (F.impl_valueScan_l2 w v deep holes v60 (IntKind.i64.wrap (count + 1)) 0) >>= fun o'80 =>
                match o'80 with
                | .ret r082 => some r082
                | .go sx81 =>
                  some (true, sx81)
              else
                some (false, IntKind.i64.wrap (count + 1))
            else
              some (false, IntKind.i64.wrap (count + 1))
          else
            some (false, IntKind.i64.wrap (count + 1))
  partial_fixpoint
def F.impl_valueScan_l1 (w : List Vl.Data) (v : Vl.Value) (deep : Int) (holes : Bool) (v27 : List Vl.Ty) (z : Int) (i : Nat) : Option (Lo (Bool × Int) Int) :=
  if i < v.kids.length then
    (v.kids[i]?) >>= fun x =>
    (v27[i]?) >>= fun x36 =>
    (F.impl_valueScan w x36 x (IntKind.i64.wrap (deep + 1)) holes z) >>= fun v38 =>
    if v38.1 = true then
      F.impl_valueScan_l1 w v deep holes v27 v38.2 (i + 1)
    else
      some (.ret (false, v38.2))
  else
    some (.go z)
  partial_fixpoint
def F.impl_valueScan_l2 (w : List Vl.Data) (v : Vl.Value) (deep : Int) (holes : Bool) (v60 : List Vl.Ty) (z65 : Int) (i66 : Nat) : Option (Lo (Bool × Int) Int) :=
  if i66 < v.kids.length then
    (v.kids[i66]?) >>= fun x70 =>
    (v60[i66]?) >>= fun x72 =>
    (F.impl_valueScan w x72 x70 (IntKind.i64.wrap (deep + 1)) holes z65) >>= fun v74 =>
    if v74.1 = true then
      F.impl_valueScan_l2 w v deep holes v60 v74.2 (i66 + 1)
    else
      some (.ret (false, v74.2))
  else
    some (.go z65)
  partial_fixpoint
end

def F.impl_PartialValid (w : List Vl.Data) (t : Vl.Ty) (v : Vl.Value) : Option (Bool) :=
  (F.impl_TypeValid w t) >>= fun v1 =>
  if v1 = true then
    (F.impl_valueScan w t v (1 : Int) true (0 : Int)) >>= fun v5 =>
    some v5.1
  else
    some false

def F.slices_Equal_int_l1 (s1 : List Int) (s2 : List Int) (i : Nat) : Option (Lo Bool Unit) :=
  if i < s1.length then
    (s1[i]?) >>= fun x =>
    (s2[i]?) >>= fun x8 =>
    if x = x8 then
      F.slices_Equal_int_l1 s1 s2 (i + 1)
    else
      some (.ret false)
  else
    some (.go ())
  partial_fixpoint

def F.slices_Equal_int (s1 : List Int) (s2 : List Int) : Option (Bool) :=
  if s1.length = s2.length then
    (F.slices_Equal_int_l1 s1 s2 0) >>= fun o' =>
    match o' with
    | .ret r0 => some r0
    | .go sx =>
      some true
  else
    some false

def F.impl_hasPath_1 (p : List Int) (a1 : List Int) : Option (Bool) :=
  (F.slices_Equal_int p a1) >>= fun v =>
  some v

def F.slices_IndexFunc__int__impl_hasPath_1_l1 (s : List (List Int)) (k0 : List Int) (i : Nat) : Option (Lo Int Unit) :=
  if i < s.length then
    (s[i]?) >>= fun x =>
    (F.impl_hasPath_1 x k0) >>= fun v =>
    if v = true then
      some (.ret (i : Int))
    else
      F.slices_IndexFunc__int__impl_hasPath_1_l1 s k0 (i + 1)
  else
    some (.go ())
  partial_fixpoint

def F.slices_IndexFunc__int__impl_hasPath_1 (s : List (List Int)) (k0 : List Int) : Option (Int) :=
  (F.slices_IndexFunc__int__impl_hasPath_1_l1 s k0 0) >>= fun o' =>
  match o' with
  | .ret r0 => some r0
  | .go sx =>
    some (-1 : Int)

def F.slices_ContainsFunc__int__impl_hasPath_1 (s : List (List Int)) (k0 : List Int) : Option (Bool) :=
  (F.slices_IndexFunc__int__impl_hasPath_1 s k0) >>= fun v =>
  some (decide (0 ≤ v))

def F.impl_hasPath (list : List (List Int)) (path : List Int) : Option (Bool) :=
  (F.slices_ContainsFunc__int__impl_hasPath_1 list path) >>= fun v =>
  some v

def F.impl_hole  : Option (Vl.Value) :=
  some (⟨(-2 : Int), (0 : Int), []⟩ : Vl.Value)

def F.slices_Clone_int (s : List Int) : Option (List Int) :=
  if s.length ≤ 67108864 then
    some s
  else none

mutual
def F.impl_mask (v : Vl.Value) (path : List Int) (paths : List (List Int)) : Option (Vl.Value) :=
  (F.impl_hasPath paths path) >>= fun v1 =>
  if v1 = true then
    (F.impl_mask_l1 v path paths [] 0) >>= fun o' =>
    some (⟨v.ctor, v.n, o'⟩ : Vl.Value)
  else
    (F.impl_hole) >>= fun v5 =>
    some v5
  partial_fixpoint
def F.impl_mask_l1 (v : Vl.Value) (path : List Int) (paths : List (List Int)) (out : List Vl.Value) (i : Nat) : Option (List Vl.Value) :=
  if i < v.kids.length then
    (v.kids[i]?) >>= fun x =>
    (F.slices_Clone_int path) >>= fun v13 =>
    if v13.length + 1 ≤ 67108864 then
      (F.impl_mask x (v13 ++ [(i : Int)]) paths) >>= fun v16 =>
      if out.length + 1 ≤ 67108864 then
        F.impl_mask_l1 v path paths (out ++ [v16]) (i + 1)
      else none
    else none
  else
    some out
  partial_fixpoint
end

def F.impl_MaskValue (w : List Vl.Data) (t : Vl.Ty) (v : Vl.Value) (paths : List (List Int)) : Option (Vl.Value × Bool) :=
  (F.impl_PartialValid w t v) >>= fun v1 =>
  if v1 = true then
    (F.impl_mask v [] paths) >>= fun v5 =>
    some (v5, true)
  else
    some ((⟨(0 : Int), (0 : Int), []⟩ : Vl.Value), false)

mutual
def F.laws_eqValue (a : Vl.Value) (b : Vl.Value) : Option (Bool) :=
  if a.ctor = b.ctor then
    if a.n = b.n then
      (F.laws_eqValueS a.kids b.kids) >>= fun v =>
      if v = true then
        some true
      else
        some false
    else
      some false
  else
    some false
  partial_fixpoint
def F.laws_eqValueS (a : List Vl.Value) (b : List Vl.Value) : Option (Bool) :=
  if a.length = b.length then
    (F.laws_eqValueS_l1 a b 0) >>= fun o' =>
    match o' with
    | .ret r0 => some r0
    | .go sx =>
      some true
  else
    some false
  partial_fixpoint
def F.laws_eqValueS_l1 (a : List Vl.Value) (b : List Vl.Value) (i : Nat) : Option (Lo Bool Unit) :=
  if i < a.length then
    (a[i]?) >>= fun x =>
    (b[i]?) >>= fun x8 =>
    (F.laws_eqValue x x8) >>= fun v =>
    if v = true then
      F.laws_eqValueS_l1 a b (i + 1)
    else
      some (.ret false)
  else
    some (.go ())
  partial_fixpoint
end

def F.laws_eqType (a : Vl.Ty) (b : Vl.Ty) : Option (Bool) :=
  if a.data = b.data then
    if a.index = b.index then
      some true
    else
      some false
  else
    some false

def F.laws_eqTypeS_l1 (a : List Vl.Ty) (b : List Vl.Ty) (i : Nat) : Option (Lo Bool Unit) :=
  if i < a.length then
    (a[i]?) >>= fun x =>
    (b[i]?) >>= fun x8 =>
    (F.laws_eqType x x8) >>= fun v =>
    if v = true then
      F.laws_eqTypeS_l1 a b (i + 1)
    else
      some (.ret false)
  else
    some (.go ())
  partial_fixpoint

def F.laws_eqTypeS (a : List Vl.Ty) (b : List Vl.Ty) : Option (Bool) :=
  if a.length = b.length then
    (F.laws_eqTypeS_l1 a b 0) >>= fun o' =>
    match o' with
    | .ret r0 => some r0
    | .go sx =>
      some true
  else
    some false

def F.laws_eqCtor (a : Vl.Ctor) (b : Vl.Ctor) : Option (Bool) :=
  if a.name.toList = b.name.toList then
    (F.laws_eqTypeS a.args b.args) >>= fun v =>
    if v = true then
      if a.index = b.index then
        some true
      else
        some false
    else
      some false
  else
    some false

def F.laws_eqCtorS_l1 (a : List Vl.Ctor) (b : List Vl.Ctor) (i : Nat) : Option (Lo Bool Unit) :=
  if i < a.length then
    (a[i]?) >>= fun x =>
    (b[i]?) >>= fun x8 =>
    (F.laws_eqCtor x x8) >>= fun v =>
    if v = true then
      F.laws_eqCtorS_l1 a b (i + 1)
    else
      some (.ret false)
  else
    some (.go ())
  partial_fixpoint

def F.laws_eqCtorS (a : List Vl.Ctor) (b : List Vl.Ctor) : Option (Bool) :=
  if a.length = b.length then
    (F.laws_eqCtorS_l1 a b 0) >>= fun o' =>
    match o' with
    | .ret r0 => some r0
    | .go sx =>
      some true
  else
    some false

def F.laws_eqData (a : Vl.Data) (b : Vl.Data) : Option (Bool) :=
  if a.name.toList = b.name.toList then
    (F.laws_eqCtorS a.ctors b.ctors) >>= fun v =>
    if v = true then
      some true
    else
      some false
  else
    some false

def F.laws_eqDataS_l1 (a : List Vl.Data) (b : List Vl.Data) (i : Nat) : Option (Lo Bool Unit) :=
  if i < a.length then
    (a[i]?) >>= fun x =>
    (b[i]?) >>= fun x8 =>
    (F.laws_eqData x x8) >>= fun v =>
    if v = true then
      F.laws_eqDataS_l1 a b (i + 1)
    else
      some (.ret false)
  else
    some (.go ())
  partial_fixpoint

def F.laws_eqDataS (a : List Vl.Data) (b : List Vl.Data) : Option (Bool) :=
  if a.length = b.length then
    (F.laws_eqDataS_l1 a b 0) >>= fun o' =>
    match o' with
    | .ret r0 => some r0
    | .go sx =>
      some true
  else
    some false

def F.laws_eqIntS_l1 (a : List Int) (b : List Int) (i : Nat) : Option (Lo Bool Unit) :=
  if i < a.length then
    (a[i]?) >>= fun x =>
    (b[i]?) >>= fun x8 =>
    if x = x8 then
      F.laws_eqIntS_l1 a b (i + 1)
    else
      some (.ret false)
  else
    some (.go ())
  partial_fixpoint

def F.laws_eqIntS (a : List Int) (b : List Int) : Option (Bool) :=
  if a.length = b.length then
    (F.laws_eqIntS_l1 a b 0) >>= fun o' =>
    match o' with
    | .ret r0 => some r0
    | .go sx =>
      some true
  else
    some false

def F.laws_eqIntSS_l1 (a : List (List Int)) (b : List (List Int)) (i : Nat) : Option (Lo Bool Unit) :=
  if i < a.length then
    (a[i]?) >>= fun x =>
    (b[i]?) >>= fun x8 =>
    (F.laws_eqIntS x x8) >>= fun v =>
    if v = true then
      F.laws_eqIntSS_l1 a b (i + 1)
    else
      some (.ret false)
  else
    some (.go ())
  partial_fixpoint

def F.laws_eqIntSS (a : List (List Int)) (b : List (List Int)) : Option (Bool) :=
  if a.length = b.length then
    (F.laws_eqIntSS_l1 a b 0) >>= fun o' =>
    match o' with
    | .ret r0 => some r0
    | .go sx =>
      some true
  else
    some false

mutual
def F.laws_heldValueS (a : List Vl.Value) (k : Int) : Option (Int) :=
  (F.laws_heldValueS_l1 a k 0) >>= fun o' =>
  match o' with
  | .ret r0 => some r0
  | .go sx =>
    some sx
  partial_fixpoint
def F.laws_heldValueS_l1 (a : List Vl.Value) (k1 : Int) (i : Nat) : Option (Lo Int Int) :=
  if i < a.length then
    (a[i]?) >>= fun x =>
    if x.ctor = k1 then
      if x.n = IntKind.i64.wrap (k1 + 1) then
        (F.laws_heldValueS x.kids (IntKind.i64.wrap (IntKind.i64.wrap (k1 + 1) + 1))) >>= fun v =>
        if v < 0 then
          some (.ret (-1 : Int))
        else
          F.laws_heldValueS_l1 a v (i + 1)
      else
        some (.ret (-1 : Int))
    else
      some (.ret (-1 : Int))
  else
    some (.go k1)
  partial_fixpoint
end

def F.laws_heldValue (a : Vl.Value) (k : Int) : Option (Int) :=
  (F.laws_heldValueS a.kids k) >>= fun v =>
  if v < 0 then
    some (-1 : Int)
  else
    some v

theorem F.markText_run : ∀ (f : Nat) (k : Int) (out : ByteArray), k < (10 : Int) ^ f → k ≤ 9223372036854775807 → out.size + f ≤ 9223372036854775807 → ∃ r, F.laws_markText_l1 k out = some r ∧ r.size ≤ out.size + f
  | 0, k, out, h1, h2, h3 => ⟨out, by rw [F.laws_markText_l1, if_neg (by simp at h1; omega)], by omega⟩
  | f + 1, k, out, h1, h2, h3 => by
    rw [F.laws_markText_l1]
    by_cases h : 0 < k
    · rw [if_pos h]
      have e1 : ∀ n : Int, (strB [n]).size = 1 := fun n => rfl
      have e2 : k.tdiv 10 = k / 10 := Int.tdiv_eq_ediv_of_nonneg (by omega)
      rw [e2, show IntKind.i64.wrap (k / 10) = k / 10 from wrap_in (by omega) (by omega), if_pos (by rw [e1]; omega)]
      obtain ⟨r, q1, q2⟩ := F.markText_run f (k / 10) (strB [IntKind.u8.wrap (IntKind.i64.wrap (48 + k.tmod 10))] ++ out) (by rw [Int.pow_succ] at h1; omega) (by omega) (by rw [ByteArray.size_append, e1]; omega)
      exact ⟨r, q1, by rw [ByteArray.size_append, e1] at q2; omega⟩
    · rw [if_neg h]; exact ⟨out, rfl, by omega⟩
theorem F.markText_ex (k : Int) : ∃ r, F.laws_markText k = some r := by
  have e1 : ByteArray.size ⟨#[109]⟩ = 1 := rfl
  have e2 : ByteArray.empty.size = 0 := rfl
  have e3 : ∀ n : Int, (strB [n]).size = 1 := fun n => rfl
  have key : ∃ r, F.laws_markText_l1 k ByteArray.empty = some r ∧ r.size ≤ 20 := by
    by_cases h : k ≤ 9223372036854775807
    · obtain ⟨r, q1, q2⟩ := F.markText_run 19 k ByteArray.empty (by omega) h (by decide)
      exact ⟨r, q1, by omega⟩
    · rw [F.laws_markText_l1, if_pos (by omega), if_pos (by rw [e3]; omega)]
      have hw : IntKind.i64.wrap (k.tdiv 10) ≤ 9223372036854775807 := by
        simp only [IntKind.wrap, IntKind.bits, IntKind.signed]; simp; omega
      obtain ⟨r, q1, q2⟩ := F.markText_run 19 (IntKind.i64.wrap (k.tdiv 10)) (strB [IntKind.u8.wrap (IntKind.i64.wrap (48 + k.tmod 10))] ++ ByteArray.empty) (by omega) hw (by rw [ByteArray.size_append, e3]; omega)
      exact ⟨r, q1, by rw [ByteArray.size_append, e3] at q2; omega⟩
  unfold F.laws_markText
  split
  · exact ⟨_, rfl⟩
  · obtain ⟨r, q1, q2⟩ := key
    rw [q1]
    simp only [Option.bind_eq_bind, Option.bind_some]
    rw [if_pos (by rw [e1]; omega)]
    exact ⟨_, rfl⟩
def mtF (k : Int) : ByteArray := (F.markText_ex k).choose
theorem mtF_eq (k : Int) : F.laws_markText k = some (mtF k) := (F.markText_ex k).choose_spec

def F.laws_markValueS (a : List Vl.Value) (k : Int) : Option (List Vl.Value × Int) := some (Vl.Value.mkL a k)

def F.laws_markIntS (a : List Int) (k : Int) : Option (List Int × Int) := some (mkI a k)

def F.laws_markIntSS (a : List (List Int)) (k : Int) : Option (List (List Int) × Int) := some (mkII a k)

def F.laws_markTypeS (a : List Vl.Ty) (k : Int) : Option (List Vl.Ty × Int) := some (Vl.Ty.mkL a k)

def F.laws_markCtorS (a : List Vl.Ctor) (k : Int) : Option (List Vl.Ctor × Int) := some (Vl.Ctor.mkL mtF a k)

def F.laws_markDataS (a : List Vl.Data) (k : Int) : Option (List Vl.Data × Int) := some (Vl.Data.mkL mtF a k)

def F.laws_FnExactMaskValue (aW : List Vl.Data) (aT : Vl.Ty) (aV : Vl.Value) (aPaths : List (List Int)) : Option (Bool) :=
  (F.laws_szDataS aW (1048576 : Int)) >>= fun v =>
  if v < 0 then
    some true
  else
    (F.laws_szValue aV v) >>= fun v4 =>
    if v4 < 0 then
      some true
    else
      (F.laws_szIntSS aPaths v4) >>= fun v8 =>
      if v8 < 0 then
        some true
      else
        (F.laws_toDataS aW) >>= fun v12 =>
        (F.laws_toType aT) >>= fun v14 =>
        (F.laws_toValue aV) >>= fun v16 =>
        (F.laws_toIntSS aPaths) >>= fun v18 =>
        (F.spec_MaskValue v12 v14 v16 v18) >>= fun v20 =>
        (F.laws_toDataS aW) >>= fun v22 =>
        (F.laws_toValue aV) >>= fun v24 =>
        (F.laws_toIntSS aPaths) >>= fun v27 =>
        (F.laws_toType aT) >>= fun v30 =>
        (F.impl_MaskValue v22 v30 v24 v27) >>= fun v32 =>
        (F.laws_eqValue v32.1 v20.1) >>= fun v35 =>
        if v35 = true then
          if v32.2 = v20.2 then
            (F.laws_toDataS aW) >>= fun v41 =>
            (F.laws_eqDataS v22 v41) >>= fun v43 =>
            if v43 = true then
              (F.laws_toValue aV) >>= fun v47 =>
              (F.laws_eqValue v24 v47) >>= fun v49 =>
              if v49 = true then
                (F.laws_toIntSS aPaths) >>= fun v53 =>
                (F.laws_eqIntSS v27 v53) >>= fun v55 =>
                if v55 = true then
                  (F.laws_markDataS v22 1) >>= fun v59 =>
                  (F.laws_markValueS v24.kids v59.2) >>= fun v61 =>
                  (F.laws_markIntSS v27 v61.2) >>= fun v63 =>
                  if v63.2 < 0 then
                    some false
                  else
                    (F.laws_eqValue v32.1 v20.1) >>= fun v67 =>
                    if v67 = true then
                      (F.laws_markValueS v32.1.kids 1) >>= fun v71 =>
                      (F.laws_heldValue (⟨v32.1.ctor, v32.1.n, v71.1⟩ : Vl.Value) (1 : Int)) >>= fun v73 =>
                      if v73 < 0 then
                        some false
                      else
                        if v73 = v71.2 then
                          (F.laws_toDataS aW) >>= fun v79 =>
                          (F.laws_toType aT) >>= fun v81 =>
                          (F.laws_toValue aV) >>= fun v83 =>
                          (F.laws_toIntSS aPaths) >>= fun v85 =>
                          (F.impl_MaskValue v79 v81 v83 v85) >>= fun v87 =>
                          (F.laws_eqValue v87.1 v20.1) >>= fun v90 =>
                          if v90 = true then
                            if v87.2 = v20.2 then
                              (F.laws_heldValue (⟨v32.1.ctor, v32.1.n, v71.1⟩ : Vl.Value) (1 : Int)) >>= fun v96 =>
                              if v96 < 0 then
                                some false
                              else
                                if v96 = v71.2 then
                                  some true
                                else
                                  some false
                            else
                              some false
                          else
                            some false
                        else
                          some false
                    else
                      some false
                else
                  some false
              else
                some false
            else
              some false
          else
            some false
        else
          some false
end
end Go.Vl
