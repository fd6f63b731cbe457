/- The functions of the program as Lean functions (printed by gen.py). -/
import Derived.Test.YtoacjahdkkdffaaVlG
import Derived.Test.YtoacjahdkkdffaaVlMap2
set_option linter.unusedVariables false
set_option linter.unusedSimpArgs false
set_option linter.unusedVariables false
namespace Go.Vl
open Go
noncomputable section

def F.laws_szTypeS (a : List Vl.Ty) (left' : Int) : Option (Int) :=
  if IntKind.i64.wrap (left' - (a.length : Int)) < 0 then
    some (-1 : Int)
  else
    some (IntKind.i64.wrap (left' - (a.length : Int)))

def F.laws_szCtor (a : Vl.Ctor) (left' : Int) : Option (Int) :=
  if IntKind.i64.wrap (left' - (a.name.size : Int)) < 0 then
    some (-1 : Int)
  else
    (F.laws_szTypeS a.args (IntKind.i64.wrap (left' - (a.name.size : Int)))) >>= fun v =>
    if v < 0 then
      some (-1 : Int)
    else
      some v

def F.laws_szCtorS_l1 (a : List Vl.Ctor) (left'3 : Int) (i : Nat) : Option (Lo Int Int) :=
  if i < a.length then
    (a[i]?) >>= fun x =>
    (F.laws_szCtor x left'3) >>= fun v =>
    if v < 0 then
      some (.ret (-1 : Int))
    else
      F.laws_szCtorS_l1 a v (i + 1)
  else
    some (.go left'3)
  partial_fixpoint

def F.laws_szCtorS (a : List Vl.Ctor) (left' : Int) : Option (Int) :=
  if IntKind.i64.wrap (left' - (a.length : Int)) < 0 then
    some (-1 : Int)
  else
    (F.laws_szCtorS_l1 a (IntKind.i64.wrap (left' - (a.length : Int))) 0) >>= fun o =>
    match o with
    | .ret r0 => some r0
    | .go s =>
      some s

def F.laws_szData (a : Vl.Data) (left' : Int) : Option (Int) :=
  if IntKind.i64.wrap (left' - (a.name.size : Int)) < 0 then
    some (-1 : Int)
  else
    (F.laws_szCtorS a.ctors (IntKind.i64.wrap (left' - (a.name.size : Int)))) >>= fun v =>
    if v < 0 then
      some (-1 : Int)
    else
      some v

def F.laws_szDataS_l1 (a : List Vl.Data) (left'3 : Int) (i : Nat) : Option (Lo Int Int) :=
  if i < a.length then
    (a[i]?) >>= fun x =>
    (F.laws_szData x left'3) >>= fun v =>
    if v < 0 then
      some (.ret (-1 : Int))
    else
      F.laws_szDataS_l1 a v (i + 1)
  else
    some (.go left'3)
  partial_fixpoint

def F.laws_szDataS (a : List Vl.Data) (left' : Int) : Option (Int) :=
  if IntKind.i64.wrap (left' - (a.length : Int)) < 0 then
    some (-1 : Int)
  else
    (F.laws_szDataS_l1 a (IntKind.i64.wrap (left' - (a.length : Int))) 0) >>= fun o =>
    match o with
    | .ret r0 => some r0
    | .go s =>
      some s

def F.laws_toType (a : Vl.Ty) : Option (Vl.Ty) :=
  some a

def F.laws_toTypeS_l1 (a : List Vl.Ty) (out : List Vl.Ty) (i : Nat) : Option (List Vl.Ty) :=
  if i < a.length then
    (a[i]?) >>= fun x =>
    (F.laws_toType x) >>= fun v =>
    (out[i]?) >>= fun x7 =>
    F.laws_toTypeS_l1 a (out.set i v) (i + 1)
  else
    some out
  partial_fixpoint

def F.laws_toTypeS (a : List Vl.Ty) : Option (List Vl.Ty) :=
  if a.length ≤ 67108864 then
    (F.laws_toTypeS_l1 a (List.replicate a.length Vl.Ty.z) 0) >>= fun o =>
    some o
  else none

def F.laws_toCtor (a : Vl.Ctor) : Option (Vl.Ctor) :=
  (F.laws_toTypeS a.args) >>= fun v =>
  some (⟨a.name, v, a.index⟩ : Vl.Ctor)

def F.laws_toCtorS_l1 (a : List Vl.Ctor) (out : List Vl.Ctor) (i : Nat) : Option (List Vl.Ctor) :=
  if i < a.length then
    (a[i]?) >>= fun x =>
    (F.laws_toCtor x) >>= fun v =>
    (out[i]?) >>= fun x7 =>
    F.laws_toCtorS_l1 a (out.set i v) (i + 1)
  else
    some out
  partial_fixpoint

def F.laws_toCtorS (a : List Vl.Ctor) : Option (List Vl.Ctor) :=
  if a.length ≤ 67108864 then
    (F.laws_toCtorS_l1 a (List.replicate a.length Vl.Ctor.z) 0) >>= fun o =>
    some o
  else none

def F.laws_toData (a : Vl.Data) : Option (Vl.Data) :=
  (F.laws_toCtorS a.ctors) >>= fun v =>
  some (⟨a.name, v⟩ : Vl.Data)

def F.laws_toDataS_l1 (a : List Vl.Data) (out : List Vl.Data) (i : Nat) : Option (List Vl.Data) :=
  if i < a.length then
    (a[i]?) >>= fun x =>
    (F.laws_toData x) >>= fun v =>
    (out[i]?) >>= fun x7 =>
    F.laws_toDataS_l1 a (out.set i v) (i + 1)
  else
    some out
  partial_fixpoint

def F.laws_toDataS (a : List Vl.Data) : Option (List Vl.Data) :=
  if a.length ≤ 67108864 then
    (F.laws_toDataS_l1 a (List.replicate a.length Vl.Data.z) 0) >>= fun o =>
    some o
  else none

def F.spec_l1Big (c' : Int) : Option (Bool) :=
  if 65 ≤ c' then
    some (decide (c' ≤ 90))
  else
    some false

def F.spec_l1Data (s : ByteArray) : Option (Bool) :=
  if s.size = 1 then
    if 0 < s.size then
      (F.spec_l1Big ((byteAt s 0 : Nat) : Int)) >>= fun v =>
      if v = true then
        some (decide (¬ (s.toList = (⟨#[73]⟩ : ByteArray).toList)))
      else
        some false
    else none
  else
    some false

def F.spec_NameValid_l1 (s : ByteArray) (i : Nat) : Option (Lo Bool Unit) :=
  if i < s.size then
    if byteAt s i < 97 then
      some (.ret false)
    else
      if 122 < byteAt s i then
        some (.ret false)
      else
        if i + 1 ≤ 9223372036854775807 then
          F.spec_NameValid_l1 s (i + 1)
        else none
  else
    some (.go ())
  partial_fixpoint

def F.spec_NameValid (s : ByteArray) : Option (Bool) :=
  if s.size = 0 then
    some false
  else
    if 5 < s.size then
      some false
    else
      if 0 < s.size then
        (F.spec_l1Big ((byteAt s 0 : Nat) : Int)) >>= fun v =>
        if v = true then
          (F.spec_NameValid_l1 s 1) >>= fun o =>
          match o with
          | .ret r0 => some r0
          | .go s23 =>
            some true
        else
          some false
      else none

def F.spec_l1Arg (n : Int) (t : Vl.Ty) : Option (Bool) :=
  if t.data = (-1) then
    some (decide (t.index = 0))
  else
    if 0 ≤ t.data then
      if t.data < n then
        if (-1) ≤ t.index then
          some (decide (t.index ≤ 3))
        else
          some false
      else
        some false
    else
      some false

def F.spec_l1Ctor_l1 (n : Int) (c' : Vl.Ctor) (i : Nat) : Option (Lo Bool Unit) :=
  if i < c'.args.length then
    (c'.args[i]?) >>= fun x =>
    (F.spec_l1Arg n x) >>= fun v15 =>
    if v15 = true then
      F.spec_l1Ctor_l1 n c' (i + 1)
    else
      some (.ret false)
  else
    some (.go ())
  partial_fixpoint

def F.spec_l1Ctor (n : Int) (c' : Vl.Ctor) : Option (Bool) :=
  (F.spec_NameValid c'.name) >>= fun v =>
  if v = true then
    if 3 < c'.args.length then
      some false
    else
      if c'.index < 0 then
        some false
      else
        if 3 < c'.index then
          some false
        else
          (F.spec_l1Ctor_l1 n c' 0) >>= fun o =>
          match o with
          | .ret r0 => some r0
          | .go s =>
            some true
  else
    some false

def F.spec_l1Twice_l2 (w : List Vl.Data) (d : Int) (k : Int) (i : Nat) (j : Nat) : Option (Lo Bool Unit) :=
  (w[i]?) >>= fun x10 =>
  if j < x10.ctors.length then
    if (i : Int) < d then
      (at? w d) >>= fun x33 =>
      if k < (x33.ctors.length : Int) then
        (x10.ctors[j]?) >>= fun x37 =>
        (at? x33.ctors k) >>= fun x39 =>
        if x37.name.toList = x39.name.toList then
          some (.ret true)
        else
          if j + 1 ≤ 9223372036854775807 then
            F.spec_l1Twice_l2 w d k i (j + 1)
          else none
      else
        if j + 1 ≤ 9223372036854775807 then
          F.spec_l1Twice_l2 w d k i (j + 1)
        else none
    else
      if (j : Int) < k then
        (at? w d) >>= fun x19 =>
        if k < (x19.ctors.length : Int) then
          (x10.ctors[j]?) >>= fun x23 =>
          (at? x19.ctors k) >>= fun x25 =>
          if x23.name.toList = x25.name.toList then
            some (.ret true)
          else
            if j + 1 ≤ 9223372036854775807 then
              F.spec_l1Twice_l2 w d k i (j + 1)
            else none
        else
          if j + 1 ≤ 9223372036854775807 then
            F.spec_l1Twice_l2 w d k i (j + 1)
          else none
      else
        some (.go ())
  else
    some (.go ())
  partial_fixpoint

def F.spec_l1Twice_l3 (w : List Vl.Data) (d : Int) (k : Int) (i : Nat) (j50 : Nat) : Option (Lo Bool Unit) :=
  (w[i]?) >>= fun x51 =>
  if j50 < x51.ctors.length then
    if (i : Int) < d then
      (at? w d) >>= fun x74 =>
      if k < (x74.ctors.length : Int) then
        (x51.ctors[j50]?) >>= fun x78 =>
        (at? x74.ctors k) >>= fun x80 =>
        if x78.name.toList = x80.name.toList then
          some (.ret true)
        else
          if j50 + 1 ≤ 9223372036854775807 then
            F.spec_l1Twice_l3 w d k i (j50 + 1)
          else none
      else
        if j50 + 1 ≤ 9223372036854775807 then
          F.spec_l1Twice_l3 w d k i (j50 + 1)
        else none
    else
      if (j50 : Int) < k then
        (at? w d) >>= fun x60 =>
        if k < (x60.ctors.length : Int) then
          (x51.ctors[j50]?) >>= fun x64 =>
          (at? x60.ctors k) >>= fun x66 =>
          if x64.name.toList = x66.name.toList then
            some (.ret true)
          else
            if j50 + 1 ≤ 9223372036854775807 then
              F.spec_l1Twice_l3 w d k i (j50 + 1)
            else none
        else
          if j50 + 1 ≤ 9223372036854775807 then
            F.spec_l1Twice_l3 w d k i (j50 + 1)
          else none
      else
        some (.go ())
  else
    some (.go ())
  partial_fixpoint

def F.spec_l1Twice_l1 (w : List Vl.Data) (d : Int) (k : Int) (i : Nat) : Option (Lo Bool Unit) :=
  if (i : Int) ≤ d then
    if (i : Int) < d then
      (w[i]?) >>= fun x =>
      (at? w d) >>= fun x6 =>
      if x.name.toList = x6.name.toList then
        some (.ret true)
      else
        (F.spec_l1Twice_l2 w d k i 0) >>= fun o =>
        match o with
        | .ret r0 => some (.ret r0)
        | .go s =>
          if i + 1 ≤ 9223372036854775807 then
            F.spec_l1Twice_l1 w d k (i + 1)
          else none
    else
      (F.spec_l1Twice_l3 w d k i 0) >>= fun o89 =>
      match o89 with
      | .ret r093 => some (.ret r093)
      | .go s90 =>
        if i + 1 ≤ 9223372036854775807 then
          F.spec_l1Twice_l1 w d k (i + 1)
        else none
  else
    some (.go ())
  partial_fixpoint

def F.spec_l1Twice (w : List Vl.Data) (d : Int) (k : Int) : Option (Bool) :=
  (F.spec_l1Twice_l1 w d k 0) >>= fun o95 =>
  match o95 with
  | .ret r097 => some r097
  | .go s96 =>
    some false

def F.spec_WorldValid_l2 (w : List Vl.Data) (d : Nat) (k : Nat) : Option (Lo Bool Unit) :=
  (w[d]?) >>= fun x17 =>
  if k < x17.ctors.length then
    (x17.ctors[k]?) >>= fun x22 =>
    (F.spec_l1Ctor (w.length : Int) x22) >>= fun v24 =>
    if v24 = true then
      (F.spec_l1Twice w (d : Int) (k : Int)) >>= fun v28 =>
      if v28 = true then
        some (.ret false)
      else
        if k + 1 ≤ 9223372036854775807 then
          F.spec_WorldValid_l2 w d (k + 1)
        else none
    else
      some (.ret false)
  else
    some (.go ())
  partial_fixpoint

def F.spec_WorldValid_l1 (w : List Vl.Data) (d : Nat) : Option (Lo Bool Unit) :=
  if d < w.length then
    (w[d]?) >>= fun x =>
    (F.spec_l1Data x.name) >>= fun v =>
    if v = true then
      if x.ctors.length = 0 then
        some (.ret false)
      else
        if 4 < x.ctors.length then
          some (.ret false)
        else
          (F.spec_WorldValid_l2 w d 0) >>= fun o =>
          match o with
          | .ret r0 => some (.ret r0)
          | .go s =>
            if d + 1 ≤ 9223372036854775807 then
              F.spec_WorldValid_l1 w (d + 1)
            else none
    else
      some (.ret false)
  else
    some (.go ())
  partial_fixpoint

def F.spec_WorldValid (w : List Vl.Data) : Option (Bool) :=
  if 4 < w.length then
    some false
  else
    (F.spec_WorldValid_l1 w 0) >>= fun o38 =>
    match o38 with
    | .ret r040 => some r040
    | .go s39 =>
      some true

def F.spec_l1Is (w : List Vl.Data) (t : Vl.Ty) : Option (Bool) :=
  (F.spec_l1Arg (w.length : Int) t) >>= fun v =>
  if v = true then
    some (decide (0 ≤ t.index))
  else
    some false

def F.spec_TypeValid (w : List Vl.Data) (t : Vl.Ty) : Option (Bool) :=
  (F.spec_WorldValid w) >>= fun v =>
  if v = true then
    (F.spec_l1Is w t) >>= fun v4 =>
    some v4
  else
    some false

def F.spec_l12Fits (a : Vl.Ty) (b : Vl.Ty) : Option (Bool) :=
  if a.data = b.data then
    if b.index = 0 then
      some true
    else
      some (decide (a.index = b.index))
  else
    some false

def F.spec_TypeFits (w : List Vl.Data) (a : Vl.Ty) (b : Vl.Ty) : Option (Bool) :=
  (F.spec_TypeValid w a) >>= fun v =>
  if v = true then
    (F.spec_TypeValid w b) >>= fun v4 =>
    if v4 = true then
      (F.spec_l12Fits a b) >>= fun v8 =>
      some v8
    else
      some false
  else
    some false

def F.impl_within (n : Int) (low : Int) (high : Int) : Option (Bool) :=
  if low ≤ n then
    some (decide (n ≤ high))
  else
    some false

def F.impl_NameValid_l1 (s : ByteArray) (i : Nat) : Option (Lo Bool Unit) :=
  if i < s.size then
    if byteAt s i < 97 then
      some (.ret false)
    else
      if 122 < byteAt s i then
        some (.ret false)
      else
        if i + 1 ≤ 9223372036854775807 then
          F.impl_NameValid_l1 s (i + 1)
        else none
  else
    some (.go ())
  partial_fixpoint

def F.impl_NameValid (s : ByteArray) : Option (Bool) :=
  (F.impl_within (s.size : Int) (1 : Int) (5 : Int)) >>= fun v =>
  if v = true then
    if 0 < s.size then
      if byteAt s 0 < 65 then
        some false
      else
        if 90 < byteAt s 0 then
          some false
        else
          (F.impl_NameValid_l1 s 1) >>= fun o =>
          match o with
          | .ret r0 => some r0
          | .go s23 =>
            some true
    else none
  else
    some false

def F.impl_argOk (w : List Vl.Data) (t : Vl.Ty) : Option (Bool) :=
  if dec (eq2 (t.data, t.index) ((-1), 0)) = true then
    some true
  else
    (F.impl_within t.data (0 : Int) (IntKind.i64.wrap ((w.length : Int) - 1))) >>= fun v =>
    if v = true then
      (F.impl_within t.index (-1 : Int) (3 : Int)) >>= fun v6 =>
      some v6
    else
      some false

def F.impl_ctorOk_1 (t : Vl.Ty) (a1 : List Vl.Data) : Option (Bool) :=
  (F.impl_argOk a1 t) >>= fun v =>
  some (!v)

def F.slices_IndexFunc_Type__impl_ctorOk_1_l1 (s : List Vl.Ty) (k0 : List Vl.Data) (i : Nat) : Option (Lo Int Unit) :=
  if i < s.length then
    (s[i]?) >>= fun x =>
    (F.impl_ctorOk_1 x k0) >>= fun v =>
    if v = true then
      some (.ret (i : Int))
    else
      F.slices_IndexFunc_Type__impl_ctorOk_1_l1 s k0 (i + 1)
  else
    some (.go ())
  partial_fixpoint

def F.slices_IndexFunc_Type__impl_ctorOk_1 (s : List Vl.Ty) (k0 : List Vl.Data) : Option (Int) :=
  (F.slices_IndexFunc_Type__impl_ctorOk_1_l1 s k0 0) >>= fun o =>
  match o with
  | .ret r0 => some r0
  | .go s10 =>
    some (-1 : Int)

def F.slices_ContainsFunc_Type__impl_ctorOk_1 (s : List Vl.Ty) (k0 : List Vl.Data) : Option (Bool) :=
  (F.slices_IndexFunc_Type__impl_ctorOk_1 s k0) >>= fun v =>
  some (decide (0 ≤ v))

def F.impl_ctorOk (w : List Vl.Data) (c' : Vl.Ctor) : Option (Bool) :=
  (F.impl_NameValid c'.name) >>= fun v =>
  if v = true then
    if c'.args.length ≤ 3 then
      (F.impl_within c'.index (0 : Int) (3 : Int)) >>= fun v7 =>
      if v7 = true then
        (F.slices_ContainsFunc_Type__impl_ctorOk_1 c'.args w) >>= fun v11 =>
        some (!v11)
      else
        some false
    else
      some false
  else
    some false

def F.impl_WorldValid_l2 (w : List Vl.Data) (met4 : List ByteArray) (i : Nat) (x : Vl.Data) (met26 : List ByteArray) (i27 : Nat) : Option (Lo Bool (List ByteArray)) :=
  if i27 < x.ctors.length then
    (x.ctors[i27]?) >>= fun x31 =>
    (F.impl_ctorOk w x31) >>= fun v33 =>
    if v33 = true then
      if dec (x31.name ∈ met26) = true then
        some (.ret false)
      else
        F.impl_WorldValid_l2 w met4 i x (msIns met26 x31.name) (i27 + 1)
    else
      some (.ret false)
  else
    some (.go met26)
  partial_fixpoint

def F.impl_WorldValid_l1 (w : List Vl.Data) (met : List ByteArray) (met4 : List ByteArray) (i : Nat) : Option (Lo Bool ((List ByteArray) × (List ByteArray))) :=
  if i < w.length then
    (w[i]?) >>= fun x =>
    if x.name.size = 1 then
      if 0 < x.name.size then
        if byteAt x.name 0 < 65 then
          some (.ret false)
        else
          if 90 < byteAt x.name 0 then
            some (.ret false)
          else
            if x.name.toList = (⟨#[73]⟩ : ByteArray).toList then
              some (.ret false)
            else
              if dec (x.name ∈ met4) = true then
                some (.ret false)
              else
                (F.impl_within (x.ctors.length : Int) (1 : Int) (4 : Int)) >>= fun v =>
                if v = true then
                  (F.impl_WorldValid_l2 w met4 i x met 0) >>= fun o =>
                  match o with
                  | .ret r0 => some (.ret r0)
                  | .go s =>
                    if i + 1 ≤ 9223372036854775807 then
                      F.impl_WorldValid_l1 w s (msIns met4 x.name) (i + 1)
                    else none
                else
                  some (.ret false)
      else none
    else
      some (.ret false)
  else
    some (.go (met, met4))
  partial_fixpoint

def F.impl_WorldValid (w : List Vl.Data) : Option (Bool) :=
  if 4 < w.length then
    some false
  else
    (F.impl_WorldValid_l1 w [] [] 0) >>= fun o44 =>
    match o44 with
    | .ret r046 => some r046
    | .go s45 =>
      some true

def F.impl_typeOk (w : List Vl.Data) (t : Vl.Ty) : Option (Bool) :=
  if dec (eq2 (t.data, t.index) ((-1), 0)) = true then
    some true
  else
    (F.impl_within t.data (0 : Int) (IntKind.i64.wrap ((w.length : Int) - 1))) >>= fun v =>
    if v = true then
      (F.impl_within t.index (0 : Int) (3 : Int)) >>= fun v6 =>
      some v6
    else
      some false

def F.impl_TypeValid (w : List Vl.Data) (t : Vl.Ty) : Option (Bool) :=
  (F.impl_WorldValid w) >>= fun v =>
  if v = true then
    (F.impl_typeOk w t) >>= fun v4 =>
    some v4
  else
    some false

def F.impl_fits (a : Vl.Ty) (b : Vl.Ty) : Option (Bool) :=
  if a.data = b.data then
    if b.index = 0 then
      some true
    else
      some (decide (a.index = b.index))
  else
    some false

def F.impl_TypeFits (w : List Vl.Data) (a : Vl.Ty) (b : Vl.Ty) : Option (Bool) :=
  (F.impl_TypeValid w a) >>= fun v =>
  if v = true then
    (F.impl_typeOk w b) >>= fun v4 =>
    if v4 = true then
      (F.impl_fits a b) >>= fun v8 =>
      some v8
    else
      some false
  else
    some false

def F.laws_eqType (a : Vl.Ty) (b : Vl.Ty) : Option (Bool) :=
  if a.data = b.data then
    if a.index = b.index then
      some true
    else
      some false
  else
    some false

def F.laws_eqTypeS_l1 (a : List Vl.Ty) (b : List Vl.Ty) (i : Nat) : Option (Lo Bool Unit) :=
  if i < a.length then
    (a[i]?) >>= fun x =>
    (b[i]?) >>= fun x8 =>
    (F.laws_eqType x x8) >>= fun v =>
    if v = true then
      F.laws_eqTypeS_l1 a b (i + 1)
    else
      some (.ret false)
  else
    some (.go ())
  partial_fixpoint

def F.laws_eqTypeS (a : List Vl.Ty) (b : List Vl.Ty) : Option (Bool) :=
  if a.length = b.length then
    (F.laws_eqTypeS_l1 a b 0) >>= fun o =>
    match o with
    | .ret r0 => some r0
    | .go s =>
      some true
  else
    some false

def F.laws_eqCtor (a : Vl.Ctor) (b : Vl.Ctor) : Option (Bool) :=
  if a.name.toList = b.name.toList then
    (F.laws_eqTypeS a.args b.args) >>= fun v =>
    if v = true then
      if a.index = b.index then
        some true
      else
        some false
    else
      some false
  else
    some false

def F.laws_eqCtorS_l1 (a : List Vl.Ctor) (b : List Vl.Ctor) (i : Nat) : Option (Lo Bool Unit) :=
  if i < a.length then
    (a[i]?) >>= fun x =>
    (b[i]?) >>= fun x8 =>
    (F.laws_eqCtor x x8) >>= fun v =>
    if v = true then
      F.laws_eqCtorS_l1 a b (i + 1)
    else
      some (.ret false)
  else
    some (.go ())
  partial_fixpoint

def F.laws_eqCtorS (a : List Vl.Ctor) (b : List Vl.Ctor) : Option (Bool) :=
  if a.length = b.length then
    (F.laws_eqCtorS_l1 a b 0) >>= fun o =>
    match o with
    | .ret r0 => some r0
    | .go s =>
      some true
  else
    some false

def F.laws_eqData (a : Vl.Data) (b : Vl.Data) : Option (Bool) :=
  if a.name.toList = b.name.toList then
    (F.laws_eqCtorS a.ctors b.ctors) >>= fun v =>
    if v = true then
      some true
    else
      some false
  else
    some false

def F.laws_eqDataS_l1 (a : List Vl.Data) (b : List Vl.Data) (i : Nat) : Option (Lo Bool Unit) :=
  if i < a.length then
    (a[i]?) >>= fun x =>
    (b[i]?) >>= fun x8 =>
    (F.laws_eqData x x8) >>= fun v =>
    if v = true then
      F.laws_eqDataS_l1 a b (i + 1)
    else
      some (.ret false)
  else
    some (.go ())
  partial_fixpoint

def F.laws_eqDataS (a : List Vl.Data) (b : List Vl.Data) : Option (Bool) :=
  if a.length = b.length then
    (F.laws_eqDataS_l1 a b 0) >>= fun o =>
    match o with
    | .ret r0 => some r0
    | .go s =>
      some true
  else
    some false

def F.laws_FnExactTypeFits (aW : List Vl.Data) (aA : Vl.Ty) (aB : Vl.Ty) : Option (Bool) :=
  (F.laws_szDataS aW (1048576 : Int)) >>= fun v =>
  if v < 0 then
    some true
  else
    (F.laws_toDataS aW) >>= fun v4 =>
    (F.laws_toType aA) >>= fun v6 =>
    (F.laws_toType aB) >>= fun v8 =>
    (F.spec_TypeFits v4 v6 v8) >>= fun v10 =>
    (F.laws_toDataS aW) >>= fun v12 =>
    (F.laws_toType aA) >>= fun v14 =>
    (F.laws_toType aB) >>= fun v16 =>
    (F.impl_TypeFits v12 v14 v16) >>= fun v18 =>
    if v18 = v10 then
      (F.laws_toDataS aW) >>= fun v22 =>
      (F.laws_eqDataS v12 v22) >>= fun v24 =>
      if v24 = true then
        some true
      else
        some false
    else
      some false
end
end Go.Vl
