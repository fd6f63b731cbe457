/- Part. -/
import Derived.Test.YtnockmfobogfpaaGreatTestedPartsF
import Derived.Test.YtnockmfobogfpaaGreatVlE
set_option linter.all false
open ByteArray renaming empty->zA
namespace Go.Vl
open Go
open Ole renaming refl->zB,bind->zC,ite->zD,none->zE
open Go.IntKind renaming u8->zF
open Go.IntKind (i64)
noncomputable section
def E.f2 (fu:Nat)(s:ByteArray)(c':Int)(out:List ByteArray)(from':Nat)(i:Nat):Option (List ByteArray):=
 match fu with
 |0=>none
 |fu+1=>
  if i<=s.size then
   if i=s.size then
    if from'<=i/\i<=s.size then
     if out.length+1<=67108864 then
      if i+1<=9223372036854775807 then
       E.f2 fu s c' (out++[s.extract from' i]) (i+1) (i+1)
      else none
     else none
    else none
   else
    if i<s.size then
     if((byteAt s i:Nat):Int)=c' then
      if from'<=i/\i<=s.size then
       if out.length+1<=67108864 then
        if i+1<=9223372036854775807 then
         E.f2 fu s c' (out++[s.extract from' i]) (i+1) (i+1)
        else none
       else none
      else none
     else
      if i+1<=9223372036854775807 then
       E.f2 fu s c' out from' (i+1)
      else none
    else none
  else
   some out
theorem E.f2_le :∀(fu:Nat) (s:ByteArray) (c':Int) (out:List ByteArray) (from':Nat) (i:Nat),Ole (E.f2 fu s c' out from' i) (F.f2 s c' out from' i):=by
 intro fu
 induction fu with
 |zero=>intros;exact zE _
 |succ fu ih=>
  intro s c' out from' i
  rw[E.f2,F.f2]
  repeat' (first|exact zB _|exact ih _ _ _ _ _|refine zC ?_ (fun _=> ?_)|refine zD ?_ ?_|split)
def E.f3 (fu:Nat)(s:ByteArray)(c':Int):Option (List ByteArray):=
 E.f2 fu s c' [] 0 0>>=fun o'=>
 some o'
theorem E.f3_le (fu:Nat)(s:ByteArray)(c':Int):Ole (E.f3 fu s c') (F.f3 s c'):=by
 unfold E.f3 F.f3
 repeat' (first|exact zB _|exact E.f2_le _ _ _ _ _ _|refine zC ?_ (fun _=> ?_)|refine zD ?_ ?_|split)
def E.f4 (fu:Nat)(names:List ByteArray)(s:ByteArray)(i:Nat):Option (Lo Int Unit):=
 match fu with
 |0=>none
 |fu+1=>
  if i<names.length then
   names[i]?>>=fun x=>
   if x.toList=s.toList then
    some (.ret (i:Int))
   else
    E.f4 fu names s (i+1)
  else
   some (.go ())
theorem E.f4_le :∀(fu:Nat) (names:List ByteArray) (s:ByteArray) (i:Nat),Ole (E.f4 fu names s i) (F.f4 names s i):=by
 intro fu
 induction fu with
 |zero=>intros;exact zE _
 |succ fu ih=>
  intro names s i
  rw[E.f4,F.f4]
  repeat' (first|exact zB _|exact ih _ _ _|refine zC ?_ (fun _=> ?_)|refine zD ?_ ?_|split)
def E.f5 (fu:Nat)(names:List ByteArray)(s:ByteArray):Option (Int):=
 if s.toList=(⟨#[73]⟩:ByteArray).toList then
  some (-1)
 else
  E.f4 fu names s 0>>=fun o'=>
  match o' with
  | .ret r0=>some r0
  | .go sx=>
   some (-2)
theorem E.f5_le (fu:Nat)(names:List ByteArray)(s:ByteArray):Ole (E.f5 fu names s) (F.f5 names s):=by
 unfold E.f5 F.f5
 repeat' (first|exact zB _|exact E.f4_le _ _ _ _|refine zC ?_ (fun _=> ?_)|refine zD ?_ ?_|split)
def E.f6 (fu:Nat)(names:List ByteArray)(s:ByteArray):Option (Ty):=
 if s.toList=zA.toList then
  some (⟨(-2),0⟩:Ty)
 else
  if 1<=s.size then
   E.f5 fu names (s.extract 0 1)>>=fun v=>
   if(s.extract 1 s.size).toList=(⟨#[42]⟩:ByteArray).toList then
    some (⟨v,(-1)⟩:Ty)
   else
    if s.size=2 then
     if 1<s.size then
      if 48<=byteAt s 1 then
       if byteAt s 1<=57 then
        some (⟨v,i64.wrap (zF.wrap (((byteAt s 1:Nat):Int) -48))⟩:Ty)
       else
        some (⟨v,0⟩:Ty)
      else
       some (⟨v,0⟩:Ty)
     else none
    else
     some (⟨v,0⟩:Ty)
  else none
theorem E.f6_le (fu:Nat)(names:List ByteArray)(s:ByteArray):Ole (E.f6 fu names s) (F.f6 names s):=by
 unfold E.f6 F.f6
 repeat' (first|exact zB _|exact E.f5_le _ _ _|refine zC ?_ (fun _=> ?_)|refine zD ?_ ?_|split)
def E.f7 (fu:Nat)(names:List ByteArray)(s:ByteArray)(x:ByteArray)(v21:List ByteArray)(out:List Ty)(i:Nat):Option (List Ty):=
 match fu with
 |0=>none
 |fu+1=>
  if i<v21.length then
   if i<=3 then
    v21[i]?>>=fun x29=>
    E.f6 fu names x29>>=fun v31=>
    if out.length+1<=67108864 then
     E.f7 fu names s x v21 (out++[v31]) (i+1)
    else none
   else
    some out
  else
   some out
theorem E.f7_le :∀(fu:Nat) (names:List ByteArray) (s:ByteArray) (x:ByteArray) (v21:List ByteArray) (out:List Ty) (i:Nat),Ole (E.f7 fu names s x v21 out i) (F.f7 names s x v21 out i):=by
 intro fu
 induction fu with
 |zero=>intros;exact zE _
 |succ fu ih=>
  intro names s x v21 out i
  rw[E.f7,F.f7]
  repeat' (first|exact zB _|exact E.f6_le _ _ _|exact ih _ _ _ _ _ _|refine zC ?_ (fun _=> ?_)|refine zD ?_ ?_|split)
def E.f8 (fu:Nat)(names:List ByteArray)(x38:ByteArray)(v49:List ByteArray)(out51:List Ty)(i52:Nat):Option (List Ty):=
 match fu with
 |0=>none
 |fu+1=>
  if i52<v49.length then
   if i52<=3 then
    v49[i52]?>>=fun x59=>
    E.f6 fu names x59>>=fun v61=>
    if out51.length+1<=67108864 then
     E.f8 fu names x38 v49 (out51++[v61]) (i52+1)
    else none
   else
    some out51
  else
   some out51
theorem E.f8_le :∀(fu:Nat) (names:List ByteArray) (x38:ByteArray) (v49:List ByteArray) (out51:List Ty) (i52:Nat),Ole (E.f8 fu names x38 v49 out51 i52) (F.f8 names x38 v49 out51 i52):=by
 intro fu
 induction fu with
 |zero=>intros;exact zE _
 |succ fu ih=>
  intro names x38 v49 out51 i52
  rw[E.f8,F.f8]
  repeat' (first|exact zB _|exact E.f6_le _ _ _|exact ih _ _ _ _ _|refine zC ?_ (fun _=> ?_)|refine zD ?_ ?_|split)
def E.f9 (fu:Nat)(names:List ByteArray)(x69:ByteArray)(v80:List ByteArray)(out82:List Ty)(i83:Nat):Option (List Ty):=
 match fu with
 |0=>none
 |fu+1=>
  if i83<v80.length then
   if i83<=3 then
    v80[i83]?>>=fun x90=>
    E.f6 fu names x90>>=fun v92=>
    if out82.length+1<=67108864 then
     E.f9 fu names x69 v80 (out82++[v92]) (i83+1)
    else none
   else
    some out82
  else
   some out82
theorem E.f9_le :∀(fu:Nat) (names:List ByteArray) (x69:ByteArray) (v80:List ByteArray) (out82:List Ty) (i83:Nat),Ole (E.f9 fu names x69 v80 out82 i83) (F.f9 names x69 v80 out82 i83):=by
 intro fu
 induction fu with
 |zero=>intros;exact zE _
 |succ fu ih=>
  intro names x69 v80 out82 i83
  rw[E.f9,F.f9]
  repeat' (first|exact zB _|exact E.f6_le _ _ _|exact ih _ _ _ _ _|refine zC ?_ (fun _=> ?_)|refine zD ?_ ?_|split)
def E.f10 (fu:Nat)(names:List ByteArray)(s:ByteArray):Option (Ctor):=
 if 2<s.size then
  if 0<=i64.wrap ((s.size:Int) -2)/\(i64.wrap ((s.size:Int) -2)).toNat<s.size then
   if byteAt s ((i64.wrap ((s.size:Int) -2)).toNat)=58 then
    if 0<=i64.wrap ((s.size:Int) -1)/\(i64.wrap ((s.size:Int) -1)).toNat<s.size then
     if 0<=i64.wrap ((s.size:Int) -2)/\(i64.wrap ((s.size:Int) -2)).toNat<=s.size then
      E.f3 fu (s.extract 0 ((i64.wrap ((s.size:Int) -2)).toNat)) 40>>=fun v=>
      v[0]?>>=fun x=>
      if v.length<2 then
       some (⟨x,[],i64.wrap (i64.wrap ((byteAt s ((i64.wrap ((s.size:Int) -1)).toNat):Nat):Int) -48)⟩:Ctor)
      else
       v[1]?>>=fun x15=>
       if x15.size=0 then
        some (⟨x,[],i64.wrap (i64.wrap ((byteAt s ((i64.wrap ((s.size:Int) -1)).toNat):Nat):Int) -48)⟩:Ctor)
       else
        if 0<=i64.wrap ((x15.size:Int) -1)/\(i64.wrap ((x15.size:Int) -1)).toNat<=x15.size then
         E.f3 fu (x15.extract 0 ((i64.wrap ((x15.size:Int) -1)).toNat)) 44>>=fun v21=>
         E.f7 fu names s x v21 [] 0>>=fun o'=>
         some (⟨x,o',i64.wrap (i64.wrap ((byteAt s ((i64.wrap ((s.size:Int) -1)).toNat):Nat):Int) -48)⟩:Ctor)
        else none
     else none
    else none
   else
    E.f3 fu s 40>>=fun v36=>
    v36[0]?>>=fun x38=>
    if v36.length<2 then
     some (⟨x38,[],0⟩:Ctor)
    else
     v36[1]?>>=fun x43=>
     if x43.size=0 then
      some (⟨x38,[],0⟩:Ctor)
     else
      if 0<=i64.wrap ((x43.size:Int) -1)/\(i64.wrap ((x43.size:Int) -1)).toNat<=x43.size then
       E.f3 fu (x43.extract 0 ((i64.wrap ((x43.size:Int) -1)).toNat)) 44>>=fun v49=>
       E.f8 fu names x38 v49 [] 0>>=fun o'66=>
       some (⟨x38,o'66,0⟩:Ctor)
      else none
  else none
 else
  E.f3 fu s 40>>=fun v67=>
  v67[0]?>>=fun x69=>
  if v67.length<2 then
   some (⟨x69,[],0⟩:Ctor)
  else
   v67[1]?>>=fun x74=>
   if x74.size=0 then
    some (⟨x69,[],0⟩:Ctor)
   else
    if 0<=i64.wrap ((x74.size:Int) -1)/\(i64.wrap ((x74.size:Int) -1)).toNat<=x74.size then
     E.f3 fu (x74.extract 0 ((i64.wrap ((x74.size:Int) -1)).toNat)) 44>>=fun v80=>
     E.f9 fu names x69 v80 [] 0>>=fun o'97=>
     some (⟨x69,o'97,0⟩:Ctor)
    else none
theorem E.f10_le (fu:Nat)(names:List ByteArray)(s:ByteArray):Ole (E.f10 fu names s) (F.f10 names s):=by
 unfold E.f10 F.f10
 repeat' (first|exact zB _|exact E.f3_le _ _ _|exact E.f7_le _ _ _ _ _ _ _|exact E.f8_le _ _ _ _ _ _|exact E.f9_le _ _ _ _ _ _|refine zC ?_ (fun _=> ?_)|refine zD ?_ ?_|split)
def E.f11 (fu:Nat)(c':Int):Option (Bool):=
 if 65<=c' then
  some (decide (c'<=90))
 else
  some false
theorem E.f11_le (fu:Nat)(c':Int):Ole (E.f11 fu c') (F.f11 c'):=by
 unfold E.f11 F.f11
 try simp only[Zv]
 repeat' (first|exact zB _|refine zC ?_ (fun _=> ?_)|refine zD ?_ ?_|split)
def E.f12 (fu:Nat)(s:ByteArray):Option (Bool):=
 if s.size=1 then
  if 0<s.size then
   E.f11 fu ((byteAt s 0:Nat):Int)>>=fun v=>
   if v=true then
    some (decide (¬(s.toList=(⟨#[73]⟩:ByteArray).toList)))
   else
    some false
  else none
 else
  some false
theorem E.f12_le (fu:Nat)(s:ByteArray):Ole (E.f12 fu s) (F.f12 s):=by
 unfold E.f12 F.f12
 try simp only[Zv]
 repeat' (first|exact zB _|exact E.f11_le _ _|refine zC ?_ (fun _=> ?_)|refine zD ?_ ?_|split)
def E.f13 (fu:Nat)(s:ByteArray)(i:Nat):Option (Lo Bool Unit):=
 match fu with
 |0=>none
 |fu+1=>
  if i<s.size then
   if byteAt s i<97 then
    some (.ret false)
   else
    if 122<byteAt s i then
     some (.ret false)
    else
     if i+1<=9223372036854775807 then
      E.f13 fu s (i+1)
     else none
  else
   some (.go ())
theorem E.f13_le :∀(fu:Nat) (s:ByteArray) (i:Nat),Ole (E.f13 fu s i) (F.f13 s i):=by
 intro fu
 induction fu with
 |zero=>intros;exact zE _
 |succ fu ih=>
  intro s i
  rw[E.f13,F.f13]
  repeat' (first|exact zB _|exact ih _ _|refine zC ?_ (fun _=> ?_)|refine zD ?_ ?_|split)
def E.f14 (fu:Nat)(s:ByteArray):Option (Bool):=
 if s.size=0 then
  some false
 else
  if 5<s.size then
   some false
  else
   if 0<s.size then
    E.f11 fu ((byteAt s 0:Nat):Int)>>=fun v=>
    if v=true then
     E.f13 fu s 1>>=fun o'=>
     match o' with
     | .ret r0=>some r0
     | .go sx=>
      some true
    else
     some false
   else none
theorem E.f14_le (fu:Nat)(s:ByteArray):Ole (E.f14 fu s) (F.f14 s):=by
 unfold E.f14 F.f14
 repeat' (first|exact zB _|exact E.f13_le _ _ _|exact E.f11_le _ _|refine zC ?_ (fun _=> ?_)|refine zD ?_ ?_|split)
def E.f15 (fu:Nat)(n:Int)(t:Ty):Option (Bool):=
 if t.data=(-1)then
  some (decide (t.index=0))
 else
  if 0<=t.data then
   if t.data<n then
    if(-1)<=t.index then
     some (decide (t.index<=3))
    else
     some false
   else
    some false
  else
   some false
theorem E.f15_le (fu:Nat)(n:Int)(t:Ty):Ole (E.f15 fu n t) (F.f15 n t):=by
 unfold E.f15 F.f15
 try simp only[Zv]
 repeat' (first|exact zB _|refine zC ?_ (fun _=> ?_)|refine zD ?_ ?_|split)
def E.f16 (fu:Nat)(n:Int)(c':Ctor)(i:Nat):Option (Lo Bool Unit):=
 match fu with
 |0=>none
 |fu+1=>
  if i<c'.args.length then
   c'.args[i]?>>=fun x=>
   E.f15 fu n x>>=fun v15=>
   if v15=true then
    E.f16 fu n c' (i+1)
   else
    some (.ret false)
  else
   some (.go ())
theorem E.f16_le :∀(fu:Nat) (n:Int) (c':Ctor) (i:Nat),Ole (E.f16 fu n c' i) (F.f16 n c' i):=by
 intro fu
 induction fu with
 |zero=>intros;exact zE _
 |succ fu ih=>
  intro n c' i
  rw[E.f16,F.f16]
  repeat' (first|exact zB _|exact E.f15_le _ _ _|exact ih _ _ _|refine zC ?_ (fun _=> ?_)|refine zD ?_ ?_|split)
def E.f17 (fu:Nat)(n:Int)(c':Ctor):Option (Bool):=
 E.f14 fu c'.name>>=fun v=>
 if v=true then
  if 3<c'.args.length then
   some false
  else
   if c'.index<0 then
    some false
   else
    if 3<c'.index then
     some false
    else
     E.f16 fu n c' 0>>=fun o'=>
     match o' with
     | .ret r0=>some r0
     | .go sx=>
      some true
 else
  some false
theorem E.f17_le (fu:Nat)(n:Int)(c':Ctor):Ole (E.f17 fu n c') (F.f17 n c'):=by
 unfold E.f17 F.f17
 repeat' (first|exact zB _|exact E.f14_le _ _|exact E.f16_le _ _ _ _|refine zC ?_ (fun _=> ?_)|refine zD ?_ ?_|split)
def E.f18 (fu:Nat)(w:List Vl.Data)(d:Int)(k:Int)(i:Nat)(j:Nat):Option (Lo Bool Unit):=
 match fu with
 |0=>none
 |fu+1=>
  w[i]?>>=fun x10=>
  if j<x10.ctors.length then
   if(i:Int)<d then
    at? w d>>=fun x33=>
    if k<(x33.ctors.length:Int)then
     x10.ctors[j]?>>=fun x37=>
     at? x33.ctors k>>=fun x39=>
     if x37.name.toList=x39.name.toList then
      some (.ret true)
     else
      if j+1<=9223372036854775807 then
       E.f18 fu w d k i (j+1)
      else none
    else
     if j+1<=9223372036854775807 then
      E.f18 fu w d k i (j+1)
     else none
   else
    if(j:Int)<k then
     at? w d>>=fun x19=>
     if k<(x19.ctors.length:Int)then
      x10.ctors[j]?>>=fun x23=>
      at? x19.ctors k>>=fun x25=>
      if x23.name.toList=x25.name.toList then
       some (.ret true)
      else
       if j+1<=9223372036854775807 then
        E.f18 fu w d k i (j+1)
       else none
     else
      if j+1<=9223372036854775807 then
       E.f18 fu w d k i (j+1)
      else none
    else
     some (.go ())
  else
   some (.go ())
theorem E.f18_le :∀(fu:Nat) (w:List Vl.Data) (d:Int) (k:Int) (i:Nat) (j:Nat),Ole (E.f18 fu w d k i j) (F.f18 w d k i j):=by
 intro fu
 induction fu with
 |zero=>intros;exact zE _
 |succ fu ih=>
  intro w d k i j
  rw[E.f18,F.f18]
  repeat' (first|exact zB _|exact ih _ _ _ _ _|refine zC ?_ (fun _=> ?_)|refine zD ?_ ?_|split)
def E.f19 (fu:Nat)(w:List Vl.Data)(d:Int)(k:Int)(i:Nat)(j50:Nat):Option (Lo Bool Unit):=
 match fu with
 |0=>none
 |fu+1=>
  w[i]?>>=fun x51=>
  if j50<x51.ctors.length then
   if(i:Int)<d then
    at? w d>>=fun x74=>
    if k<(x74.ctors.length:Int)then
     x51.ctors[j50]?>>=fun x78=>
     at? x74.ctors k>>=fun x80=>
     if x78.name.toList=x80.name.toList then
      some (.ret true)
     else
      if j50+1<=9223372036854775807 then
       E.f19 fu w d k i (j50+1)
      else none
    else
     if j50+1<=9223372036854775807 then
      E.f19 fu w d k i (j50+1)
     else none
   else
    if(j50:Int)<k then
     at? w d>>=fun x60=>
     if k<(x60.ctors.length:Int)then
      x51.ctors[j50]?>>=fun x64=>
      at? x60.ctors k>>=fun x66=>
      if x64.name.toList=x66.name.toList then
       some (.ret true)
      else
       if j50+1<=9223372036854775807 then
        E.f19 fu w d k i (j50+1)
       else none
     else
      if j50+1<=9223372036854775807 then
       E.f19 fu w d k i (j50+1)
      else none
    else
     some (.go ())
  else
   some (.go ())
theorem E.f19_le :∀(fu:Nat) (w:List Vl.Data) (d:Int) (k:Int) (i:Nat) (j50:Nat),Ole (E.f19 fu w d k i j50) (F.f19 w d k i j50):=by
 intro fu
 induction fu with
 |zero=>intros;exact zE _
 |succ fu ih=>
  intro w d k i j50
  rw[E.f19,F.f19]
  repeat' (first|exact zB _|exact ih _ _ _ _ _|refine zC ?_ (fun _=> ?_)|refine zD ?_ ?_|split)
def E.f20 (fu:Nat)(w:List Vl.Data)(d:Int)(k:Int)(i:Nat):Option (Lo Bool Unit):=
 match fu with
 |0=>none
 |fu+1=>
  if(i:Int)<=d then
   if(i:Int)<d then
    w[i]?>>=fun x=>
    at? w d>>=fun x6=>
    if x.name.toList=x6.name.toList then
     some (.ret true)
    else
     E.f18 fu w d k i 0>>=fun o'=>
     match o' with
     | .ret r0=>some (.ret r0)
     | .go sx=>
      if i+1<=9223372036854775807 then
       E.f20 fu w d k (i+1)
      else none
   else
    E.f19 fu w d k i 0>>=fun o'89=>
    match o'89 with
    | .ret r093=>some (.ret r093)
    | .go sx90=>
     if i+1<=9223372036854775807 then
      E.f20 fu w d k (i+1)
     else none
  else
   some (.go ())
theorem E.f20_le :∀(fu:Nat) (w:List Vl.Data) (d:Int) (k:Int) (i:Nat),Ole (E.f20 fu w d k i) (F.f20 w d k i):=by
 intro fu
 induction fu with
 |zero=>intros;exact zE _
 |succ fu ih=>
  intro w d k i
  rw[E.f20,F.f20]
  repeat' (first|exact zB _|exact E.f18_le _ _ _ _ _ _|exact E.f19_le _ _ _ _ _ _|exact ih _ _ _ _|refine zC ?_ (fun _=> ?_)|refine zD ?_ ?_|split)
def E.f21 (fu:Nat)(w:List Vl.Data)(d:Int)(k:Int):Option (Bool):=
 E.f20 fu w d k 0>>=fun o'95=>
 match o'95 with
 | .ret r097=>some r097
 | .go sx96=>
  some false
theorem E.f21_le (fu:Nat)(w:List Vl.Data)(d:Int)(k:Int):Ole (E.f21 fu w d k) (F.f21 w d k):=by
 unfold E.f21 F.f21
 repeat' (first|exact zB _|exact E.f20_le _ _ _ _ _|refine zC ?_ (fun _=> ?_)|refine zD ?_ ?_|split)
def E.f22 (fu:Nat)(w:List Vl.Data)(d:Nat)(k:Nat):Option (Lo Bool Unit):=
 match fu with
 |0=>none
 |fu+1=>
  w[d]?>>=fun x17=>
  if k<x17.ctors.length then
   x17.ctors[k]?>>=fun x22=>
   E.f17 fu (w.length:Int) x22>>=fun v24=>
   if v24=true then
    E.f21 fu w (d:Int) (k:Int)>>=fun v28=>
    if v28=true then
     some (.ret false)
    else
     if k+1<=9223372036854775807 then
      E.f22 fu w d (k+1)
     else none
   else
    some (.ret false)
  else
   some (.go ())
theorem E.f22_le :∀(fu:Nat) (w:List Vl.Data) (d:Nat) (k:Nat),Ole (E.f22 fu w d k) (F.f22 w d k):=by
 intro fu
 induction fu with
 |zero=>intros;exact zE _
 |succ fu ih=>
  intro w d k
  rw[E.f22,F.f22]
  repeat' (first|exact zB _|exact E.f17_le _ _ _|exact E.f21_le _ _ _ _|exact ih _ _ _|refine zC ?_ (fun _=> ?_)|refine zD ?_ ?_|split)
def E.f23 (fu:Nat)(w:List Vl.Data)(d:Nat):Option (Lo Bool Unit):=
 match fu with
 |0=>none
 |fu+1=>
  if d<w.length then
   w[d]?>>=fun x=>
   E.f12 fu x.name>>=fun v=>
   if v=true then
    if x.ctors.length=0 then
     some (.ret false)
    else
     if 4<x.ctors.length then
      some (.ret false)
     else
      E.f22 fu w d 0>>=fun o'=>
      match o' with
      | .ret r0=>some (.ret r0)
      | .go sx=>
       if d+1<=9223372036854775807 then
        E.f23 fu w (d+1)
       else none
   else
    some (.ret false)
  else
   some (.go ())
theorem E.f23_le :∀(fu:Nat) (w:List Vl.Data) (d:Nat),Ole (E.f23 fu w d) (F.f23 w d):=by
 intro fu
 induction fu with
 |zero=>intros;exact zE _
 |succ fu ih=>
  intro w d
  rw[E.f23,F.f23]
  repeat' (first|exact zB _|exact E.f22_le _ _ _ _|exact E.f12_le _ _|exact ih _ _|refine zC ?_ (fun _=> ?_)|refine zD ?_ ?_|split)
def E.f24 (fu:Nat)(w:List Vl.Data):Option (Bool):=
 if 4<w.length then
  some false
 else
  E.f23 fu w 0>>=fun o'38=>
  match o'38 with
  | .ret r040=>some r040
  | .go sx39=>
   some true
theorem E.f24_le (fu:Nat)(w:List Vl.Data):Ole (E.f24 fu w) (F.f24 w):=by
 unfold E.f24 F.f24
 repeat' (first|exact zB _|exact E.f23_le _ _ _|refine zC ?_ (fun _=> ?_)|refine zD ?_ ?_|split)
def E.f25 (fu:Nat)(n7:Int)(out:ByteArray):Option (Int×ByteArray):=
 match fu with
 |0=>none
 |fu+1=>
  if 9<n7 then
   if(ZG4 [zF.wrap (i64.wrap (48+n7.tmod 10))]).size+out.size<=9223372036854775807 then
    E.f25 fu (i64.wrap (n7.tdiv 10)) ((ZG4 [zF.wrap (i64.wrap (48+n7.tmod 10))])++out)
   else none
  else
   some (n7,out)
theorem E.f25_le :∀(fu:Nat) (n7:Int) (out:ByteArray),Ole (E.f25 fu n7 out) (F.f25 n7 out):=by
 intro fu
 induction fu with
 |zero=>intros;exact zE _
 |succ fu ih=>
  intro n7 out
  rw[E.f25,F.f25]
  repeat' (first|exact zB _|exact ih _ _|refine zC ?_ (fun _=> ?_)|refine zD ?_ ?_|split)
def E.f26 (fu:Nat)(n:Int):Option (ByteArray):=
 match fu with
 |0=>none
 |fu+1=>
  if n<(-9223372036854775807)then
   some (⟨#[45,57,50,50,51,51,55,50,48,51,54,56,53,52,55,55,53,56,48,56]⟩:ByteArray)
  else
   if n<0 then
    E.f26 fu (i64.wrap (0-n))>>=fun v=>
    if(⟨#[45]⟩:ByteArray).size+v.size<=9223372036854775807 then
     some ((⟨#[45]⟩:ByteArray)++v)
    else none
   else
    E.f25 fu n zA>>=fun o'=>
    if(ZG4 [zF.wrap (i64.wrap (48+o'.1))]).size+o'.2.size<=9223372036854775807 then
     some ((ZG4 [zF.wrap (i64.wrap (48+o'.1))])++o'.2)
    else none
theorem E.f26_le :∀(fu:Nat) (n:Int),Ole (E.f26 fu n) (F.f26 n):=by
 intro fu
 induction fu with
 |zero=>intros;exact zE _
 |succ fu ih=>
  intro n
  rw[E.f26,F.f26]
  repeat' (first|exact zB _|exact E.f25_le _ _ _|exact ih _|refine zC ?_ (fun _=> ?_)|refine zD ?_ ?_|split)
def E.f27 (fu:Nat)(n:Int):Option (ByteArray):=
 if n=0 then
  some zA
 else
  if n=(-1)then
   some (⟨#[42]⟩:ByteArray)
  else
   E.f26 fu n>>=fun v=>
   some v
theorem E.f27_le (fu:Nat)(n:Int):Ole (E.f27 fu n) (F.f27 n):=by
 unfold E.f27 F.f27
 repeat' (first|exact zB _|exact E.f26_le _ _|refine zC ?_ (fun _=> ?_)|refine zD ?_ ?_|split)
def E.f28 (fu:Nat)(w:List Vl.Data)(t:Ty):Option (ByteArray):=
 if t.data=(-1)then
  some (⟨#[73]⟩:ByteArray)
 else
  at? w t.data>>=fun x=>
  E.f27 fu t.index>>=fun v=>
  if x.name.size+v.size<=9223372036854775807 then
   some (x.name++v)
  else none
theorem E.f28_le (fu:Nat)(w:List Vl.Data)(t:Ty):Ole (E.f28 fu w t) (F.f28 w t):=by
 unfold E.f28 F.f28
 repeat' (first|exact zB _|exact E.f27_le _ _|refine zC ?_ (fun _=> ?_)|refine zD ?_ ?_|split)
def E.f29 (fu:Nat)(w:List Vl.Data)(c':Ctor)(out:ByteArray)(i:Nat):Option (ByteArray):=
 match fu with
 |0=>none
 |fu+1=>
  if i<c'.args.length then
   if i=0 then
    if out.size+(⟨#[40]⟩:ByteArray).size<=9223372036854775807 then
     c'.args[i]?>>=fun x=>
     E.f28 fu w x>>=fun v=>
     if(out++(⟨#[40]⟩:ByteArray)).size+v.size<=9223372036854775807 then
      E.f29 fu w c' ((out++(⟨#[40]⟩:ByteArray))++v) (i+1)
     else none
    else none
   else
    if out.size+(⟨#[44]⟩:ByteArray).size<=9223372036854775807 then
     c'.args[i]?>>=fun x13=>
     E.f28 fu w x13>>=fun v15=>
     if(out++(⟨#[44]⟩:ByteArray)).size+v15.size<=9223372036854775807 then
      E.f29 fu w c' ((out++(⟨#[44]⟩:ByteArray))++v15) (i+1)
     else none
    else none
  else
   some out
theorem E.f29_le :∀(fu:Nat) (w:List Vl.Data) (c':Ctor) (out:ByteArray) (i:Nat),Ole (E.f29 fu w c' out i) (F.f29 w c' out i):=by
 intro fu
 induction fu with
 |zero=>intros;exact zE _
 |succ fu ih=>
  intro w c' out i
  rw[E.f29,F.f29]
  repeat' (first|exact zB _|exact E.f28_le _ _ _|exact ih _ _ _ _|refine zC ?_ (fun _=> ?_)|refine zD ?_ ?_|split)
def E.f30 (fu:Nat)(w:List Vl.Data)(c':Ctor):Option (ByteArray):=
 E.f29 fu w c' c'.name 0>>=fun o'=>
 if 0<c'.args.length then
  if o'.size+(⟨#[41]⟩:ByteArray).size<=9223372036854775807 then
   if 0<c'.index then
    if(o'++(⟨#[41]⟩:ByteArray)).size+(⟨#[58]⟩:ByteArray).size<=9223372036854775807 then
     E.f26 fu c'.index>>=fun v27=>
     if((o'++(⟨#[41]⟩:ByteArray))++(⟨#[58]⟩:ByteArray)).size+v27.size<=9223372036854775807 then
      some (((o'++(⟨#[41]⟩:ByteArray))++(⟨#[58]⟩:ByteArray))++v27)
     else none
    else none
   else
    some (o'++(⟨#[41]⟩:ByteArray))
  else none
 else
  if 0<c'.index then
   if o'.size+(⟨#[58]⟩:ByteArray).size<=9223372036854775807 then
    E.f26 fu c'.index>>=fun v33=>
    if(o'++(⟨#[58]⟩:ByteArray)).size+v33.size<=9223372036854775807 then
     some ((o'++(⟨#[58]⟩:ByteArray))++v33)
    else none
   else none
  else
   some o'
theorem E.f30_le (fu:Nat)(w:List Vl.Data)(c':Ctor):Ole (E.f30 fu w c') (F.f30 w c'):=by
 unfold E.f30 F.f30
 repeat' (first|exact zB _|exact E.f26_le _ _|exact E.f29_le _ _ _ _ _|refine zC ?_ (fun _=> ?_)|refine zD ?_ ?_|split)
def E.f31 (fu:Nat)(w:List Vl.Data)(d:Nat)(out11:ByteArray)(k:Nat):Option (ByteArray):=
 match fu with
 |0=>none
 |fu+1=>
  w[d]?>>=fun x12=>
  if k<x12.ctors.length then
   if 0<k then
    if out11.size+(⟨#[124]⟩:ByteArray).size<=9223372036854775807 then
     x12.ctors[k]?>>=fun x21=>
     E.f30 fu w x21>>=fun v=>
     if(out11++(⟨#[124]⟩:ByteArray)).size+v.size<=9223372036854775807 then
      if k+1<=9223372036854775807 then
       E.f31 fu w d ((out11++(⟨#[124]⟩:ByteArray))++v) (k+1)
      else none
     else none
    else none
   else
    x12.ctors[k]?>>=fun x27=>
    E.f30 fu w x27>>=fun v29=>
    if out11.size+v29.size<=9223372036854775807 then
     if k+1<=9223372036854775807 then
      E.f31 fu w d (out11++v29) (k+1)
     else none
    else none
  else
   some out11
theorem E.f31_le :∀(fu:Nat) (w:List Vl.Data) (d:Nat) (out11:ByteArray) (k:Nat),Ole (E.f31 fu w d out11 k) (F.f31 w d out11 k):=by
 intro fu
 induction fu with
 |zero=>intros;exact zE _
 |succ fu ih=>
  intro w d out11 k
  rw[E.f31,F.f31]
  repeat' (first|exact zB _|exact E.f30_le _ _ _|exact ih _ _ _ _|refine zC ?_ (fun _=> ?_)|refine zD ?_ ?_|split)
def E.f32 (fu:Nat)(w:List Vl.Data)(d:Nat)(out41:ByteArray)(k42:Nat):Option (ByteArray):=
 match fu with
 |0=>none
 |fu+1=>
  w[d]?>>=fun x43=>
  if k42<x43.ctors.length then
   if 0<k42 then
    if out41.size+(⟨#[124]⟩:ByteArray).size<=9223372036854775807 then
     x43.ctors[k42]?>>=fun x52=>
     E.f30 fu w x52>>=fun v54=>
     if(out41++(⟨#[124]⟩:ByteArray)).size+v54.size<=9223372036854775807 then
      if k42+1<=9223372036854775807 then
       E.f32 fu w d ((out41++(⟨#[124]⟩:ByteArray))++v54) (k42+1)
      else none
     else none
    else none
   else
    x43.ctors[k42]?>>=fun x59=>
    E.f30 fu w x59>>=fun v61=>
    if out41.size+v61.size<=9223372036854775807 then
     if k42+1<=9223372036854775807 then
      E.f32 fu w d (out41++v61) (k42+1)
     else none
    else none
  else
   some out41
theorem E.f32_le :∀(fu:Nat) (w:List Vl.Data) (d:Nat) (out41:ByteArray) (k42:Nat),Ole (E.f32 fu w d out41 k42) (F.f32 w d out41 k42):=by
 intro fu
 induction fu with
 |zero=>intros;exact zE _
 |succ fu ih=>
  intro w d out41 k42
  rw[E.f32,F.f32]
  repeat' (first|exact zB _|exact E.f30_le _ _ _|exact ih _ _ _ _|refine zC ?_ (fun _=> ?_)|refine zD ?_ ?_|split)
def E.f33 (fu:Nat)(w:List Vl.Data)(out:ByteArray)(d:Nat):Option (ByteArray):=
 match fu with
 |0=>none
 |fu+1=>
  if d<w.length then
   if 0<d then
    if out.size+(⟨#[59]⟩:ByteArray).size<=9223372036854775807 then
     w[d]?>>=fun x=>
     if(out++(⟨#[59]⟩:ByteArray)).size+x.name.size<=9223372036854775807 then
      if((out++(⟨#[59]⟩:ByteArray))++x.name).size+(⟨#[61]⟩:ByteArray).size<=9223372036854775807 then
       E.f31 fu w d (((out++(⟨#[59]⟩:ByteArray))++x.name)++(⟨#[61]⟩:ByteArray)) 0>>=fun o'=>
       if d+1<=9223372036854775807 then
        E.f33 fu w o' (d+1)
       else none
      else none
     else none
    else none
   else
    w[d]?>>=fun x37=>
    if out.size+x37.name.size<=9223372036854775807 then
     if(out++x37.name).size+(⟨#[61]⟩:ByteArray).size<=9223372036854775807 then
      E.f32 fu w d ((out++x37.name)++(⟨#[61]⟩:ByteArray)) 0>>=fun o'67=>
      if d+1<=9223372036854775807 then
       E.f33 fu w o'67 (d+1)
      else none
     else none
    else none
  else
   some out
theorem E.f33_le :∀(fu:Nat) (w:List Vl.Data) (out:ByteArray) (d:Nat),Ole (E.f33 fu w out d) (F.f33 w out d):=by
 intro fu
 induction fu with
 |zero=>intros;exact zE _
 |succ fu ih=>
  intro w out d
  rw[E.f33,F.f33]
  repeat' (first|exact zB _|exact E.f31_le _ _ _ _ _|exact E.f32_le _ _ _ _ _|exact ih _ _ _|refine zC ?_ (fun _=> ?_)|refine zD ?_ ?_|split)
def E.f34 (fu:Nat)(w:List Vl.Data):Option (ByteArray):=
 E.f33 fu w zA 0>>=fun o'71=>
 some o'71
theorem E.f34_le (fu:Nat)(w:List Vl.Data):Ole (E.f34 fu w) (F.f34 w):=by
 unfold E.f34 F.f34
 repeat' (first|exact zB _|exact E.f33_le _ _ _ _|refine zC ?_ (fun _=> ?_)|refine zD ?_ ?_|split)
def E.f35 (fu:Nat)(text:ByteArray)(v:List ByteArray)(names:List ByteArray)(i:Nat):Option (Lo ((List Vl.Data)×Bool) (List ByteArray)):=
 match fu with
 |0=>none
 |fu+1=>
  if i<v.length then
   if i<=4 then
    if text.toList=zA.toList then
     some (.go names)
    else
     v[i]?>>=fun x=>
     E.f3 fu x 61>>=fun v11=>
     if v11.length=2 then
      v11[0]?>>=fun x16=>
      if names.length+1<=67108864 then
       E.f35 fu text v (names++[x16]) (i+1)
      else none
     else
      some (.ret ([],false))
   else
    some (.go names)
  else
   some (.go names)
theorem E.f35_le :∀(fu:Nat) (text:ByteArray) (v:List ByteArray) (names:List ByteArray) (i:Nat),Ole (E.f35 fu text v names i) (F.f35 text v names i):=by
 intro fu
 induction fu with
 |zero=>intros;exact zE _
 |succ fu ih=>
  intro text v names i
  rw[E.f35,F.f35]
  repeat' (first|exact zB _|exact E.f3_le _ _ _|exact ih _ _ _ _|refine zC ?_ (fun _=> ?_)|refine zD ?_ ?_|split)
def E.f36 (fu:Nat)(text:ByteArray)(v:List ByteArray)(out:List Vl.Data)(names21:List ByteArray)(i22:Nat)(v32:List ByteArray)(x34:ByteArray)(out36:List Ctor)(k:Nat):Option (List Ctor):=
 match fu with
 |0=>none
 |fu+1=>
  if k<v32.length then
   if k<=4 then
    v32[k]?>>=fun x43=>
    E.f10 fu names21 x43>>=fun v45=>
    if out36.length+1<=67108864 then
     E.f36 fu text v out names21 i22 v32 x34 (out36++[v45]) (k+1)
    else none
   else
    some out36
  else
   some out36
theorem E.f36_le :∀(fu:Nat) (text:ByteArray) (v:List ByteArray) (out:List Vl.Data) (names21:List ByteArray) (i22:Nat) (v32:List ByteArray) (x34:ByteArray) (out36:List Ctor) (k:Nat),Ole (E.f36 fu text v out names21 i22 v32 x34 out36 k) (F.f36 text v out names21 i22 v32 x34 out36 k):=by
 intro fu
 induction fu with
 |zero=>intros;exact zE _
 |succ fu ih=>
  intro text v out names21 i22 v32 x34 out36 k
  rw[E.f36,F.f36]
  repeat' (first|exact zB _|exact E.f10_le _ _ _|exact ih _ _ _ _ _ _ _ _ _|refine zC ?_ (fun _=> ?_)|refine zD ?_ ?_|split)
def E.f37 (fu:Nat)(text:ByteArray)(v:List ByteArray)(out:List Vl.Data)(names21:List ByteArray)(i22:Nat):Option (List Vl.Data):=
 match fu with
 |0=>none
 |fu+1=>
  if i22<names21.length then
   v[i22]?>>=fun x26=>
   E.f3 fu x26 61>>=fun v28=>
   v28[1]?>>=fun x30=>
   E.f3 fu x30 124>>=fun v32=>
   names21[i22]?>>=fun x34=>
   E.f36 fu text v out names21 i22 v32 x34 [] 0>>=fun o'50=>
   if out.length+1<=67108864 then
    if i22+1<=9223372036854775807 then
     E.f37 fu text v (out++[(⟨x34,o'50⟩:Vl.Data)]) names21 (i22+1)
    else none
   else none
  else
   some out
theorem E.f37_le :∀(fu:Nat) (text:ByteArray) (v:List ByteArray) (out:List Vl.Data) (names21:List ByteArray) (i22:Nat),Ole (E.f37 fu text v out names21 i22) (F.f37 text v out names21 i22):=by
 intro fu
 induction fu with
 |zero=>intros;exact zE _
 |succ fu ih=>
  intro text v out names21 i22
  rw[E.f37,F.f37]
  repeat' (first|exact zB _|exact E.f36_le _ _ _ _ _ _ _ _ _ _|exact E.f3_le _ _ _|exact ih _ _ _ _ _|refine zC ?_ (fun _=> ?_)|refine zD ?_ ?_|split)
def E.f38 (fu:Nat)(text:ByteArray):Option ((List Vl.Data)×Bool):=
 E.f3 fu text 59>>=fun v=>
 E.f35 fu text v [] 0>>=fun o'=>
 match o' with
 | .ret r0=>some r0
 | .go sx=>
  E.f37 fu text v [] sx 0>>=fun o'55=>
  E.f24 fu o'55>>=fun v56=>
  if v56=true then
   E.f34 fu o'55>>=fun v60=>
   if v60.toList=text.toList then
    some (o'55,true)
   else
    some ([],false)
  else
   some ([],false)
theorem E.f38_le (fu:Nat)(text:ByteArray):Ole (E.f38 fu text) (F.f38 text):=by
 unfold E.f38 F.f38
 repeat' (first|exact zB _|exact E.f35_le _ _ _ _ _|exact E.f37_le _ _ _ _ _ _|exact E.f24_le _ _|exact E.f3_le _ _ _|exact E.f34_le _ _|refine zC ?_ (fun _=> ?_)|refine zD ?_ ?_|split)
def E.f40 (fu:Nat)(c':Ctor)(index':Int):Option (Bool):=
 if c'.index=0 then
  some true
 else
  if index'=0 then
   some true
  else
   some (decide (c'.index=index'))
theorem E.f40_le (fu:Nat)(c':Ctor)(index':Int):Ole (E.f40 fu c' index') (F.f40 c' index'):=by
 unfold E.f40 F.f40
 try simp only[Zv]
 repeat' (first|exact zB _|refine zC ?_ (fun _=> ?_)|refine zD ?_ ?_|split)
def E.f41 (fu:Nat)(w:List Vl.Data)(t:Ty)(out:List Int)(k:Nat):Option (List Int):=
 match fu with
 |0=>none
 |fu+1=>
  at? w t.data>>=fun x=>
  if k<x.ctors.length then
   x.ctors[k]?>>=fun x7=>
   E.f40 fu x7 t.index>>=fun v=>
   if v=true then
    if out.length+1<=67108864 then
     if k+1<=9223372036854775807 then
      E.f41 fu w t (out++[(k:Int)]) (k+1)
     else none
    else none
   else
    if k+1<=9223372036854775807 then
     E.f41 fu w t out (k+1)
    else none
  else
   some out
theorem E.f41_le :∀(fu:Nat) (w:List Vl.Data) (t:Ty) (out:List Int) (k:Nat),Ole (E.f41 fu w t out k) (F.f41 w t out k):=by
 intro fu
 induction fu with
 |zero=>intros;exact zE _
 |succ fu ih=>
  intro w t out k
  rw[E.f41,F.f41]
  repeat' (first|exact zB _|exact E.f40_le _ _ _|exact ih _ _ _ _|refine zC ?_ (fun _=> ?_)|refine zD ?_ ?_|split)
def E.f42 (fu:Nat)(w:List Vl.Data)(t:Ty):Option (List Int):=
 if t.data=(-1)then
  some []
 else
  E.f41 fu w t [] 0>>=fun o'=>
  some o'
theorem E.f42_le (fu:Nat)(w:List Vl.Data)(t:Ty):Ole (E.f42 fu w t) (F.f42 w t):=by
 unfold E.f42 F.f42
 repeat' (first|exact zB _|exact E.f41_le _ _ _ _ _|refine zC ?_ (fun _=> ?_)|refine zD ?_ ?_|split)
def E.f43 (fu:Nat)(c':Ctor)(index':Int):Option (Int):=
 if c'.index=0 then
  some index'
 else
  some c'.index
theorem E.f43_le (fu:Nat)(c':Ctor)(index':Int):Ole (E.f43 fu c' index') (F.f43 c' index'):=by
 unfold E.f43 F.f43
 repeat' (first|exact zB _|refine zC ?_ (fun _=> ?_)|refine zD ?_ ?_|split)
def E.f44 (fu:Nat)(t:Ty)(x2:Ctor)(out:List Ty)(i:Nat):Option (List Ty):=
 match fu with
 |0=>none
 |fu+1=>
  if i<x2.args.length then
   x2.args[i]?>>=fun x7=>
   if x7.index=(-1)then
    E.f43 fu x2 t.index>>=fun v=>
    if out.length+1<=67108864 then
     E.f44 fu t x2 (out++[(⟨x7.data,v⟩:Ty)]) (i+1)
    else none
   else
    if out.length+1<=67108864 then
     E.f44 fu t x2 (out++[x7]) (i+1)
    else none
  else
   some out
theorem E.f44_le :∀(fu:Nat) (t:Ty) (x2:Ctor) (out:List Ty) (i:Nat),Ole (E.f44 fu t x2 out i) (F.f44 t x2 out i):=by
 intro fu
 induction fu with
 |zero=>intros;exact zE _
 |succ fu ih=>
  intro t x2 out i
  rw[E.f44,F.f44]
  repeat' (first|exact zB _|exact E.f43_le _ _ _|exact ih _ _ _ _|refine zC ?_ (fun _=> ?_)|refine zD ?_ ?_|split)
def E.f45 (fu:Nat)(w:List Vl.Data)(t:Ty)(ctor:Int):Option (List Ty):=
 at? w t.data>>=fun x=>
 at? x.ctors ctor>>=fun x2=>
 E.f44 fu t x2 [] 0>>=fun o'=>
 some o'
theorem E.f45_le (fu:Nat)(w:List Vl.Data)(t:Ty)(ctor:Int):Ole (E.f45 fu w t ctor) (F.f45 w t ctor):=by
 unfold E.f45 F.f45
 repeat' (first|exact zB _|exact E.f44_le _ _ _ _ _|refine zC ?_ (fun _=> ?_)|refine zD ?_ ?_|split)
def E.f46 (fu:Nat)(t:Ty):Option (Int):=
 some (i64.wrap (i64.wrap (t.data*4)+t.index))
theorem E.f46_le (fu:Nat)(t:Ty):Ole (E.f46 fu t) (F.f46 t):=by
 unfold E.f46 F.f46
 repeat' (first|exact zB _|refine zC ?_ (fun _=> ?_)|refine zD ?_ ?_|split)
def E.f47 (fu:Nat)(table:List Int)(t:Ty):Option (Int):=
 if t.data=(-1)then
  some 1
 else
  E.f46 fu t>>=fun v=>
  at? table v>>=fun x=>
  some x
theorem E.f47_le (fu:Nat)(table:List Int)(t:Ty):Ole (E.f47 fu table t) (F.f47 table t):=by
 unfold E.f47 F.f47
 repeat' (first|exact zB _|exact E.f46_le _ _|refine zC ?_ (fun _=> ?_)|refine zD ?_ ?_|split)
def E.f48 (fu:Nat)(table:List Int)(v:List Ty)(most:Int)(i:Nat):Option (Lo Int Int):=
 match fu with
 |0=>none
 |fu+1=>
  if i<v.length then
   v[i]?>>=fun x=>
   E.f47 fu table x>>=fun v6=>
   if v6=0 then
    some (.ret 0)
   else
    if most<v6 then
     E.f48 fu table v v6 (i+1)
    else
     E.f48 fu table v most (i+1)
  else
   some (.go most)
theorem E.f48_le :∀(fu:Nat) (table:List Int) (v:List Ty) (most:Int) (i:Nat),Ole (E.f48 fu table v most i) (F.f48 table v most i):=by
 intro fu
 induction fu with
 |zero=>intros;exact zE _
 |succ fu ih=>
  intro table v most i
  rw[E.f48,F.f48]
  repeat' (first|exact zB _|exact E.f47_le _ _ _|exact ih _ _ _ _|refine zC ?_ (fun _=> ?_)|refine zD ?_ ?_|split)
def E.f49 (fu:Nat)(w:List Vl.Data)(table:List Int)(t:Ty)(ctor:Int):Option (Int):=
 E.f45 fu w t ctor>>=fun v=>
 E.f48 fu table v 0 0>>=fun o'=>
 match o' with
 | .ret r0=>some r0
 | .go sx=>
  some (i64.wrap (sx+1))
theorem E.f49_le (fu:Nat)(w:List Vl.Data)(table:List Int)(t:Ty)(ctor:Int):Ole (E.f49 fu w table t ctor) (F.f49 w table t ctor):=by
 unfold E.f49 F.f49
 repeat' (first|exact zB _|exact E.f45_le _ _ _ _|exact E.f48_le _ _ _ _ _|refine zC ?_ (fun _=> ?_)|refine zD ?_ ?_|split)
def E.f50 (fu:Nat)(w:List Vl.Data)(n:Nat)(s:Nat)(v:List Int)(table10:List Int)(i:Nat):Option (List Int):=
 match fu with
 |0=>none
 |fu+1=>
  if i<v.length then
   v[i]?>>=fun x=>
   E.f49 fu w table10 (⟨i64.wrap ((s:Int).tdiv 4),(s:Int).tmod 4⟩:Ty) x>>=fun v15=>
   if 0<v15 then
    table10[s]?>>=fun x19=>
    if x19=0 then
     E.f50 fu w n s v (table10.set s v15) (i+1)
    else
     if v15<x19 then
      E.f50 fu w n s v (table10.set s v15) (i+1)
     else
      E.f50 fu w n s v table10 (i+1)
   else
    E.f50 fu w n s v table10 (i+1)
  else
   some table10
theorem E.f50_le :∀(fu:Nat) (w:List Vl.Data) (n:Nat) (s:Nat) (v:List Int) (table10:List Int) (i:Nat),Ole (E.f50 fu w n s v table10 i) (F.f50 w n s v table10 i):=by
 intro fu
 induction fu with
 |zero=>intros;exact zE _
 |succ fu ih=>
  intro w n s v table10 i
  rw[E.f50,F.f50]
  repeat' (first|exact zB _|exact E.f49_le _ _ _ _ _|exact ih _ _ _ _ _ _|refine zC ?_ (fun _=> ?_)|refine zD ?_ ?_|split)
def E.f51 (fu:Nat)(w:List Vl.Data)(n:Nat)(table5:List Int)(s:Nat):Option (List Int):=
 match fu with
 |0=>none
 |fu+1=>
  if s<table5.length then
   E.f42 fu w (⟨i64.wrap ((s:Int).tdiv 4),(s:Int).tmod 4⟩:Ty)>>=fun v=>
   E.f50 fu w n s v table5 0>>=fun o'=>
   if s+1<=9223372036854775807 then
    E.f51 fu w n o' (s+1)
   else none
  else
   some table5
theorem E.f51_le :∀(fu:Nat) (w:List Vl.Data) (n:Nat) (table5:List Int) (s:Nat),Ole (E.f51 fu w n table5 s) (F.f51 w n table5 s):=by
 intro fu
 induction fu with
 |zero=>intros;exact zE _
 |succ fu ih=>
  intro w n table5 s
  rw[E.f51,F.f51]
  repeat' (first|exact zB _|exact E.f42_le _ _ _|exact E.f50_le _ _ _ _ _ _ _|exact ih _ _ _ _|refine zC ?_ (fun _=> ?_)|refine zD ?_ ?_|split)
def E.f52 (fu:Nat)(w:List Vl.Data)(table:List Int)(n:Nat):Option (List Int):=
 match fu with
 |0=>none
 |fu+1=>
  if n<=table.length then
   E.f51 fu w n table 0>>=fun o'33=>
   if n+1<=9223372036854775807 then
    E.f52 fu w o'33 (n+1)
   else none
  else
   some table
theorem E.f52_le :∀(fu:Nat) (w:List Vl.Data) (table:List Int) (n:Nat),Ole (E.f52 fu w table n) (F.f52 w table n):=by
 intro fu
 induction fu with
 |zero=>intros;exact zE _
 |succ fu ih=>
  intro w table n
  rw[E.f52,F.f52]
  repeat' (first|exact zB _|exact E.f51_le _ _ _ _ _|exact ih _ _ _|refine zC ?_ (fun _=> ?_)|refine zD ?_ ?_|split)
def E.f53 (fu:Nat)(w:List Vl.Data):Option (List Int):=
 if 0<=i64.wrap ((w.length:Int)*4)/\(i64.wrap ((w.length:Int)*4)).toNat<=67108864 then
  E.f52 fu w (List.replicate ((i64.wrap ((w.length:Int)*4)).toNat) 0) 0>>=fun o'37=>
  some o'37
 else none
theorem E.f53_le (fu:Nat)(w:List Vl.Data):Ole (E.f53 fu w) (F.f53 w):=by
 unfold E.f53 F.f53
 repeat' (first|exact zB _|exact E.f52_le _ _ _ _|refine zC ?_ (fun _=> ?_)|refine zD ?_ ?_|split)
end
end Go.Vl
