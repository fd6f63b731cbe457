/- Functions of the program with fuel, to be computed (printed by gen_e.py). -/
import Derived.Test.YtkgcopogpmckdaaGreatGuardFreeF
import Derived.Test.YtkgcopogpmckdaaGreatVlE
set_option linter.all false
namespace Go.Vl
open Go
noncomputable section
def E.f1 (fu:Nat)(s:ByteArray)(c':Int)(out:List ByteArray)(from':Nat)(i:Nat):Option (List ByteArray):=
 match fu with
 |0=>none
 |fu+1=>
  if i≤s.size then
   if i=s.size then
    if from'≤i∧i≤s.size then
     if out.length+1≤67108864 then
      if i+1≤9223372036854775807 then
       E.f1 fu s c' (out++[s.extract from' i]) (i+1) (i+1)
      else none
     else none
    else none
   else
    if i<s.size then
     if((byteAt s i:Nat):Int)=c' then
      if from'≤i∧i≤s.size then
       if out.length+1≤67108864 then
        if i+1≤9223372036854775807 then
         E.f1 fu s c' (out++[s.extract from' i]) (i+1) (i+1)
        else none
       else none
      else none
     else
      if i+1≤9223372036854775807 then
       E.f1 fu s c' out from' (i+1)
      else none
    else none
  else
   some out
theorem E.f1_le :∀(fu:Nat) (s:ByteArray) (c':Int) (out:List ByteArray) (from':Nat) (i:Nat),Ole (E.f1 fu s c' out from' i) (F.f1 s c' out from' i):=by
 intro fu
 induction fu with
 |zero=>intros;exact Ole.none _
 |succ fu ih=>
  intro s c' out from' i
  rw[E.f1,F.f1]
  repeat' (first|exact Ole.refl _|exact ih _ _ _ _ _|refine Ole.bind ?_ (fun _=> ?_)|refine Ole.ite ?_ ?_|split)
def E.f2 (fu:Nat)(s:ByteArray)(c':Int):Option (List ByteArray):=
 (E.f1 fu s c' [] 0 0)>>=fun o'=>
 some o'
theorem E.f2_le (fu:Nat)(s:ByteArray)(c':Int):Ole (E.f2 fu s c') (F.f2 s c'):=by
 unfold E.f2 F.f2
 repeat' (first|exact Ole.refl _|exact E.f1_le _ _ _ _ _ _|refine Ole.bind ?_ (fun _=> ?_)|refine Ole.ite ?_ ?_|split)
def E.f3 (fu:Nat)(names:List ByteArray)(s:ByteArray)(i:Nat):Option (Lo Int Unit):=
 match fu with
 |0=>none
 |fu+1=>
  if i<names.length then
   (names[i]?)>>=fun x=>
   if x.toList=s.toList then
    some (.ret (i:Int))
   else
    E.f3 fu names s (i+1)
  else
   some (.go ())
theorem E.f3_le :∀(fu:Nat) (names:List ByteArray) (s:ByteArray) (i:Nat),Ole (E.f3 fu names s i) (F.f3 names s i):=by
 intro fu
 induction fu with
 |zero=>intros;exact Ole.none _
 |succ fu ih=>
  intro names s i
  rw[E.f3,F.f3]
  repeat' (first|exact Ole.refl _|exact ih _ _ _|refine Ole.bind ?_ (fun _=> ?_)|refine Ole.ite ?_ ?_|split)
def E.f4 (fu:Nat)(names:List ByteArray)(s:ByteArray):Option (Int):=
 if s.toList=(⟨#[73]⟩:ByteArray).toList then
  some (-1)
 else
  (E.f3 fu names s 0)>>=fun o'=>
  match o' with
  | .ret r0=>some r0
  | .go sx=>
   some (-2)
theorem E.f4_le (fu:Nat)(names:List ByteArray)(s:ByteArray):Ole (E.f4 fu names s) (F.f4 names s):=by
 unfold E.f4 F.f4
 repeat' (first|exact Ole.refl _|exact E.f3_le _ _ _ _|refine Ole.bind ?_ (fun _=> ?_)|refine Ole.ite ?_ ?_|split)
def E.f5 (fu:Nat)(names:List ByteArray)(s:ByteArray):Option (Ty):=
 if s.toList=ByteArray.empty.toList then
  some (⟨(-2),0⟩:Ty)
 else
  if 1≤s.size then
   (E.f4 fu names (s.extract 0 1))>>=fun v=>
   if(s.extract 1 s.size).toList=(⟨#[42]⟩:ByteArray).toList then
    some (⟨v,(-1)⟩:Ty)
   else
    if s.size=2 then
     if 1<s.size then
      if 48≤byteAt s 1 then
       if byteAt s 1≤57 then
        some (⟨v,IntKind.i64.wrap (IntKind.u8.wrap (((byteAt s 1:Nat):Int) -48))⟩:Ty)
       else
        some (⟨v,0⟩:Ty)
      else
       some (⟨v,0⟩:Ty)
     else none
    else
     some (⟨v,0⟩:Ty)
  else none
theorem E.f5_le (fu:Nat)(names:List ByteArray)(s:ByteArray):Ole (E.f5 fu names s) (F.f5 names s):=by
 unfold E.f5 F.f5
 repeat' (first|exact Ole.refl _|exact E.f4_le _ _ _|refine Ole.bind ?_ (fun _=> ?_)|refine Ole.ite ?_ ?_|split)
def E.f6 (fu:Nat)(names:List ByteArray)(s:ByteArray)(x:ByteArray)(v21:List ByteArray)(out:List Ty)(i:Nat):Option (List Ty):=
 match fu with
 |0=>none
 |fu+1=>
  if i<v21.length then
   if i≤3 then
    (v21[i]?)>>=fun x29=>
    (E.f5 fu names x29)>>=fun v31=>
    if out.length+1≤67108864 then
     E.f6 fu names s x v21 (out++[v31]) (i+1)
    else none
   else
    some out
  else
   some out
theorem E.f6_le :∀(fu:Nat) (names:List ByteArray) (s:ByteArray) (x:ByteArray) (v21:List ByteArray) (out:List Ty) (i:Nat),Ole (E.f6 fu names s x v21 out i) (F.f6 names s x v21 out i):=by
 intro fu
 induction fu with
 |zero=>intros;exact Ole.none _
 |succ fu ih=>
  intro names s x v21 out i
  rw[E.f6,F.f6]
  repeat' (first|exact Ole.refl _|exact E.f5_le _ _ _|exact ih _ _ _ _ _ _|refine Ole.bind ?_ (fun _=> ?_)|refine Ole.ite ?_ ?_|split)
def E.f7 (fu:Nat)(names:List ByteArray)(x38:ByteArray)(v49:List ByteArray)(out51:List Ty)(i52:Nat):Option (List Ty):=
 match fu with
 |0=>none
 |fu+1=>
  if i52<v49.length then
   if i52≤3 then
    (v49[i52]?)>>=fun x59=>
    (E.f5 fu names x59)>>=fun v61=>
    if out51.length+1≤67108864 then
     E.f7 fu names x38 v49 (out51++[v61]) (i52+1)
    else none
   else
    some out51
  else
   some out51
theorem E.f7_le :∀(fu:Nat) (names:List ByteArray) (x38:ByteArray) (v49:List ByteArray) (out51:List Ty) (i52:Nat),Ole (E.f7 fu names x38 v49 out51 i52) (F.f7 names x38 v49 out51 i52):=by
 intro fu
 induction fu with
 |zero=>intros;exact Ole.none _
 |succ fu ih=>
  intro names x38 v49 out51 i52
  rw[E.f7,F.f7]
  repeat' (first|exact Ole.refl _|exact E.f5_le _ _ _|exact ih _ _ _ _ _|refine Ole.bind ?_ (fun _=> ?_)|refine Ole.ite ?_ ?_|split)
def E.f8 (fu:Nat)(names:List ByteArray)(x69:ByteArray)(v80:List ByteArray)(out82:List Ty)(i83:Nat):Option (List Ty):=
 match fu with
 |0=>none
 |fu+1=>
  if i83<v80.length then
   if i83≤3 then
    (v80[i83]?)>>=fun x90=>
    (E.f5 fu names x90)>>=fun v92=>
    if out82.length+1≤67108864 then
     E.f8 fu names x69 v80 (out82++[v92]) (i83+1)
    else none
   else
    some out82
  else
   some out82
theorem E.f8_le :∀(fu:Nat) (names:List ByteArray) (x69:ByteArray) (v80:List ByteArray) (out82:List Ty) (i83:Nat),Ole (E.f8 fu names x69 v80 out82 i83) (F.f8 names x69 v80 out82 i83):=by
 intro fu
 induction fu with
 |zero=>intros;exact Ole.none _
 |succ fu ih=>
  intro names x69 v80 out82 i83
  rw[E.f8,F.f8]
  repeat' (first|exact Ole.refl _|exact E.f5_le _ _ _|exact ih _ _ _ _ _|refine Ole.bind ?_ (fun _=> ?_)|refine Ole.ite ?_ ?_|split)
def E.f9 (fu:Nat)(names:List ByteArray)(s:ByteArray):Option (Ctor):=
 if 2<s.size then
  if 0≤IntKind.i64.wrap ((s.size:Int) -2)∧(IntKind.i64.wrap ((s.size:Int) -2)).toNat<s.size then
   if byteAt s ((IntKind.i64.wrap ((s.size:Int) -2)).toNat)=58 then
    if 0≤IntKind.i64.wrap ((s.size:Int) -1)∧(IntKind.i64.wrap ((s.size:Int) -1)).toNat<s.size then
     if 0≤IntKind.i64.wrap ((s.size:Int) -2)∧(IntKind.i64.wrap ((s.size:Int) -2)).toNat≤s.size then
      (E.f2 fu (s.extract 0 ((IntKind.i64.wrap ((s.size:Int) -2)).toNat)) 40)>>=fun v=>
      (v[0]?)>>=fun x=>
      if v.length<2 then
       some (⟨x,[],IntKind.i64.wrap (IntKind.i64.wrap ((byteAt s ((IntKind.i64.wrap ((s.size:Int) -1)).toNat):Nat):Int) -48)⟩:Ctor)
      else
       (v[1]?)>>=fun x15=>
       if x15.size=0 then
        some (⟨x,[],IntKind.i64.wrap (IntKind.i64.wrap ((byteAt s ((IntKind.i64.wrap ((s.size:Int) -1)).toNat):Nat):Int) -48)⟩:Ctor)
       else
        if 0≤IntKind.i64.wrap ((x15.size:Int) -1)∧(IntKind.i64.wrap ((x15.size:Int) -1)).toNat≤x15.size then
         (E.f2 fu (x15.extract 0 ((IntKind.i64.wrap ((x15.size:Int) -1)).toNat)) 44)>>=fun v21=>
         (E.f6 fu names s x v21 [] 0)>>=fun o'=>
         some (⟨x,o',IntKind.i64.wrap (IntKind.i64.wrap ((byteAt s ((IntKind.i64.wrap ((s.size:Int) -1)).toNat):Nat):Int) -48)⟩:Ctor)
        else none
     else none
    else none
   else
    (E.f2 fu s 40)>>=fun v36=>
    (v36[0]?)>>=fun x38=>
    if v36.length<2 then
     some (⟨x38,[],0⟩:Ctor)
    else
     (v36[1]?)>>=fun x43=>
     if x43.size=0 then
      some (⟨x38,[],0⟩:Ctor)
     else
      if 0≤IntKind.i64.wrap ((x43.size:Int) -1)∧(IntKind.i64.wrap ((x43.size:Int) -1)).toNat≤x43.size then
       (E.f2 fu (x43.extract 0 ((IntKind.i64.wrap ((x43.size:Int) -1)).toNat)) 44)>>=fun v49=>
       (E.f7 fu names x38 v49 [] 0)>>=fun o'66=>
       some (⟨x38,o'66,0⟩:Ctor)
      else none
  else none
 else
  (E.f2 fu s 40)>>=fun v67=>
  (v67[0]?)>>=fun x69=>
  if v67.length<2 then
   some (⟨x69,[],0⟩:Ctor)
  else
   (v67[1]?)>>=fun x74=>
   if x74.size=0 then
    some (⟨x69,[],0⟩:Ctor)
   else
    if 0≤IntKind.i64.wrap ((x74.size:Int) -1)∧(IntKind.i64.wrap ((x74.size:Int) -1)).toNat≤x74.size then
     (E.f2 fu (x74.extract 0 ((IntKind.i64.wrap ((x74.size:Int) -1)).toNat)) 44)>>=fun v80=>
     (E.f8 fu names x69 v80 [] 0)>>=fun o'97=>
     some (⟨x69,o'97,0⟩:Ctor)
    else none
theorem E.f9_le (fu:Nat)(names:List ByteArray)(s:ByteArray):Ole (E.f9 fu names s) (F.f9 names s):=by
 unfold E.f9 F.f9
 repeat' (first|exact Ole.refl _|exact E.f2_le _ _ _|exact E.f6_le _ _ _ _ _ _ _|exact E.f7_le _ _ _ _ _ _|exact E.f8_le _ _ _ _ _ _|refine Ole.bind ?_ (fun _=> ?_)|refine Ole.ite ?_ ?_|split)
def E.f10 (fu:Nat)(c':Int):Option (Bool):=
 if 65≤c' then
  some (decide (c'≤90))
 else
  some false
theorem E.f10_le (fu:Nat)(c':Int):Ole (E.f10 fu c') (F.f10 c'):=by
 unfold E.f10 F.f10
 try simp only[dec_eq]
 repeat' (first|exact Ole.refl _|refine Ole.bind ?_ (fun _=> ?_)|refine Ole.ite ?_ ?_|split)
def E.f11 (fu:Nat)(s:ByteArray):Option (Bool):=
 if s.size=1 then
  if 0<s.size then
   (E.f10 fu ((byteAt s 0:Nat):Int))>>=fun v=>
   if v=true then
    some (decide (¬(s.toList=(⟨#[73]⟩:ByteArray).toList)))
   else
    some false
  else none
 else
  some false
theorem E.f11_le (fu:Nat)(s:ByteArray):Ole (E.f11 fu s) (F.f11 s):=by
 unfold E.f11 F.f11
 try simp only[dec_eq]
 repeat' (first|exact Ole.refl _|exact E.f10_le _ _|refine Ole.bind ?_ (fun _=> ?_)|refine Ole.ite ?_ ?_|split)
def E.f12 (fu:Nat)(s:ByteArray)(i:Nat):Option (Lo Bool Unit):=
 match fu with
 |0=>none
 |fu+1=>
  if i<s.size then
   if byteAt s i<97 then
    some (.ret false)
   else
    if 122<byteAt s i then
     some (.ret false)
    else
     if i+1≤9223372036854775807 then
      E.f12 fu s (i+1)
     else none
  else
   some (.go ())
theorem E.f12_le :∀(fu:Nat) (s:ByteArray) (i:Nat),Ole (E.f12 fu s i) (F.f12 s i):=by
 intro fu
 induction fu with
 |zero=>intros;exact Ole.none _
 |succ fu ih=>
  intro s i
  rw[E.f12,F.f12]
  repeat' (first|exact Ole.refl _|exact ih _ _|refine Ole.bind ?_ (fun _=> ?_)|refine Ole.ite ?_ ?_|split)
def E.f13 (fu:Nat)(s:ByteArray):Option (Bool):=
 if s.size=0 then
  some false
 else
  if 5<s.size then
   some false
  else
   if 0<s.size then
    (E.f10 fu ((byteAt s 0:Nat):Int))>>=fun v=>
    if v=true then
     (E.f12 fu s 1)>>=fun o'=>
     match o' with
     | .ret r0=>some r0
     | .go sx=>
      some true
    else
     some false
   else none
theorem E.f13_le (fu:Nat)(s:ByteArray):Ole (E.f13 fu s) (F.f13 s):=by
 unfold E.f13 F.f13
 repeat' (first|exact Ole.refl _|exact E.f12_le _ _ _|exact E.f10_le _ _|refine Ole.bind ?_ (fun _=> ?_)|refine Ole.ite ?_ ?_|split)
def E.f14 (fu:Nat)(n:Int)(t:Ty):Option (Bool):=
 if t.data=(-1)then
  some (decide (t.index=0))
 else
  if 0≤t.data then
   if t.data<n then
    if(-1)≤t.index then
     some (decide (t.index≤3))
    else
     some false
   else
    some false
  else
   some false
theorem E.f14_le (fu:Nat)(n:Int)(t:Ty):Ole (E.f14 fu n t) (F.f14 n t):=by
 unfold E.f14 F.f14
 try simp only[dec_eq]
 repeat' (first|exact Ole.refl _|refine Ole.bind ?_ (fun _=> ?_)|refine Ole.ite ?_ ?_|split)
def E.f15 (fu:Nat)(n:Int)(c':Ctor)(i:Nat):Option (Lo Bool Unit):=
 match fu with
 |0=>none
 |fu+1=>
  if i<c'.args.length then
   (c'.args[i]?)>>=fun x=>
   (E.f14 fu n x)>>=fun v15=>
   if v15=true then
    E.f15 fu n c' (i+1)
   else
    some (.ret false)
  else
   some (.go ())
theorem E.f15_le :∀(fu:Nat) (n:Int) (c':Ctor) (i:Nat),Ole (E.f15 fu n c' i) (F.f15 n c' i):=by
 intro fu
 induction fu with
 |zero=>intros;exact Ole.none _
 |succ fu ih=>
  intro n c' i
  rw[E.f15,F.f15]
  repeat' (first|exact Ole.refl _|exact E.f14_le _ _ _|exact ih _ _ _|refine Ole.bind ?_ (fun _=> ?_)|refine Ole.ite ?_ ?_|split)
def E.f16 (fu:Nat)(n:Int)(c':Ctor):Option (Bool):=
 (E.f13 fu c'.name)>>=fun v=>
 if v=true then
  if 3<c'.args.length then
   some false
  else
   if c'.index<0 then
    some false
   else
    if 3<c'.index then
     some false
    else
     (E.f15 fu n c' 0)>>=fun o'=>
     match o' with
     | .ret r0=>some r0
     | .go sx=>
      some true
 else
  some false
theorem E.f16_le (fu:Nat)(n:Int)(c':Ctor):Ole (E.f16 fu n c') (F.f16 n c'):=by
 unfold E.f16 F.f16
 repeat' (first|exact Ole.refl _|exact E.f13_le _ _|exact E.f15_le _ _ _ _|refine Ole.bind ?_ (fun _=> ?_)|refine Ole.ite ?_ ?_|split)
def E.f17 (fu:Nat)(w:List Vl.Data)(d:Int)(k:Int)(i:Nat)(j:Nat):Option (Lo Bool Unit):=
 match fu with
 |0=>none
 |fu+1=>
  (w[i]?)>>=fun x10=>
  if j<x10.ctors.length then
   if(i:Int)<d then
    (at? w d)>>=fun x33=>
    if k<(x33.ctors.length:Int)then
     (x10.ctors[j]?)>>=fun x37=>
     (at? x33.ctors k)>>=fun x39=>
     if x37.name.toList=x39.name.toList then
      some (.ret true)
     else
      if j+1≤9223372036854775807 then
       E.f17 fu w d k i (j+1)
      else none
    else
     if j+1≤9223372036854775807 then
      E.f17 fu w d k i (j+1)
     else none
   else
    if(j:Int)<k then
     (at? w d)>>=fun x19=>
     if k<(x19.ctors.length:Int)then
      (x10.ctors[j]?)>>=fun x23=>
      (at? x19.ctors k)>>=fun x25=>
      if x23.name.toList=x25.name.toList then
       some (.ret true)
      else
       if j+1≤9223372036854775807 then
        E.f17 fu w d k i (j+1)
       else none
     else
      if j+1≤9223372036854775807 then
       E.f17 fu w d k i (j+1)
      else none
    else
     some (.go ())
  else
   some (.go ())
theorem E.f17_le :∀(fu:Nat) (w:List Vl.Data) (d:Int) (k:Int) (i:Nat) (j:Nat),Ole (E.f17 fu w d k i j) (F.f17 w d k i j):=by
 intro fu
 induction fu with
 |zero=>intros;exact Ole.none _
 |succ fu ih=>
  intro w d k i j
  rw[E.f17,F.f17]
  repeat' (first|exact Ole.refl _|exact ih _ _ _ _ _|refine Ole.bind ?_ (fun _=> ?_)|refine Ole.ite ?_ ?_|split)
def E.f18 (fu:Nat)(w:List Vl.Data)(d:Int)(k:Int)(i:Nat)(j50:Nat):Option (Lo Bool Unit):=
 match fu with
 |0=>none
 |fu+1=>
  (w[i]?)>>=fun x51=>
  if j50<x51.ctors.length then
   if(i:Int)<d then
    (at? w d)>>=fun x74=>
    if k<(x74.ctors.length:Int)then
     (x51.ctors[j50]?)>>=fun x78=>
     (at? x74.ctors k)>>=fun x80=>
     if x78.name.toList=x80.name.toList then
      some (.ret true)
     else
      if j50+1≤9223372036854775807 then
       E.f18 fu w d k i (j50+1)
      else none
    else
     if j50+1≤9223372036854775807 then
      E.f18 fu w d k i (j50+1)
     else none
   else
    if(j50:Int)<k then
     (at? w d)>>=fun x60=>
     if k<(x60.ctors.length:Int)then
      (x51.ctors[j50]?)>>=fun x64=>
      (at? x60.ctors k)>>=fun x66=>
      if x64.name.toList=x66.name.toList then
       some (.ret true)
      else
       if j50+1≤9223372036854775807 then
        E.f18 fu w d k i (j50+1)
       else none
     else
      if j50+1≤9223372036854775807 then
       E.f18 fu w d k i (j50+1)
      else none
    else
     some (.go ())
  else
   some (.go ())
theorem E.f18_le :∀(fu:Nat) (w:List Vl.Data) (d:Int) (k:Int) (i:Nat) (j50:Nat),Ole (E.f18 fu w d k i j50) (F.f18 w d k i j50):=by
 intro fu
 induction fu with
 |zero=>intros;exact Ole.none _
 |succ fu ih=>
  intro w d k i j50
  rw[E.f18,F.f18]
  repeat' (first|exact Ole.refl _|exact ih _ _ _ _ _|refine Ole.bind ?_ (fun _=> ?_)|refine Ole.ite ?_ ?_|split)
def E.f19 (fu:Nat)(w:List Vl.Data)(d:Int)(k:Int)(i:Nat):Option (Lo Bool Unit):=
 match fu with
 |0=>none
 |fu+1=>
  if(i:Int)≤d then
   if(i:Int)<d then
    (w[i]?)>>=fun x=>
    (at? w d)>>=fun x6=>
    if x.name.toList=x6.name.toList then
     some (.ret true)
    else
     (E.f17 fu w d k i 0)>>=fun o'=>
     match o' with
     | .ret r0=>some (.ret r0)
     | .go sx=>
      if i+1≤9223372036854775807 then
       E.f19 fu w d k (i+1)
      else none
   else
    (E.f18 fu w d k i 0)>>=fun o'89=>
    match o'89 with
    | .ret r093=>some (.ret r093)
    | .go sx90=>
     if i+1≤9223372036854775807 then
      E.f19 fu w d k (i+1)
     else none
  else
   some (.go ())
theorem E.f19_le :∀(fu:Nat) (w:List Vl.Data) (d:Int) (k:Int) (i:Nat),Ole (E.f19 fu w d k i) (F.f19 w d k i):=by
 intro fu
 induction fu with
 |zero=>intros;exact Ole.none _
 |succ fu ih=>
  intro w d k i
  rw[E.f19,F.f19]
  repeat' (first|exact Ole.refl _|exact E.f17_le _ _ _ _ _ _|exact E.f18_le _ _ _ _ _ _|exact ih _ _ _ _|refine Ole.bind ?_ (fun _=> ?_)|refine Ole.ite ?_ ?_|split)
def E.f20 (fu:Nat)(w:List Vl.Data)(d:Int)(k:Int):Option (Bool):=
 (E.f19 fu w d k 0)>>=fun o'95=>
 match o'95 with
 | .ret r097=>some r097
 | .go sx96=>
  some false
theorem E.f20_le (fu:Nat)(w:List Vl.Data)(d:Int)(k:Int):Ole (E.f20 fu w d k) (F.f20 w d k):=by
 unfold E.f20 F.f20
 repeat' (first|exact Ole.refl _|exact E.f19_le _ _ _ _ _|refine Ole.bind ?_ (fun _=> ?_)|refine Ole.ite ?_ ?_|split)
def E.f21 (fu:Nat)(w:List Vl.Data)(d:Nat)(k:Nat):Option (Lo Bool Unit):=
 match fu with
 |0=>none
 |fu+1=>
  (w[d]?)>>=fun x17=>
  if k<x17.ctors.length then
   (x17.ctors[k]?)>>=fun x22=>
   (E.f16 fu (w.length:Int) x22)>>=fun v24=>
   if v24=true then
    (E.f20 fu w (d:Int) (k:Int))>>=fun v28=>
    if v28=true then
     some (.ret false)
    else
     if k+1≤9223372036854775807 then
      E.f21 fu w d (k+1)
     else none
   else
    some (.ret false)
  else
   some (.go ())
theorem E.f21_le :∀(fu:Nat) (w:List Vl.Data) (d:Nat) (k:Nat),Ole (E.f21 fu w d k) (F.f21 w d k):=by
 intro fu
 induction fu with
 |zero=>intros;exact Ole.none _
 |succ fu ih=>
  intro w d k
  rw[E.f21,F.f21]
  repeat' (first|exact Ole.refl _|exact E.f16_le _ _ _|exact E.f20_le _ _ _ _|exact ih _ _ _|refine Ole.bind ?_ (fun _=> ?_)|refine Ole.ite ?_ ?_|split)
def E.f22 (fu:Nat)(w:List Vl.Data)(d:Nat):Option (Lo Bool Unit):=
 match fu with
 |0=>none
 |fu+1=>
  if d<w.length then
   (w[d]?)>>=fun x=>
   (E.f11 fu x.name)>>=fun v=>
   if v=true then
    if x.ctors.length=0 then
     some (.ret false)
    else
     if 4<x.ctors.length then
      some (.ret false)
     else
      (E.f21 fu w d 0)>>=fun o'=>
      match o' with
      | .ret r0=>some (.ret r0)
      | .go sx=>
       if d+1≤9223372036854775807 then
        E.f22 fu w (d+1)
       else none
   else
    some (.ret false)
  else
   some (.go ())
theorem E.f22_le :∀(fu:Nat) (w:List Vl.Data) (d:Nat),Ole (E.f22 fu w d) (F.f22 w d):=by
 intro fu
 induction fu with
 |zero=>intros;exact Ole.none _
 |succ fu ih=>
  intro w d
  rw[E.f22,F.f22]
  repeat' (first|exact Ole.refl _|exact E.f21_le _ _ _ _|exact E.f11_le _ _|exact ih _ _|refine Ole.bind ?_ (fun _=> ?_)|refine Ole.ite ?_ ?_|split)
def E.f23 (fu:Nat)(w:List Vl.Data):Option (Bool):=
 if 4<w.length then
  some false
 else
  (E.f22 fu w 0)>>=fun o'38=>
  match o'38 with
  | .ret r040=>some r040
  | .go sx39=>
   some true
theorem E.f23_le (fu:Nat)(w:List Vl.Data):Ole (E.f23 fu w) (F.f23 w):=by
 unfold E.f23 F.f23
 repeat' (first|exact Ole.refl _|exact E.f22_le _ _ _|refine Ole.bind ?_ (fun _=> ?_)|refine Ole.ite ?_ ?_|split)
def E.f24 (fu:Nat)(n7:Int)(out:ByteArray):Option (Int×ByteArray):=
 match fu with
 |0=>none
 |fu+1=>
  if 9<n7 then
   if(strB [IntKind.u8.wrap (IntKind.i64.wrap (48+n7.tmod 10))]).size+out.size≤9223372036854775807 then
    E.f24 fu (IntKind.i64.wrap (n7.tdiv 10)) ((strB [IntKind.u8.wrap (IntKind.i64.wrap (48+n7.tmod 10))])++out)
   else none
  else
   some (n7,out)
theorem E.f24_le :∀(fu:Nat) (n7:Int) (out:ByteArray),Ole (E.f24 fu n7 out) (F.f24 n7 out):=by
 intro fu
 induction fu with
 |zero=>intros;exact Ole.none _
 |succ fu ih=>
  intro n7 out
  rw[E.f24,F.f24]
  repeat' (first|exact Ole.refl _|exact ih _ _|refine Ole.bind ?_ (fun _=> ?_)|refine Ole.ite ?_ ?_|split)
def E.f25 (fu:Nat)(n:Int):Option (ByteArray):=
 match fu with
 |0=>none
 |fu+1=>
  if n<(-9223372036854775807)then
   some (⟨#[45,57,50,50,51,51,55,50,48,51,54,56,53,52,55,55,53,56,48,56]⟩:ByteArray)
  else
   if n<0 then
    (E.f25 fu (IntKind.i64.wrap (0-n)))>>=fun v=>
    if(⟨#[45]⟩:ByteArray).size+v.size≤9223372036854775807 then
     some ((⟨#[45]⟩:ByteArray)++v)
    else none
   else
    (E.f24 fu n ByteArray.empty)>>=fun o'=>
    if(strB [IntKind.u8.wrap (IntKind.i64.wrap (48+o'.1))]).size+o'.2.size≤9223372036854775807 then
     some ((strB [IntKind.u8.wrap (IntKind.i64.wrap (48+o'.1))])++o'.2)
    else none
theorem E.f25_le :∀(fu:Nat) (n:Int),Ole (E.f25 fu n) (F.f25 n):=by
 intro fu
 induction fu with
 |zero=>intros;exact Ole.none _
 |succ fu ih=>
  intro n
  rw[E.f25,F.f25]
  repeat' (first|exact Ole.refl _|exact E.f24_le _ _ _|exact ih _|refine Ole.bind ?_ (fun _=> ?_)|refine Ole.ite ?_ ?_|split)
def E.f26 (fu:Nat)(n:Int):Option (ByteArray):=
 if n=0 then
  some ByteArray.empty
 else
  if n=(-1)then
   some (⟨#[42]⟩:ByteArray)
  else
   (E.f25 fu n)>>=fun v=>
   some v
theorem E.f26_le (fu:Nat)(n:Int):Ole (E.f26 fu n) (F.f26 n):=by
 unfold E.f26 F.f26
 repeat' (first|exact Ole.refl _|exact E.f25_le _ _|refine Ole.bind ?_ (fun _=> ?_)|refine Ole.ite ?_ ?_|split)
def E.f27 (fu:Nat)(w:List Vl.Data)(t:Ty):Option (ByteArray):=
 if t.data=(-1)then
  some (⟨#[73]⟩:ByteArray)
 else
  (at? w t.data)>>=fun x=>
  (E.f26 fu t.index)>>=fun v=>
  if x.name.size+v.size≤9223372036854775807 then
   some (x.name++v)
  else none
theorem E.f27_le (fu:Nat)(w:List Vl.Data)(t:Ty):Ole (E.f27 fu w t) (F.f27 w t):=by
 unfold E.f27 F.f27
 repeat' (first|exact Ole.refl _|exact E.f26_le _ _|refine Ole.bind ?_ (fun _=> ?_)|refine Ole.ite ?_ ?_|split)
def E.f28 (fu:Nat)(w:List Vl.Data)(c':Ctor)(out:ByteArray)(i:Nat):Option (ByteArray):=
 match fu with
 |0=>none
 |fu+1=>
  if i<c'.args.length then
   if i=0 then
    if out.size+(⟨#[40]⟩:ByteArray).size≤9223372036854775807 then
     (c'.args[i]?)>>=fun x=>
     (E.f27 fu w x)>>=fun v=>
     if(out++(⟨#[40]⟩:ByteArray)).size+v.size≤9223372036854775807 then
      E.f28 fu w c' ((out++(⟨#[40]⟩:ByteArray))++v) (i+1)
     else none
    else none
   else
    if out.size+(⟨#[44]⟩:ByteArray).size≤9223372036854775807 then
     (c'.args[i]?)>>=fun x13=>
     (E.f27 fu w x13)>>=fun v15=>
     if(out++(⟨#[44]⟩:ByteArray)).size+v15.size≤9223372036854775807 then
      E.f28 fu w c' ((out++(⟨#[44]⟩:ByteArray))++v15) (i+1)
     else none
    else none
  else
   some out
theorem E.f28_le :∀(fu:Nat) (w:List Vl.Data) (c':Ctor) (out:ByteArray) (i:Nat),Ole (E.f28 fu w c' out i) (F.f28 w c' out i):=by
 intro fu
 induction fu with
 |zero=>intros;exact Ole.none _
 |succ fu ih=>
  intro w c' out i
  rw[E.f28,F.f28]
  repeat' (first|exact Ole.refl _|exact E.f27_le _ _ _|exact ih _ _ _ _|refine Ole.bind ?_ (fun _=> ?_)|refine Ole.ite ?_ ?_|split)
def E.f29 (fu:Nat)(w:List Vl.Data)(c':Ctor):Option (ByteArray):=
 (E.f28 fu w c' c'.name 0)>>=fun o'=>
 if 0<c'.args.length then
  if o'.size+(⟨#[41]⟩:ByteArray).size≤9223372036854775807 then
   if 0<c'.index then
    if(o'++(⟨#[41]⟩:ByteArray)).size+(⟨#[58]⟩:ByteArray).size≤9223372036854775807 then
     (E.f25 fu c'.index)>>=fun v27=>
     if((o'++(⟨#[41]⟩:ByteArray))++(⟨#[58]⟩:ByteArray)).size+v27.size≤9223372036854775807 then
      some (((o'++(⟨#[41]⟩:ByteArray))++(⟨#[58]⟩:ByteArray))++v27)
     else none
    else none
   else
    some (o'++(⟨#[41]⟩:ByteArray))
  else none
 else
  if 0<c'.index then
   if o'.size+(⟨#[58]⟩:ByteArray).size≤9223372036854775807 then
    (E.f25 fu c'.index)>>=fun v33=>
    if(o'++(⟨#[58]⟩:ByteArray)).size+v33.size≤9223372036854775807 then
     some ((o'++(⟨#[58]⟩:ByteArray))++v33)
    else none
   else none
  else
   some o'
theorem E.f29_le (fu:Nat)(w:List Vl.Data)(c':Ctor):Ole (E.f29 fu w c') (F.f29 w c'):=by
 unfold E.f29 F.f29
 repeat' (first|exact Ole.refl _|exact E.f25_le _ _|exact E.f28_le _ _ _ _ _|refine Ole.bind ?_ (fun _=> ?_)|refine Ole.ite ?_ ?_|split)
def E.f30 (fu:Nat)(w:List Vl.Data)(d:Nat)(out11:ByteArray)(k:Nat):Option (ByteArray):=
 match fu with
 |0=>none
 |fu+1=>
  (w[d]?)>>=fun x12=>
  if k<x12.ctors.length then
   if 0<k then
    if out11.size+(⟨#[124]⟩:ByteArray).size≤9223372036854775807 then
     (x12.ctors[k]?)>>=fun x21=>
     (E.f29 fu w x21)>>=fun v=>
     if(out11++(⟨#[124]⟩:ByteArray)).size+v.size≤9223372036854775807 then
      if k+1≤9223372036854775807 then
       E.f30 fu w d ((out11++(⟨#[124]⟩:ByteArray))++v) (k+1)
      else none
     else none
    else none
   else
    (x12.ctors[k]?)>>=fun x27=>
    (E.f29 fu w x27)>>=fun v29=>
    if out11.size+v29.size≤9223372036854775807 then
     if k+1≤9223372036854775807 then
      E.f30 fu w d (out11++v29) (k+1)
     else none
    else none
  else
   some out11
theorem E.f30_le :∀(fu:Nat) (w:List Vl.Data) (d:Nat) (out11:ByteArray) (k:Nat),Ole (E.f30 fu w d out11 k) (F.f30 w d out11 k):=by
 intro fu
 induction fu with
 |zero=>intros;exact Ole.none _
 |succ fu ih=>
  intro w d out11 k
  rw[E.f30,F.f30]
  repeat' (first|exact Ole.refl _|exact E.f29_le _ _ _|exact ih _ _ _ _|refine Ole.bind ?_ (fun _=> ?_)|refine Ole.ite ?_ ?_|split)
def E.f31 (fu:Nat)(w:List Vl.Data)(d:Nat)(out41:ByteArray)(k42:Nat):Option (ByteArray):=
 match fu with
 |0=>none
 |fu+1=>
  (w[d]?)>>=fun x43=>
  if k42<x43.ctors.length then
   if 0<k42 then
    if out41.size+(⟨#[124]⟩:ByteArray).size≤9223372036854775807 then
     (x43.ctors[k42]?)>>=fun x52=>
     (E.f29 fu w x52)>>=fun v54=>
     if(out41++(⟨#[124]⟩:ByteArray)).size+v54.size≤9223372036854775807 then
      if k42+1≤9223372036854775807 then
       E.f31 fu w d ((out41++(⟨#[124]⟩:ByteArray))++v54) (k42+1)
      else none
     else none
    else none
   else
    (x43.ctors[k42]?)>>=fun x59=>
    (E.f29 fu w x59)>>=fun v61=>
    if out41.size+v61.size≤9223372036854775807 then
     if k42+1≤9223372036854775807 then
      E.f31 fu w d (out41++v61) (k42+1)
     else none
    else none
  else
   some out41
theorem E.f31_le :∀(fu:Nat) (w:List Vl.Data) (d:Nat) (out41:ByteArray) (k42:Nat),Ole (E.f31 fu w d out41 k42) (F.f31 w d out41 k42):=by
 intro fu
 induction fu with
 |zero=>intros;exact Ole.none _
 |succ fu ih=>
  intro w d out41 k42
  rw[E.f31,F.f31]
  repeat' (first|exact Ole.refl _|exact E.f29_le _ _ _|exact ih _ _ _ _|refine Ole.bind ?_ (fun _=> ?_)|refine Ole.ite ?_ ?_|split)
def E.f32 (fu:Nat)(w:List Vl.Data)(out:ByteArray)(d:Nat):Option (ByteArray):=
 match fu with
 |0=>none
 |fu+1=>
  if d<w.length then
   if 0<d then
    if out.size+(⟨#[59]⟩:ByteArray).size≤9223372036854775807 then
     (w[d]?)>>=fun x=>
     if(out++(⟨#[59]⟩:ByteArray)).size+x.name.size≤9223372036854775807 then
      if((out++(⟨#[59]⟩:ByteArray))++x.name).size+(⟨#[61]⟩:ByteArray).size≤9223372036854775807 then
       (E.f30 fu w d (((out++(⟨#[59]⟩:ByteArray))++x.name)++(⟨#[61]⟩:ByteArray)) 0)>>=fun o'=>
       if d+1≤9223372036854775807 then
        E.f32 fu w o' (d+1)
       else none
      else none
     else none
    else none
   else
    (w[d]?)>>=fun x37=>
    if out.size+x37.name.size≤9223372036854775807 then
     if(out++x37.name).size+(⟨#[61]⟩:ByteArray).size≤9223372036854775807 then
      (E.f31 fu w d ((out++x37.name)++(⟨#[61]⟩:ByteArray)) 0)>>=fun o'67=>
      if d+1≤9223372036854775807 then
       E.f32 fu w o'67 (d+1)
      else none
     else none
    else none
  else
   some out
theorem E.f32_le :∀(fu:Nat) (w:List Vl.Data) (out:ByteArray) (d:Nat),Ole (E.f32 fu w out d) (F.f32 w out d):=by
 intro fu
 induction fu with
 |zero=>intros;exact Ole.none _
 |succ fu ih=>
  intro w out d
  rw[E.f32,F.f32]
  repeat' (first|exact Ole.refl _|exact E.f30_le _ _ _ _ _|exact E.f31_le _ _ _ _ _|exact ih _ _ _|refine Ole.bind ?_ (fun _=> ?_)|refine Ole.ite ?_ ?_|split)
def E.f33 (fu:Nat)(w:List Vl.Data):Option (ByteArray):=
 (E.f32 fu w ByteArray.empty 0)>>=fun o'71=>
 some o'71
theorem E.f33_le (fu:Nat)(w:List Vl.Data):Ole (E.f33 fu w) (F.f33 w):=by
 unfold E.f33 F.f33
 repeat' (first|exact Ole.refl _|exact E.f32_le _ _ _ _|refine Ole.bind ?_ (fun _=> ?_)|refine Ole.ite ?_ ?_|split)
def E.f34 (fu:Nat)(text:ByteArray)(v:List ByteArray)(names:List ByteArray)(i:Nat):Option (Lo ((List Vl.Data)×Bool) (List ByteArray)):=
 match fu with
 |0=>none
 |fu+1=>
  if i<v.length then
   if i≤4 then
    if text.toList=ByteArray.empty.toList then
     some (.go names)
    else
     (v[i]?)>>=fun x=>
     (E.f2 fu x 61)>>=fun v11=>
     if v11.length=2 then
      (v11[0]?)>>=fun x16=>
      if names.length+1≤67108864 then
       E.f34 fu text v (names++[x16]) (i+1)
      else none
     else
      some (.ret ([],false))
   else
    some (.go names)
  else
   some (.go names)
theorem E.f34_le :∀(fu:Nat) (text:ByteArray) (v:List ByteArray) (names:List ByteArray) (i:Nat),Ole (E.f34 fu text v names i) (F.f34 text v names i):=by
 intro fu
 induction fu with
 |zero=>intros;exact Ole.none _
 |succ fu ih=>
  intro text v names i
  rw[E.f34,F.f34]
  repeat' (first|exact Ole.refl _|exact E.f2_le _ _ _|exact ih _ _ _ _|refine Ole.bind ?_ (fun _=> ?_)|refine Ole.ite ?_ ?_|split)
def E.f35 (fu:Nat)(text:ByteArray)(v:List ByteArray)(out:List Vl.Data)(names21:List ByteArray)(i22:Nat)(v32:List ByteArray)(x34:ByteArray)(out36:List Ctor)(k:Nat):Option (List Ctor):=
 match fu with
 |0=>none
 |fu+1=>
  if k<v32.length then
   if k≤4 then
    (v32[k]?)>>=fun x43=>
    (E.f9 fu names21 x43)>>=fun v45=>
    if out36.length+1≤67108864 then
     E.f35 fu text v out names21 i22 v32 x34 (out36++[v45]) (k+1)
    else none
   else
    some out36
  else
   some out36
theorem E.f35_le :∀(fu:Nat) (text:ByteArray) (v:List ByteArray) (out:List Vl.Data) (names21:List ByteArray) (i22:Nat) (v32:List ByteArray) (x34:ByteArray) (out36:List Ctor) (k:Nat),Ole (E.f35 fu text v out names21 i22 v32 x34 out36 k) (F.f35 text v out names21 i22 v32 x34 out36 k):=by
 intro fu
 induction fu with
 |zero=>intros;exact Ole.none _
 |succ fu ih=>
  intro text v out names21 i22 v32 x34 out36 k
  rw[E.f35,F.f35]
  repeat' (first|exact Ole.refl _|exact E.f9_le _ _ _|exact ih _ _ _ _ _ _ _ _ _|refine Ole.bind ?_ (fun _=> ?_)|refine Ole.ite ?_ ?_|split)
def E.f36 (fu:Nat)(text:ByteArray)(v:List ByteArray)(out:List Vl.Data)(names21:List ByteArray)(i22:Nat):Option (List Vl.Data):=
 match fu with
 |0=>none
 |fu+1=>
  if i22<names21.length then
   (v[i22]?)>>=fun x26=>
   (E.f2 fu x26 61)>>=fun v28=>
   (v28[1]?)>>=fun x30=>
   (E.f2 fu x30 124)>>=fun v32=>
   (names21[i22]?)>>=fun x34=>
   (E.f35 fu text v out names21 i22 v32 x34 [] 0)>>=fun o'50=>
   if out.length+1≤67108864 then
    if i22+1≤9223372036854775807 then
     E.f36 fu text v (out++[(⟨x34,o'50⟩:Vl.Data)]) names21 (i22+1)
    else none
   else none
  else
   some out
theorem E.f36_le :∀(fu:Nat) (text:ByteArray) (v:List ByteArray) (out:List Vl.Data) (names21:List ByteArray) (i22:Nat),Ole (E.f36 fu text v out names21 i22) (F.f36 text v out names21 i22):=by
 intro fu
 induction fu with
 |zero=>intros;exact Ole.none _
 |succ fu ih=>
  intro text v out names21 i22
  rw[E.f36,F.f36]
  repeat' (first|exact Ole.refl _|exact E.f35_le _ _ _ _ _ _ _ _ _ _|exact E.f2_le _ _ _|exact ih _ _ _ _ _|refine Ole.bind ?_ (fun _=> ?_)|refine Ole.ite ?_ ?_|split)
def E.f37 (fu:Nat)(text:ByteArray):Option ((List Vl.Data)×Bool):=
 (E.f2 fu text 59)>>=fun v=>
 (E.f34 fu text v [] 0)>>=fun o'=>
 match o' with
 | .ret r0=>some r0
 | .go sx=>
  (E.f36 fu text v [] sx 0)>>=fun o'55=>
  (E.f23 fu o'55)>>=fun v56=>
  if v56=true then
   (E.f33 fu o'55)>>=fun v60=>
   if v60.toList=text.toList then
    some (o'55,true)
   else
    some ([],false)
  else
   some ([],false)
theorem E.f37_le (fu:Nat)(text:ByteArray):Ole (E.f37 fu text) (F.f37 text):=by
 unfold E.f37 F.f37
 repeat' (first|exact Ole.refl _|exact E.f34_le _ _ _ _ _|exact E.f36_le _ _ _ _ _ _|exact E.f23_le _ _|exact E.f2_le _ _ _|exact E.f33_le _ _|refine Ole.bind ?_ (fun _=> ?_)|refine Ole.ite ?_ ?_|split)
def E.f38 (fu:Nat)(w:List Vl.Data)(t:Ty):Option (Bool):=
 (E.f14 fu (w.length:Int) t)>>=fun v=>
 if v=true then
  some (decide (0≤t.index))
 else
  some false
theorem E.f38_le (fu:Nat)(w:List Vl.Data)(t:Ty):Ole (E.f38 fu w t) (F.f38 w t):=by
 unfold E.f38 F.f38
 try simp only[dec_eq]
 repeat' (first|exact Ole.refl _|exact E.f14_le _ _ _|refine Ole.bind ?_ (fun _=> ?_)|refine Ole.ite ?_ ?_|split)
def E.f39 (fu:Nat)(w:List Vl.Data)(t:Ty):Option (Bool):=
 (E.f23 fu w)>>=fun v=>
 if v=true then
  (E.f38 fu w t)>>=fun v4=>
  some v4
 else
  some false
theorem E.f39_le (fu:Nat)(w:List Vl.Data)(t:Ty):Ole (E.f39 fu w t) (F.f39 w t):=by
 unfold E.f39 F.f39
 repeat' (first|exact Ole.refl _|exact E.f23_le _ _|exact E.f38_le _ _ _|refine Ole.bind ?_ (fun _=> ?_)|refine Ole.ite ?_ ?_|split)
def E.f40 (fu:Nat)(s:ByteArray)(at':Int)(c':Int):Option (Bool):=
 if 0≤at' then
  if at'<(s.size:Int)then
   if 0≤at'∧at'.toNat<s.size then
    some (decide (((byteAt s at'.toNat:Nat):Int)=c'))
   else none
  else
   some false
 else
  some false
theorem E.f40_le (fu:Nat)(s:ByteArray)(at':Int)(c':Int):Ole (E.f40 fu s at' c') (F.f40 s at' c'):=by
 unfold E.f40 F.f40
 try simp only[dec_eq]
 repeat' (first|exact Ole.refl _|refine Ole.bind ?_ (fun _=> ?_)|refine Ole.ite ?_ ?_|split)
def E.f41 (fu:Nat)(s:ByteArray)(at':Int):Option (Pattern×Int):=
 if 0≤at'∧at'.toNat<s.size then
  (E.f40 fu s (IntKind.i64.wrap (at'+1)) 45)>>=fun v=>
  if v=true then
   if IntKind.i64.wrap (at'+2)<(s.size:Int)then
    if 0≤IntKind.i64.wrap (at'+2)∧(IntKind.i64.wrap (at'+2)).toNat<s.size then
     if 48≤byteAt s ((IntKind.i64.wrap (at'+2)).toNat)then
      if byteAt s ((IntKind.i64.wrap (at'+2)).toNat)≤57 then
       some ((⟨3,0,IntKind.i64.wrap (IntKind.u8.wrap (((byteAt s at'.toNat:Nat):Int) -48)),IntKind.i64.wrap (IntKind.u8.wrap (((byteAt s ((IntKind.i64.wrap (at'+2)).toNat):Nat):Int) -48)),0,[]⟩:Pattern),IntKind.i64.wrap (at'+3))
      else
       some ((⟨3,0,IntKind.i64.wrap (IntKind.u8.wrap (((byteAt s at'.toNat:Nat):Int) -48)),IntKind.i64.wrap (IntKind.u8.wrap (((byteAt s at'.toNat:Nat):Int) -48)),0,[]⟩:Pattern),IntKind.i64.wrap (at'+1))
     else
      some ((⟨3,0,IntKind.i64.wrap (IntKind.u8.wrap (((byteAt s at'.toNat:Nat):Int) -48)),IntKind.i64.wrap (IntKind.u8.wrap (((byteAt s at'.toNat:Nat):Int) -48)),0,[]⟩:Pattern),IntKind.i64.wrap (at'+1))
    else none
   else
    some ((⟨3,0,IntKind.i64.wrap (IntKind.u8.wrap (((byteAt s at'.toNat:Nat):Int) -48)),IntKind.i64.wrap (IntKind.u8.wrap (((byteAt s at'.toNat:Nat):Int) -48)),0,[]⟩:Pattern),IntKind.i64.wrap (at'+1))
  else
   some ((⟨3,0,IntKind.i64.wrap (IntKind.u8.wrap (((byteAt s at'.toNat:Nat):Int) -48)),IntKind.i64.wrap (IntKind.u8.wrap (((byteAt s at'.toNat:Nat):Int) -48)),0,[]⟩:Pattern),IntKind.i64.wrap (at'+1))
 else none
theorem E.f41_le (fu:Nat)(s:ByteArray)(at':Int):Ole (E.f41 fu s at') (F.f41 s at'):=by
 unfold E.f41 F.f41
 repeat' (first|exact Ole.refl _|exact E.f40_le _ _ _ _|refine Ole.bind ?_ (fun _=> ?_)|refine Ole.ite ?_ ?_|split)
def E.f42 (fu:Nat)(c':Ctor)(index':Int):Option (Int):=
 if c'.index=0 then
  some index'
 else
  some c'.index
theorem E.f42_le (fu:Nat)(c':Ctor)(index':Int):Ole (E.f42 fu c' index') (F.f42 c' index'):=by
 unfold E.f42 F.f42
 repeat' (first|exact Ole.refl _|refine Ole.bind ?_ (fun _=> ?_)|refine Ole.ite ?_ ?_|split)
def E.f43 (fu:Nat)(t:Ty)(x2:Ctor)(out:List Ty)(i:Nat):Option (List Ty):=
 match fu with
 |0=>none
 |fu+1=>
  if i<x2.args.length then
   (x2.args[i]?)>>=fun x7=>
   if x7.index=(-1)then
    (E.f42 fu x2 t.index)>>=fun v=>
    if out.length+1≤67108864 then
     E.f43 fu t x2 (out++[(⟨x7.data,v⟩:Ty)]) (i+1)
    else none
   else
    if out.length+1≤67108864 then
     E.f43 fu t x2 (out++[x7]) (i+1)
    else none
  else
   some out
theorem E.f43_le :∀(fu:Nat) (t:Ty) (x2:Ctor) (out:List Ty) (i:Nat),Ole (E.f43 fu t x2 out i) (F.f43 t x2 out i):=by
 intro fu
 induction fu with
 |zero=>intros;exact Ole.none _
 |succ fu ih=>
  intro t x2 out i
  rw[E.f43,F.f43]
  repeat' (first|exact Ole.refl _|exact E.f42_le _ _ _|exact ih _ _ _ _|refine Ole.bind ?_ (fun _=> ?_)|refine Ole.ite ?_ ?_|split)
def E.f44 (fu:Nat)(w:List Vl.Data)(t:Ty)(ctor:Int):Option (List Ty):=
 (at? w t.data)>>=fun x=>
 (at? x.ctors ctor)>>=fun x2=>
 (E.f43 fu t x2 [] 0)>>=fun o'=>
 some o'
theorem E.f44_le (fu:Nat)(w:List Vl.Data)(t:Ty)(ctor:Int):Ole (E.f44 fu w t ctor) (F.f44 w t ctor):=by
 unfold E.f44 F.f44
 repeat' (first|exact Ole.refl _|exact E.f43_le _ _ _ _ _|refine Ole.bind ?_ (fun _=> ?_)|refine Ole.ite ?_ ?_|split)
def E.f45 (fu:Nat)(s:ByteArray)(at':Int)(end':Int):Option (Int):=
 match fu with
 |0=>none
 |fu+1=>
  if end'<(s.size:Int)then
   if end'=at' then
    if 0≤end'∧end'.toNat<s.size then
     (E.f10 fu ((byteAt s end'.toNat:Nat):Int))>>=fun v=>
     if v=true then
      E.f45 fu s at' (IntKind.i64.wrap (end'+1))
     else
      if at'<end' then
       if 97≤byteAt s end'.toNat then
        if byteAt s end'.toNat≤122 then
         E.f45 fu s at' (IntKind.i64.wrap (end'+1))
        else
         some end'
       else
        some end'
      else
       some end'
    else none
   else
    if at'<end' then
     if 0≤end'∧end'.toNat<s.size then
      if 97≤byteAt s end'.toNat then
       if byteAt s end'.toNat≤122 then
        E.f45 fu s at' (IntKind.i64.wrap (end'+1))
       else
        some end'
      else
       some end'
     else none
    else
     some end'
  else
   some end'
theorem E.f45_le :∀(fu:Nat) (s:ByteArray) (at':Int) (end':Int),Ole (E.f45 fu s at' end') (F.f45 s at' end'):=by
 intro fu
 induction fu with
 |zero=>intros;exact Ole.none _
 |succ fu ih=>
  intro s at' end'
  rw[E.f45,F.f45]
  repeat' (first|exact Ole.refl _|exact E.f10_le _ _|exact ih _ _ _|refine Ole.bind ?_ (fun _=> ?_)|refine Ole.ite ?_ ?_|split)
def E.f46 (fu:Nat)(s:ByteArray)(at':Int):Option (ByteArray×Int):=
 (E.f45 fu s at' at')>>=fun o'=>
 if 0≤at'∧0≤o'∧at'.toNat≤o'.toNat∧o'.toNat≤s.size then
  some (s.extract at'.toNat o'.toNat,o')
 else none
theorem E.f46_le (fu:Nat)(s:ByteArray)(at':Int):Ole (E.f46 fu s at') (F.f46 s at'):=by
 unfold E.f46 F.f46
 repeat' (first|exact Ole.refl _|exact E.f45_le _ _ _ _|refine Ole.bind ?_ (fun _=> ?_)|refine Ole.ite ?_ ?_|split)
def E.f47 (fu:Nat)(w:List Vl.Data)(t:Ty)(name:ByteArray)(v:List Int)(i:Nat):Option (Lo Int Unit):=
 match fu with
 |0=>none
 |fu+1=>
  if i<v.length then
   (at? w t.data)>>=fun x=>
   (v[i]?)>>=fun x6=>
   (at? x.ctors x6)>>=fun x8=>
   if x8.name.toList=name.toList then
    some (.ret x6)
   else
    E.f47 fu w t name v (i+1)
  else
   some (.go ())
theorem E.f47_le :∀(fu:Nat) (w:List Vl.Data) (t:Ty) (name:ByteArray) (v:List Int) (i:Nat),Ole (E.f47 fu w t name v i) (F.f47 w t name v i):=by
 intro fu
 induction fu with
 |zero=>intros;exact Ole.none _
 |succ fu ih=>
  intro w t name v i
  rw[E.f47,F.f47]
  repeat' (first|exact Ole.refl _|exact ih _ _ _ _ _|refine Ole.bind ?_ (fun _=> ?_)|refine Ole.ite ?_ ?_|split)
def E.f48 (fu:Nat)(c':Ctor)(index':Int):Option (Bool):=
 if c'.index=0 then
  some true
 else
  if index'=0 then
   some true
  else
   some (decide (c'.index=index'))
theorem E.f48_le (fu:Nat)(c':Ctor)(index':Int):Ole (E.f48 fu c' index') (F.f48 c' index'):=by
 unfold E.f48 F.f48
 try simp only[dec_eq]
 repeat' (first|exact Ole.refl _|refine Ole.bind ?_ (fun _=> ?_)|refine Ole.ite ?_ ?_|split)
def E.f49 (fu:Nat)(w:List Vl.Data)(t:Ty)(out:List Int)(k:Nat):Option (List Int):=
 match fu with
 |0=>none
 |fu+1=>
  (at? w t.data)>>=fun x=>
  if k<x.ctors.length then
   (x.ctors[k]?)>>=fun x7=>
   (E.f48 fu x7 t.index)>>=fun v=>
   if v=true then
    if out.length+1≤67108864 then
     if k+1≤9223372036854775807 then
      E.f49 fu w t (out++[(k:Int)]) (k+1)
     else none
    else none
   else
    if k+1≤9223372036854775807 then
     E.f49 fu w t out (k+1)
    else none
  else
   some out
theorem E.f49_le :∀(fu:Nat) (w:List Vl.Data) (t:Ty) (out:List Int) (k:Nat),Ole (E.f49 fu w t out k) (F.f49 w t out k):=by
 intro fu
 induction fu with
 |zero=>intros;exact Ole.none _
 |succ fu ih=>
  intro w t out k
  rw[E.f49,F.f49]
  repeat' (first|exact Ole.refl _|exact E.f48_le _ _ _|exact ih _ _ _ _|refine Ole.bind ?_ (fun _=> ?_)|refine Ole.ite ?_ ?_|split)
def E.f50 (fu:Nat)(w:List Vl.Data)(t:Ty):Option (List Int):=
 if t.data=(-1)then
  some []
 else
  (E.f49 fu w t [] 0)>>=fun o'=>
  some o'
theorem E.f50_le (fu:Nat)(w:List Vl.Data)(t:Ty):Ole (E.f50 fu w t) (F.f50 w t):=by
 unfold E.f50 F.f50
 repeat' (first|exact Ole.refl _|exact E.f49_le _ _ _ _ _|refine Ole.bind ?_ (fun _=> ?_)|refine Ole.ite ?_ ?_|split)
def E.f51 (fu:Nat)(w:List Vl.Data)(t:Ty)(name:ByteArray):Option (Int):=
 (E.f50 fu w t)>>=fun v=>
 (E.f47 fu w t name v 0)>>=fun o'=>
 match o' with
 | .ret r0=>some r0
 | .go sx=>
  some (-1)
theorem E.f51_le (fu:Nat)(w:List Vl.Data)(t:Ty)(name:ByteArray):Ole (E.f51 fu w t name) (F.f51 w t name):=by
 unfold E.f51 F.f51
 repeat' (first|exact Ole.refl _|exact E.f50_le _ _ _|exact E.f47_le _ _ _ _ _ _|refine Ole.bind ?_ (fun _=> ?_)|refine Ole.ite ?_ ?_|split)
mutual
def E.f52 (fu:Nat)(w:List Vl.Data)(types':List Ty)(signs:List Int)(s:ByteArray)(at':Int)(depth:Int):Option ((List Pattern)×Int):=
 match fu with
 |0=>none
 |fu+1=>
  (E.f54 fu w types' signs s depth [] 0 at')>>=fun o'=>
  match o' with
  | .ret r0=>some r0
  | .go sx=>
   some (sx.1,sx.2)
def E.f53 (fu:Nat)(w:List Vl.Data)(t:Ty)(s:ByteArray)(at':Int)(depth:Int):Option (Pattern×Int):=
 match fu with
 |0=>none
 |fu+1=>
  if depth<1 then
   some ((⟨0,0,0,0,0,[]⟩:Pattern),(-1))
  else
   if at'<0 then
    some ((⟨0,0,0,0,0,[]⟩:Pattern),(-1))
   else
    if(s.size:Int)≤at' then
     some ((⟨0,0,0,0,0,[]⟩:Pattern),(-1))
    else
     if 0≤at'∧at'.toNat<s.size then
      if byteAt s at'.toNat=95 then
       some ((⟨1,0,0,0,0,[]⟩:Pattern),IntKind.i64.wrap (at'+1))
      else
       if 48≤byteAt s at'.toNat then
        if byteAt s at'.toNat≤57 then
         (E.f41 fu s at')>>=fun v=>
         some (v.1,v.2)
        else
         if byteAt s at'.toNat=40 then
          (E.f52 fu w [t,t] [40,124] s at' (IntKind.i64.wrap (depth-1)))>>=fun v21=>
          (E.f40 fu s v21.2 41)>>=fun v23=>
          if v23=true then
           some ((⟨5,0,0,0,0,v21.1⟩:Pattern),IntKind.i64.wrap (v21.2+1))
          else
           some ((⟨0,0,0,0,0,[]⟩:Pattern),(-1))
         else
          if 97≤byteAt s at'.toNat then
           if byteAt s at'.toNat≤122 then
            (E.f40 fu s (IntKind.i64.wrap (at'+1)) 64)>>=fun v33=>
            if v33=true then
             (E.f52 fu w [t] [64] s (IntKind.i64.wrap (at'+1)) (IntKind.i64.wrap (depth-1)))>>=fun v37=>
             some ((⟨6,0,0,0,IntKind.i64.wrap (IntKind.u8.wrap (((byteAt s at'.toNat:Nat):Int) -97)),v37.1⟩:Pattern),v37.2)
            else
             some ((⟨2,0,0,0,IntKind.i64.wrap (IntKind.u8.wrap (((byteAt s at'.toNat:Nat):Int) -97)),[]⟩:Pattern),IntKind.i64.wrap (at'+1))
           else
            (E.f46 fu s at')>>=fun v39=>
            (E.f51 fu w t v39.1)>>=fun v41=>
            if v41<0 then
             some ((⟨0,0,0,0,0,[]⟩:Pattern),(-1))
            else
             (E.f44 fu w t v41)>>=fun v45=>
             (E.f52 fu w v45 [40,44,44] s v39.2 (IntKind.i64.wrap (depth-1)))>>=fun v47=>
             if v45.length=0 then
              some ((⟨4,v41,0,0,0,v47.1⟩:Pattern),v47.2)
             else
              (E.f40 fu s v47.2 41)>>=fun v52=>
              if v52=true then
               some ((⟨4,v41,0,0,0,v47.1⟩:Pattern),IntKind.i64.wrap (v47.2+1))
              else
               some ((⟨0,0,0,0,0,[]⟩:Pattern),(-1))
          else
           (E.f46 fu s at')>>=fun v56=>
           (E.f51 fu w t v56.1)>>=fun v58=>
           if v58<0 then
            some ((⟨0,0,0,0,0,[]⟩:Pattern),(-1))
           else
            (E.f44 fu w t v58)>>=fun v62=>
            (E.f52 fu w v62 [40,44,44] s v56.2 (IntKind.i64.wrap (depth-1)))>>=fun v64=>
            if v62.length=0 then
             some ((⟨4,v58,0,0,0,v64.1⟩:Pattern),v64.2)
            else
             (E.f40 fu s v64.2 41)>>=fun v69=>
             if v69=true then
              some ((⟨4,v58,0,0,0,v64.1⟩:Pattern),IntKind.i64.wrap (v64.2+1))
             else
              some ((⟨0,0,0,0,0,[]⟩:Pattern),(-1))
       else
        if byteAt s at'.toNat=40 then
         (E.f52 fu w [t,t] [40,124] s at' (IntKind.i64.wrap (depth-1)))>>=fun v76=>
         (E.f40 fu s v76.2 41)>>=fun v78=>
         if v78=true then
          some ((⟨5,0,0,0,0,v76.1⟩:Pattern),IntKind.i64.wrap (v76.2+1))
         else
          some ((⟨0,0,0,0,0,[]⟩:Pattern),(-1))
        else
         if 97≤byteAt s at'.toNat then
          if byteAt s at'.toNat≤122 then
           (E.f40 fu s (IntKind.i64.wrap (at'+1)) 64)>>=fun v88=>
           if v88=true then
            (E.f52 fu w [t] [64] s (IntKind.i64.wrap (at'+1)) (IntKind.i64.wrap (depth-1)))>>=fun v92=>
            some ((⟨6,0,0,0,IntKind.i64.wrap (IntKind.u8.wrap (((byteAt s at'.toNat:Nat):Int) -97)),v92.1⟩:Pattern),v92.2)
           else
            some ((⟨2,0,0,0,IntKind.i64.wrap (IntKind.u8.wrap (((byteAt s at'.toNat:Nat):Int) -97)),[]⟩:Pattern),IntKind.i64.wrap (at'+1))
          else
           (E.f46 fu s at')>>=fun v94=>
           (E.f51 fu w t v94.1)>>=fun v96=>
           if v96<0 then
            some ((⟨0,0,0,0,0,[]⟩:Pattern),(-1))
           else
            (E.f44 fu w t v96)>>=fun v100=>
            (E.f52 fu w v100 [40,44,44] s v94.2 (IntKind.i64.wrap (depth-1)))>>=fun v102=>
            if v100.length=0 then
             some ((⟨4,v96,0,0,0,v102.1⟩:Pattern),v102.2)
            else
             (E.f40 fu s v102.2 41)>>=fun v107=>
             if v107=true then
              some ((⟨4,v96,0,0,0,v102.1⟩:Pattern),IntKind.i64.wrap (v102.2+1))
             else
              some ((⟨0,0,0,0,0,[]⟩:Pattern),(-1))
         else
          (E.f46 fu s at')>>=fun v111=>
          (E.f51 fu w t v111.1)>>=fun v113=>
          if v113<0 then
           some ((⟨0,0,0,0,0,[]⟩:Pattern),(-1))
          else
           (E.f44 fu w t v113)>>=fun v117=>
           (E.f52 fu w v117 [40,44,44] s v111.2 (IntKind.i64.wrap (depth-1)))>>=fun v119=>
           if v117.length=0 then
            some ((⟨4,v113,0,0,0,v119.1⟩:Pattern),v119.2)
           else
            (E.f40 fu s v119.2 41)>>=fun v124=>
            if v124=true then
             some ((⟨4,v113,0,0,0,v119.1⟩:Pattern),IntKind.i64.wrap (v119.2+1))
            else
             some ((⟨0,0,0,0,0,[]⟩:Pattern),(-1))
     else none
def E.f54 (fu:Nat)(w:List Vl.Data)(types':List Ty)(signs:List Int)(s:ByteArray)(depth:Int)(out:List Pattern)(i:Nat)(at'1:Int):Option (Lo ((List Pattern)×Int) ((List Pattern)×Int)):=
 match fu with
 |0=>none
 |fu+1=>
  if i<types'.length then
   (signs[i]?)>>=fun x=>
   (E.f40 fu s at'1 x)>>=fun v=>
   if v=true then
    (types'[i]?)>>=fun x9=>
    (E.f53 fu w x9 s (IntKind.i64.wrap (at'1+1)) depth)>>=fun v11=>
    if out.length+1≤67108864 then
     E.f54 fu w types' signs s depth (out++[v11.1]) (i+1) v11.2
    else none
   else
    some (.ret ([],(-1)))
  else
   some (.go (out,at'1))
end
theorem E.spec_l3Kid_grp :∀(fu:Nat),(∀(w:List Vl.Data) (types':List Ty) (signs:List Int) (s:ByteArray) (at':Int) (depth:Int),Ole (E.f52 fu w types' signs s at' depth) (F.f52 w types' signs s at' depth))∧(∀(w:List Vl.Data) (t:Ty) (s:ByteArray) (at':Int) (depth:Int),Ole (E.f53 fu w t s at' depth) (F.f53 w t s at' depth))∧(∀(w:List Vl.Data) (types':List Ty) (signs:List Int) (s:ByteArray) (depth:Int) (out:List Pattern) (i:Nat) (at'1:Int),Ole (E.f54 fu w types' signs s depth out i at'1) (F.f54 w types' signs s depth out i at'1)):=by
 intro fu
 induction fu with
 |zero=>exact⟨by intros;rw[E.f52];exact Ole.none _,by intros;rw[E.f53];exact Ole.none _,by intros;rw[E.f54];exact Ole.none _⟩
 |succ fu ih=>
  obtain⟨ih0,ih1,ih2⟩:=ih
  refine⟨?_,?_,?_⟩
  ·intro w types' signs s at' depth
   rw[E.f52,F.f52]
   repeat' (first|exact Ole.refl _|exact E.f44_le _ _ _ _|exact E.f51_le _ _ _ _|exact E.f46_le _ _ _|exact E.f40_le _ _ _ _|exact E.f41_le _ _ _|exact ih0 _ _ _ _ _ _|exact ih1 _ _ _ _ _|exact ih2 _ _ _ _ _ _ _ _|refine Ole.bind ?_ (fun _=> ?_)|refine Ole.ite ?_ ?_|split)
  ·intro w t s at' depth
   rw[E.f53,F.f53]
   repeat' (first|exact Ole.refl _|exact E.f44_le _ _ _ _|exact E.f51_le _ _ _ _|exact E.f46_le _ _ _|exact E.f40_le _ _ _ _|exact E.f41_le _ _ _|exact ih0 _ _ _ _ _ _|exact ih1 _ _ _ _ _|exact ih2 _ _ _ _ _ _ _ _|refine Ole.bind ?_ (fun _=> ?_)|refine Ole.ite ?_ ?_|split)
  ·intro w types' signs s depth out i at'1
   rw[E.f54,F.f54]
   repeat' (first|exact Ole.refl _|exact E.f44_le _ _ _ _|exact E.f51_le _ _ _ _|exact E.f46_le _ _ _|exact E.f40_le _ _ _ _|exact E.f41_le _ _ _|exact ih0 _ _ _ _ _ _|exact ih1 _ _ _ _ _|exact ih2 _ _ _ _ _ _ _ _|refine Ole.bind ?_ (fun _=> ?_)|refine Ole.ite ?_ ?_|split)
theorem E.f52_le (fu:Nat)(w:List Vl.Data)(types':List Ty)(signs:List Int)(s:ByteArray)(at':Int)(depth:Int):Ole (E.f52 fu w types' signs s at' depth) (F.f52 w types' signs s at' depth):=(E.spec_l3Kid_grp fu).1 w types' signs s at' depth
theorem E.f53_le (fu:Nat)(w:List Vl.Data)(t:Ty)(s:ByteArray)(at':Int)(depth:Int):Ole (E.f53 fu w t s at' depth) (F.f53 w t s at' depth):=(E.spec_l3Kid_grp fu).2.1 w t s at' depth
theorem E.f54_le (fu:Nat)(w:List Vl.Data)(types':List Ty)(signs:List Int)(s:ByteArray)(depth:Int)(out:List Pattern)(i:Nat)(at'1:Int):Ole (E.f54 fu w types' signs s depth out i at'1) (F.f54 w types' signs s depth out i at'1):=(E.spec_l3Kid_grp fu).2.2 w types' signs s depth out i at'1
def E.f55 (fu:Nat)(s:ByteArray):Option (Guard):=
 if s.size=3 then
  if 0<s.size then
   if 2<s.size then
    if 1<s.size then
     if byteAt s 1=60 then
      some (⟨1,IntKind.i64.wrap (IntKind.i64.wrap ((byteAt s 0:Nat):Int) -97),IntKind.i64.wrap (IntKind.i64.wrap ((byteAt s 2:Nat):Int) -48)⟩:Guard)
     else
      if byteAt s 1=61 then
       some (⟨2,IntKind.i64.wrap (IntKind.i64.wrap ((byteAt s 0:Nat):Int) -97),IntKind.i64.wrap (IntKind.i64.wrap ((byteAt s 2:Nat):Int) -48)⟩:Guard)
      else
       some (⟨(-1),IntKind.i64.wrap (IntKind.i64.wrap ((byteAt s 0:Nat):Int) -97),IntKind.i64.wrap (IntKind.i64.wrap ((byteAt s 2:Nat):Int) -48)⟩:Guard)
    else none
   else none
  else none
 else
  some (⟨(-1),0,0⟩:Guard)
theorem E.f55_le (fu:Nat)(s:ByteArray):Ole (E.f55 fu s) (F.f55 s):=by
 unfold E.f55 F.f55
 repeat' (first|exact Ole.refl _|refine Ole.bind ?_ (fun _=> ?_)|refine Ole.ite ?_ ?_|split)
def E.f56 (fu:Nat)(list:List Int)(n:Int)(i:Nat):Option (Lo Bool Unit):=
 match fu with
 |0=>none
 |fu+1=>
  if i<list.length then
   (list[i]?)>>=fun x=>
   if x=n then
    some (.ret true)
   else
    E.f56 fu list n (i+1)
  else
   some (.go ())
theorem E.f56_le :∀(fu:Nat) (list:List Int) (n:Int) (i:Nat),Ole (E.f56 fu list n i) (F.f56 list n i):=by
 intro fu
 induction fu with
 |zero=>intros;exact Ole.none _
 |succ fu ih=>
  intro list n i
  rw[E.f56,F.f56]
  repeat' (first|exact Ole.refl _|exact ih _ _ _|refine Ole.bind ?_ (fun _=> ?_)|refine Ole.ite ?_ ?_|split)
def E.f57 (fu:Nat)(list:List Int)(n:Int):Option (Bool):=
 (E.f56 fu list n 0)>>=fun o'=>
 match o' with
 | .ret r0=>some r0
 | .go sx=>
  some false
theorem E.f57_le (fu:Nat)(list:List Int)(n:Int):Ole (E.f57 fu list n) (F.f57 list n):=by
 unfold E.f57 F.f57
 repeat' (first|exact Ole.refl _|exact E.f56_le _ _ _ _|refine Ole.bind ?_ (fun _=> ?_)|refine Ole.ite ?_ ?_|split)
def E.f58 (fu:Nat)(w:List Vl.Data)(t:Ty)(p:Pattern):Option (Bool):=
 if p.op=2 then
  if p.var<0 then
   some false
  else
   if 5<p.var then
    some false
   else
    if p.n=0 then
     if p.m=0 then
      if p.ctor=0 then
       some true
      else
       some false
     else
      some false
    else
     some false
 else
  if p.op=6 then
   if p.var<0 then
    some false
   else
    if 5<p.var then
     some false
    else
     if p.n=0 then
      if p.m=0 then
       if p.ctor=0 then
        some true
       else
        some false
      else
       some false
     else
      some false
  else
   if p.var=0 then
    if p.op=3 then
     if p.ctor=0 then
      if t.data=(-1)then
       if 0≤p.n then
        if p.n≤p.m then
         some (decide (p.m≤9))
        else
         some false
       else
        some false
      else
       some false
     else
      some false
    else
     if p.n=0 then
      if p.m=0 then
       if p.op=4 then
        (E.f50 fu w t)>>=fun v=>
        (E.f57 fu v p.ctor)>>=fun v38=>
        some v38
       else
        if p.ctor=0 then
         if p.op=1 then
          some true
         else
          if p.op=5 then
           some true
          else
           some false
        else
         some false
      else
       some false
     else
      some false
   else
    some false
theorem E.f58_le (fu:Nat)(w:List Vl.Data)(t:Ty)(p:Pattern):Ole (E.f58 fu w t p) (F.f58 w t p):=by
 unfold E.f58 F.f58
 try simp only[dec_eq]
 repeat' (first|exact Ole.refl _|exact E.f50_le _ _ _|exact E.f57_le _ _ _|refine Ole.bind ?_ (fun _=> ?_)|refine Ole.ite ?_ ?_|split)
def E.f59 (fu:Nat)(op:Int):Option (Int):=
 if op=5 then
  some 2
 else
  if op=6 then
   some 1
  else
   if op=4 then
    some (-1)
   else
    some 0
theorem E.f59_le (fu:Nat)(op:Int):Ole (E.f59 fu op) (F.f59 op):=by
 unfold E.f59 F.f59
 repeat' (first|exact Ole.refl _|refine Ole.bind ?_ (fun _=> ?_)|refine Ole.ite ?_ ?_|split)
def E.f60 (fu:Nat)(t:Ty)(p:Pattern)(out:List Ty)(i:Nat):Option (List Ty):=
 match fu with
 |0=>none
 |fu+1=>
  (E.f59 fu p.op)>>=fun v4=>
  if(i:Int)<v4 then
   if out.length+1≤67108864 then
    if i+1≤9223372036854775807 then
     E.f60 fu t p (out++[t]) (i+1)
    else none
   else none
  else
   some out
theorem E.f60_le :∀(fu:Nat) (t:Ty) (p:Pattern) (out:List Ty) (i:Nat),Ole (E.f60 fu t p out i) (F.f60 t p out i):=by
 intro fu
 induction fu with
 |zero=>intros;exact Ole.none _
 |succ fu ih=>
  intro t p out i
  rw[E.f60,F.f60]
  repeat' (first|exact Ole.refl _|exact E.f59_le _ _|exact ih _ _ _ _|refine Ole.bind ?_ (fun _=> ?_)|refine Ole.ite ?_ ?_|split)
def E.f61 (fu:Nat)(w:List Vl.Data)(t:Ty)(p:Pattern):Option (List Ty):=
 if p.op=4 then
  (E.f44 fu w t p.ctor)>>=fun v=>
  some v
 else
  (E.f60 fu t p [] 0)>>=fun o'=>
  some o'
theorem E.f61_le (fu:Nat)(w:List Vl.Data)(t:Ty)(p:Pattern):Ole (E.f61 fu w t p) (F.f61 w t p):=by
 unfold E.f61 F.f61
 repeat' (first|exact Ole.refl _|exact E.f44_le _ _ _ _|exact E.f60_le _ _ _ _ _|refine Ole.bind ?_ (fun _=> ?_)|refine Ole.ite ?_ ?_|split)
mutual
def E.f62 (fu:Nat)(w:List Vl.Data)(t:Ty)(p:Pattern)(depth:Int):Option (Bool):=
 match fu with
 |0=>none
 |fu+1=>
  if depth<1 then
   some false
  else
   (E.f58 fu w t p)>>=fun v=>
   if v=true then
    (E.f61 fu w t p)>>=fun v6=>
    if p.kids.length=v6.length then
     (E.f63 fu w p depth v6 0)>>=fun o'=>
     match o' with
     | .ret r0=>some r0
     | .go sx=>
      some true
    else
     some false
   else
    some false
def E.f63 (fu:Nat)(w:List Vl.Data)(p:Pattern)(depth:Int)(v6:List Ty)(i:Nat):Option (Lo Bool Unit):=
 match fu with
 |0=>none
 |fu+1=>
  if i<v6.length then
   (v6[i]?)>>=fun x=>
   (p.kids[i]?)>>=fun x15=>
   (E.f62 fu w x x15 (IntKind.i64.wrap (depth-1)))>>=fun v17=>
   if v17=true then
    E.f63 fu w p depth v6 (i+1)
   else
    some (.ret false)
  else
   some (.go ())
end
theorem E.spec_l3Shape_grp :∀(fu:Nat),(∀(w:List Vl.Data) (t:Ty) (p:Pattern) (depth:Int),Ole (E.f62 fu w t p depth) (F.f62 w t p depth))∧(∀(w:List Vl.Data) (p:Pattern) (depth:Int) (v6:List Ty) (i:Nat),Ole (E.f63 fu w p depth v6 i) (F.f63 w p depth v6 i)):=by
 intro fu
 induction fu with
 |zero=>exact⟨by intros;rw[E.f62];exact Ole.none _,by intros;rw[E.f63];exact Ole.none _⟩
 |succ fu ih=>
  obtain⟨ih0,ih1⟩:=ih
  refine⟨?_,?_⟩
  ·intro w t p depth
   rw[E.f62,F.f62]
   repeat' (first|exact Ole.refl _|exact E.f58_le _ _ _ _|exact E.f61_le _ _ _ _|exact ih0 _ _ _ _|exact ih1 _ _ _ _ _|refine Ole.bind ?_ (fun _=> ?_)|refine Ole.ite ?_ ?_|split)
  ·intro w p depth v6 i
   rw[E.f63,F.f63]
   repeat' (first|exact Ole.refl _|exact E.f58_le _ _ _ _|exact E.f61_le _ _ _ _|exact ih0 _ _ _ _|exact ih1 _ _ _ _ _|refine Ole.bind ?_ (fun _=> ?_)|refine Ole.ite ?_ ?_|split)
theorem E.f62_le (fu:Nat)(w:List Vl.Data)(t:Ty)(p:Pattern)(depth:Int):Ole (E.f62 fu w t p depth) (F.f62 w t p depth):=(E.spec_l3Shape_grp fu).1 w t p depth
theorem E.f63_le (fu:Nat)(w:List Vl.Data)(p:Pattern)(depth:Int)(v6:List Ty)(i:Nat):Ole (E.f63 fu w p depth v6 i) (F.f63 w p depth v6 i):=(E.spec_l3Shape_grp fu).2 w p depth v6 i
mutual
def E.f64 (fu:Nat)(p:Pattern)(most:Int):Option (Int):=
 match fu with
 |0=>none
 |fu+1=>
  (E.f65 fu p most 1 0)>>=fun o'=>
  some o'
def E.f65 (fu:Nat)(p:Pattern)(most:Int)(n:Int)(i:Nat):Option (Int):=
 match fu with
 |0=>none
 |fu+1=>
  if i<p.kids.length then
   if n≤most then
    (p.kids[i]?)>>=fun x=>
    (E.f64 fu x (IntKind.i64.wrap (most-n)))>>=fun v=>
    E.f65 fu p most (IntKind.i64.wrap (n+v)) (i+1)
   else
    some n
  else
   some n
end
theorem E.spec_l3Count_grp :∀(fu:Nat),(∀(p:Pattern) (most:Int),Ole (E.f64 fu p most) (F.f64 p most))∧(∀(p:Pattern) (most:Int) (n:Int) (i:Nat),Ole (E.f65 fu p most n i) (F.f65 p most n i)):=by
 intro fu
 induction fu with
 |zero=>exact⟨by intros;rw[E.f64];exact Ole.none _,by intros;rw[E.f65];exact Ole.none _⟩
 |succ fu ih=>
  obtain⟨ih0,ih1⟩:=ih
  refine⟨?_,?_⟩
  ·intro p most
   rw[E.f64,F.f64]
   repeat' (first|exact Ole.refl _|exact ih0 _ _|exact ih1 _ _ _ _|refine Ole.bind ?_ (fun _=> ?_)|refine Ole.ite ?_ ?_|split)
  ·intro p most n i
   rw[E.f65,F.f65]
   repeat' (first|exact Ole.refl _|exact ih0 _ _|exact ih1 _ _ _ _|refine Ole.bind ?_ (fun _=> ?_)|refine Ole.ite ?_ ?_|split)
theorem E.f64_le (fu:Nat)(p:Pattern)(most:Int):Ole (E.f64 fu p most) (F.f64 p most):=(E.spec_l3Count_grp fu).1 p most
theorem E.f65_le (fu:Nat)(p:Pattern)(most:Int)(n:Int)(i:Nat):Ole (E.f65 fu p most n i) (F.f65 p most n i):=(E.spec_l3Count_grp fu).2 p most n i
mutual
def E.f66 (fu:Nat)(out:List VarType)(w:List Vl.Data)(t:Ty)(p:Pattern):Option (List VarType):=
 match fu with
 |0=>none
 |fu+1=>
  if p.op=2 then
   if out.length+1≤67108864 then
    (E.f61 fu w t p)>>=fun v59=>
    (E.f69 fu w p v59 (out++[(⟨p.var,t⟩:VarType)]) 0)>>=fun o'86=>
    some o'86
   else none
  else
   if p.op=6 then
    if out.length+1≤67108864 then
     (E.f61 fu w t p)>>=fun v=>
     (E.f67 fu w p v (out++[(⟨p.var,t⟩:VarType)]) 0)>>=fun o'=>
     some o'
    else none
   else
    (E.f61 fu w t p)>>=fun v30=>
    (E.f68 fu w p v30 out 0)>>=fun o'57=>
    some o'57
def E.f67 (fu:Nat)(w:List Vl.Data)(p:Pattern)(v:List Ty)(out7:List VarType)(i:Nat):Option (List VarType):=
 match fu with
 |0=>none
 |fu+1=>
  if i<v.length then
   if i=0 then
    (v[i]?)>>=fun x22=>
    (p.kids[i]?)>>=fun x24=>
    (E.f66 fu out7 w x22 x24)>>=fun v26=>
    E.f67 fu w p v v26 (i+1)
   else
    if p.op=5 then
     some out7
    else
     (v[i]?)>>=fun x=>
     (p.kids[i]?)>>=fun x17=>
     (E.f66 fu out7 w x x17)>>=fun v19=>
     E.f67 fu w p v v19 (i+1)
  else
   some out7
def E.f68 (fu:Nat)(w:List Vl.Data)(p:Pattern)(v30:List Ty)(out32:List VarType)(i33:Nat):Option (List VarType):=
 match fu with
 |0=>none
 |fu+1=>
  if i33<v30.length then
   if i33=0 then
    (v30[i33]?)>>=fun x49=>
    (p.kids[i33]?)>>=fun x51=>
    (E.f66 fu out32 w x49 x51)>>=fun v53=>
    E.f68 fu w p v30 v53 (i33+1)
   else
    if p.op=5 then
     some out32
    else
     (v30[i33]?)>>=fun x42=>
     (p.kids[i33]?)>>=fun x44=>
     (E.f66 fu out32 w x42 x44)>>=fun v46=>
     E.f68 fu w p v30 v46 (i33+1)
  else
   some out32
def E.f69 (fu:Nat)(w:List Vl.Data)(p:Pattern)(v59:List Ty)(out61:List VarType)(i62:Nat):Option (List VarType):=
 match fu with
 |0=>none
 |fu+1=>
  if i62<v59.length then
   if i62=0 then
    (v59[i62]?)>>=fun x78=>
    (p.kids[i62]?)>>=fun x80=>
    (E.f66 fu out61 w x78 x80)>>=fun v82=>
    E.f69 fu w p v59 v82 (i62+1)
   else
    if p.op=5 then
     some out61
    else
     (v59[i62]?)>>=fun x71=>
     (p.kids[i62]?)>>=fun x73=>
     (E.f66 fu out61 w x71 x73)>>=fun v75=>
     E.f69 fu w p v59 v75 (i62+1)
  else
   some out61
end
theorem E.spec_l3Vars_grp :∀(fu:Nat),(∀(out:List VarType) (w:List Vl.Data) (t:Ty) (p:Pattern),Ole (E.f66 fu out w t p) (F.f66 out w t p))∧(∀(w:List Vl.Data) (p:Pattern) (v:List Ty) (out7:List VarType) (i:Nat),Ole (E.f67 fu w p v out7 i) (F.f67 w p v out7 i))∧(∀(w:List Vl.Data) (p:Pattern) (v30:List Ty) (out32:List VarType) (i33:Nat),Ole (E.f68 fu w p v30 out32 i33) (F.f68 w p v30 out32 i33))∧(∀(w:List Vl.Data) (p:Pattern) (v59:List Ty) (out61:List VarType) (i62:Nat),Ole (E.f69 fu w p v59 out61 i62) (F.f69 w p v59 out61 i62)):=by
 intro fu
 induction fu with
 |zero=>exact⟨by intros;rw[E.f66];exact Ole.none _,by intros;rw[E.f67];exact Ole.none _,by intros;rw[E.f68];exact Ole.none _,by intros;rw[E.f69];exact Ole.none _⟩
 |succ fu ih=>
  obtain⟨ih0,ih1,ih2,ih3⟩:=ih
  refine⟨?_,?_,?_,?_⟩
  ·intro out w t p
   rw[E.f66,F.f66]
   repeat' (first|exact Ole.refl _|exact E.f61_le _ _ _ _|exact ih0 _ _ _ _|exact ih1 _ _ _ _ _|exact ih2 _ _ _ _ _|exact ih3 _ _ _ _ _|refine Ole.bind ?_ (fun _=> ?_)|refine Ole.ite ?_ ?_|split)
  ·intro w p v out7 i
   rw[E.f67,F.f67]
   repeat' (first|exact Ole.refl _|exact E.f61_le _ _ _ _|exact ih0 _ _ _ _|exact ih1 _ _ _ _ _|exact ih2 _ _ _ _ _|exact ih3 _ _ _ _ _|refine Ole.bind ?_ (fun _=> ?_)|refine Ole.ite ?_ ?_|split)
  ·intro w p v30 out32 i33
   rw[E.f68,F.f68]
   repeat' (first|exact Ole.refl _|exact E.f61_le _ _ _ _|exact ih0 _ _ _ _|exact ih1 _ _ _ _ _|exact ih2 _ _ _ _ _|exact ih3 _ _ _ _ _|refine Ole.bind ?_ (fun _=> ?_)|refine Ole.ite ?_ ?_|split)
  ·intro w p v59 out61 i62
   rw[E.f69,F.f69]
   repeat' (first|exact Ole.refl _|exact E.f61_le _ _ _ _|exact ih0 _ _ _ _|exact ih1 _ _ _ _ _|exact ih2 _ _ _ _ _|exact ih3 _ _ _ _ _|refine Ole.bind ?_ (fun _=> ?_)|refine Ole.ite ?_ ?_|split)
theorem E.f66_le (fu:Nat)(out:List VarType)(w:List Vl.Data)(t:Ty)(p:Pattern):Ole (E.f66 fu out w t p) (F.f66 out w t p):=(E.spec_l3Vars_grp fu).1 out w t p
theorem E.f67_le (fu:Nat)(w:List Vl.Data)(p:Pattern)(v:List Ty)(out7:List VarType)(i:Nat):Ole (E.f67 fu w p v out7 i) (F.f67 w p v out7 i):=(E.spec_l3Vars_grp fu).2.1 w p v out7 i
theorem E.f68_le (fu:Nat)(w:List Vl.Data)(p:Pattern)(v30:List Ty)(out32:List VarType)(i33:Nat):Ole (E.f68 fu w p v30 out32 i33) (F.f68 w p v30 out32 i33):=(E.spec_l3Vars_grp fu).2.2.1 w p v30 out32 i33
theorem E.f69_le (fu:Nat)(w:List Vl.Data)(p:Pattern)(v59:List Ty)(out61:List VarType)(i62:Nat):Ole (E.f69 fu w p v59 out61 i62) (F.f69 w p v59 out61 i62):=(E.spec_l3Vars_grp fu).2.2.2 w p v59 out61 i62
def E.f70 (fu:Nat)(list:List VarType)(n:Int)(i:Nat):Option (Lo Int Unit):=
 match fu with
 |0=>none
 |fu+1=>
  if i<list.length then
   (list[i]?)>>=fun x=>
   if x.var=n then
    some (.ret (i:Int))
   else
    E.f70 fu list n (i+1)
  else
   some (.go ())
theorem E.f70_le :∀(fu:Nat) (list:List VarType) (n:Int) (i:Nat),Ole (E.f70 fu list n i) (F.f70 list n i):=by
 intro fu
 induction fu with
 |zero=>intros;exact Ole.none _
 |succ fu ih=>
  intro list n i
  rw[E.f70,F.f70]
  repeat' (first|exact Ole.refl _|exact ih _ _ _|refine Ole.bind ?_ (fun _=> ?_)|refine Ole.ite ?_ ?_|split)
def E.f71 (fu:Nat)(list:List VarType)(n:Int):Option (Int):=
 (E.f70 fu list n 0)>>=fun o'=>
 match o' with
 | .ret r0=>some r0
 | .go sx=>
  some (-1)
theorem E.f71_le (fu:Nat)(list:List VarType)(n:Int):Ole (E.f71 fu list n) (F.f71 list n):=by
 unfold E.f71 F.f71
 repeat' (first|exact Ole.refl _|exact E.f70_le _ _ _ _|refine Ole.bind ?_ (fun _=> ?_)|refine Ole.ite ?_ ?_|split)
def E.f72 (fu:Nat)(a:List VarType)(b:List VarType)(i:Nat):Option (Lo Bool Unit):=
 match fu with
 |0=>none
 |fu+1=>
  if i<a.length then
   (a[i]?)>>=fun x=>
   (E.f71 fu b x.var)>>=fun v=>
   if v<0 then
    some (.ret false)
   else
    (at? b v)>>=fun x8=>
    if decide (eq2 (x8.type.data,x8.type.index) (x.type.data,x.type.index))=true then
     E.f72 fu a b (i+1)
    else
     some (.ret false)
  else
   some (.go ())
theorem E.f72_le :∀(fu:Nat) (a:List VarType) (b:List VarType) (i:Nat),Ole (E.f72 fu a b i) (F.f72 a b i):=by
 intro fu
 induction fu with
 |zero=>intros;exact Ole.none _
 |succ fu ih=>
  intro a b i
  rw[E.f72,F.f72]
  try simp only[dec_eq]
  repeat' (first|exact Ole.refl _|exact E.f71_le _ _ _|exact ih _ _ _|refine Ole.bind ?_ (fun _=> ?_)|refine Ole.ite ?_ ?_|split)
def E.f73 (fu:Nat)(a:List VarType)(b:List VarType):Option (Bool):=
 (E.f72 fu a b 0)>>=fun o'=>
 match o' with
 | .ret r0=>some r0
 | .go sx=>
  some (decide (a.length=b.length))
theorem E.f73_le (fu:Nat)(a:List VarType)(b:List VarType):Ole (E.f73 fu a b) (F.f73 a b):=by
 unfold E.f73 F.f73
 try simp only[dec_eq]
 repeat' (first|exact Ole.refl _|exact E.f72_le _ _ _ _|refine Ole.bind ?_ (fun _=> ?_)|refine Ole.ite ?_ ?_|split)
def E.f74 (fu:Nat)(v26:List VarType)(i28:Nat):Option (Lo Bool Unit):=
 match fu with
 |0=>none
 |fu+1=>
  if i28<v26.length then
   (v26[i28]?)>>=fun x32=>
   (E.f71 fu v26 x32.var)>>=fun v34=>
   if v34=(i28:Int)then
    E.f74 fu v26 (i28+1)
   else
    some (.ret false)
  else
   some (.go ())
theorem E.f74_le :∀(fu:Nat) (v26:List VarType) (i28:Nat),Ole (E.f74 fu v26 i28) (F.f74 v26 i28):=by
 intro fu
 induction fu with
 |zero=>intros;exact Ole.none _
 |succ fu ih=>
  intro v26 i28
  rw[E.f74,F.f74]
  repeat' (first|exact Ole.refl _|exact E.f71_le _ _ _|exact ih _ _|refine Ole.bind ?_ (fun _=> ?_)|refine Ole.ite ?_ ?_|split)
mutual
def E.f75 (fu:Nat)(w:List Vl.Data)(t:Ty)(p:Pattern):Option (Bool):=
 match fu with
 |0=>none
 |fu+1=>
  (E.f61 fu w t p)>>=fun v=>
  (E.f76 fu w t p v 0)>>=fun o'=>
  match o' with
  | .ret r042=>some r042
  | .go sx=>
   if p.op=5 then
    (p.kids[0]?)>>=fun x16=>
    (E.f66 fu [] w t x16)>>=fun v18=>
    (p.kids[1]?)>>=fun x20=>
    (E.f66 fu [] w t x20)>>=fun v22=>
    (E.f73 fu v18 v22)>>=fun v24=>
    some v24
   else
    (E.f66 fu [] w t p)>>=fun v26=>
    (E.f74 fu v26 0)>>=fun o'40=>
    match o'40 with
    | .ret r0=>some r0
    | .go sx41=>
     some true
def E.f76 (fu:Nat)(w:List Vl.Data)(t:Ty)(p:Pattern)(v:List Ty)(i:Nat):Option (Lo Bool Unit):=
 match fu with
 |0=>none
 |fu+1=>
  if i<v.length then
   (v[i]?)>>=fun x=>
   (p.kids[i]?)>>=fun x6=>
   (E.f75 fu w x x6)>>=fun v8=>
   if v8=true then
    E.f76 fu w t p v (i+1)
   else
    some (.ret false)
  else
   some (.go ())
end
theorem E.spec_l3Linear_grp :∀(fu:Nat),(∀(w:List Vl.Data) (t:Ty) (p:Pattern),Ole (E.f75 fu w t p) (F.f75 w t p))∧(∀(w:List Vl.Data) (t:Ty) (p:Pattern) (v:List Ty) (i:Nat),Ole (E.f76 fu w t p v i) (F.f76 w t p v i)):=by
 intro fu
 induction fu with
 |zero=>exact⟨by intros;rw[E.f75];exact Ole.none _,by intros;rw[E.f76];exact Ole.none _⟩
 |succ fu ih=>
  obtain⟨ih0,ih1⟩:=ih
  refine⟨?_,?_⟩
  ·intro w t p
   rw[E.f75,F.f75]
   repeat' (first|exact Ole.refl _|exact E.f73_le _ _ _|exact E.f74_le _ _ _|exact E.f61_le _ _ _ _|exact E.f66_le _ _ _ _ _|exact ih0 _ _ _|exact ih1 _ _ _ _ _|refine Ole.bind ?_ (fun _=> ?_)|refine Ole.ite ?_ ?_|split)
  ·intro w t p v i
   rw[E.f76,F.f76]
   repeat' (first|exact Ole.refl _|exact E.f73_le _ _ _|exact E.f74_le _ _ _|exact E.f61_le _ _ _ _|exact E.f66_le _ _ _ _ _|exact ih0 _ _ _|exact ih1 _ _ _ _ _|refine Ole.bind ?_ (fun _=> ?_)|refine Ole.ite ?_ ?_|split)
theorem E.f75_le (fu:Nat)(w:List Vl.Data)(t:Ty)(p:Pattern):Ole (E.f75 fu w t p) (F.f75 w t p):=(E.spec_l3Linear_grp fu).1 w t p
theorem E.f76_le (fu:Nat)(w:List Vl.Data)(t:Ty)(p:Pattern)(v:List Ty)(i:Nat):Ole (E.f76 fu w t p v i) (F.f76 w t p v i):=(E.spec_l3Linear_grp fu).2 w t p v i
def E.f77 (fu:Nat)(w:List Vl.Data)(t:Ty)(p:Pattern):Option (Bool):=
 (E.f62 fu w t p 10)>>=fun v=>
 if v=true then
  (E.f64 fu p 60)>>=fun v4=>
  if v4≤60 then
   (E.f75 fu w t p)>>=fun v8=>
   some v8
  else
   some false
 else
  some false
theorem E.f77_le (fu:Nat)(w:List Vl.Data)(t:Ty)(p:Pattern):Ole (E.f77 fu w t p) (F.f77 w t p):=by
 unfold E.f77 F.f77
 repeat' (first|exact Ole.refl _|exact E.f64_le _ _ _|exact E.f75_le _ _ _ _|exact E.f62_le _ _ _ _ _|refine Ole.bind ?_ (fun _=> ?_)|refine Ole.ite ?_ ?_|split)
def E.f78 (fu:Nat)(g:Guard)(vars:List VarType):Option (Bool):=
 if g.op=0 then
  if g.var=0 then
   some (decide (g.n=0))
  else
   some false
 else
  if g.op=1 then
   if g.n<0 then
    some false
   else
    if 9<g.n then
     some false
    else
     (E.f71 fu vars g.var)>>=fun v21=>
     if 0≤v21 then
      (at? vars v21)>>=fun x25=>
      some (decide (x25.type.data=(-1)))
     else
      some false
  else
   if g.op=2 then
    if g.n<0 then
     some false
    else
     if 9<g.n then
      some false
     else
      (E.f71 fu vars g.var)>>=fun v=>
      if 0≤v then
       (at? vars v)>>=fun x=>
       some (decide (x.type.data=(-1)))
      else
       some false
   else
    some false
theorem E.f78_le (fu:Nat)(g:Guard)(vars:List VarType):Ole (E.f78 fu g vars) (F.f78 g vars):=by
 unfold E.f78 F.f78
 try simp only[dec_eq]
 repeat' (first|exact Ole.refl _|exact E.f71_le _ _ _|refine Ole.bind ?_ (fun _=> ?_)|refine Ole.ite ?_ ?_|split)
def E.f79 (fu:Nat)(w:List Vl.Data)(t:Ty)(c':Clause):Option (Bool):=
 (E.f77 fu w t c'.pat)>>=fun v=>
 if v=true then
  (E.f66 fu [] w t c'.pat)>>=fun v4=>
  (E.f78 fu c'.guard v4)>>=fun v6=>
  some v6
 else
  some false
theorem E.f79_le (fu:Nat)(w:List Vl.Data)(t:Ty)(c':Clause):Ole (E.f79 fu w t c') (F.f79 w t c'):=by
 unfold E.f79 F.f79
 repeat' (first|exact Ole.refl _|exact E.f77_le _ _ _ _|exact E.f66_le _ _ _ _ _|exact E.f78_le _ _ _|refine Ole.bind ?_ (fun _=> ?_)|refine Ole.ite ?_ ?_|split)
def E.f80 (fu:Nat)(w:List Vl.Data)(t:Ty)(list:List Clause)(i:Nat):Option (Lo Bool Unit):=
 match fu with
 |0=>none
 |fu+1=>
  if i<list.length then
   (list[i]?)>>=fun x=>
   (E.f79 fu w t x)>>=fun v11=>
   if v11=true then
    E.f80 fu w t list (i+1)
   else
    some (.ret false)
  else
   some (.go ())
theorem E.f80_le :∀(fu:Nat) (w:List Vl.Data) (t:Ty) (list:List Clause) (i:Nat),Ole (E.f80 fu w t list i) (F.f80 w t list i):=by
 intro fu
 induction fu with
 |zero=>intros;exact Ole.none _
 |succ fu ih=>
  intro w t list i
  rw[E.f80,F.f80]
  repeat' (first|exact Ole.refl _|exact E.f79_le _ _ _ _|exact ih _ _ _ _|refine Ole.bind ?_ (fun _=> ?_)|refine Ole.ite ?_ ?_|split)
def E.f81 (fu:Nat)(w:List Vl.Data)(t:Ty)(list:List Clause):Option (Bool):=
 (E.f39 fu w t)>>=fun v=>
 if v=true then
  if 8<list.length then
   some false
  else
   (E.f80 fu w t list 0)>>=fun o'=>
   match o' with
   | .ret r0=>some r0
   | .go sx=>
    some true
 else
  some false
theorem E.f81_le (fu:Nat)(w:List Vl.Data)(t:Ty)(list:List Clause):Ole (E.f81 fu w t list) (F.f81 w t list):=by
 unfold E.f81 F.f81
 repeat' (first|exact Ole.refl _|exact E.f80_le _ _ _ _ _|exact E.f39_le _ _ _|refine Ole.bind ?_ (fun _=> ?_)|refine Ole.ite ?_ ?_|split)
def E.f82 (fu:Nat)(n:Int):Option (ByteArray):=
 some (strB [IntKind.u8.wrap (97+IntKind.u8.wrap n)])
theorem E.f82_le (fu:Nat)(n:Int):Ole (E.f82 fu n) (F.f82 n):=by
 unfold E.f82 F.f82
 repeat' (first|exact Ole.refl _|refine Ole.bind ?_ (fun _=> ?_)|refine Ole.ite ?_ ?_|split)
mutual
def E.f83 (fu:Nat)(w:List Vl.Data)(t:Ty)(p:Pattern):Option (ByteArray):=
 match fu with
 |0=>none
 |fu+1=>
  if p.op=1 then
   some (⟨#[95]⟩:ByteArray)
  else
   if p.op=2 then
    (E.f82 fu p.var)>>=fun v=>
    some v
   else
    if p.op=3 then
     if p.n=p.m then
      (E.f25 fu p.n)>>=fun v10=>
      some v10
     else
      (E.f25 fu p.n)>>=fun v12=>
      if v12.size+(⟨#[45]⟩:ByteArray).size≤9223372036854775807 then
       (E.f25 fu p.m)>>=fun v15=>
       if(v12++(⟨#[45]⟩:ByteArray)).size+v15.size≤9223372036854775807 then
        some ((v12++(⟨#[45]⟩:ByteArray))++v15)
       else none
      else none
    else
     if p.op=5 then
      (p.kids[0]?)>>=fun x=>
      (E.f83 fu w t x)>>=fun v21=>
      if(⟨#[40]⟩:ByteArray).size+v21.size≤9223372036854775807 then
       if((⟨#[40]⟩:ByteArray)++v21).size+(⟨#[124]⟩:ByteArray).size≤9223372036854775807 then
        (p.kids[1]?)>>=fun x25=>
        (E.f83 fu w t x25)>>=fun v27=>
        if(((⟨#[40]⟩:ByteArray)++v21)++(⟨#[124]⟩:ByteArray)).size+v27.size≤9223372036854775807 then
         if((((⟨#[40]⟩:ByteArray)++v21)++(⟨#[124]⟩:ByteArray))++v27).size+(⟨#[41]⟩:ByteArray).size≤9223372036854775807 then
          some (((((⟨#[40]⟩:ByteArray)++v21)++(⟨#[124]⟩:ByteArray))++v27)++(⟨#[41]⟩:ByteArray))
         else none
        else none
       else none
      else none
     else
      if p.op=6 then
       (E.f82 fu p.var)>>=fun v33=>
       if v33.size+(⟨#[64]⟩:ByteArray).size≤9223372036854775807 then
        (p.kids[0]?)>>=fun x36=>
        (E.f83 fu w t x36)>>=fun v38=>
        if(v33++(⟨#[64]⟩:ByteArray)).size+v38.size≤9223372036854775807 then
         some ((v33++(⟨#[64]⟩:ByteArray))++v38)
        else none
       else none
      else
       (at? w t.data)>>=fun x41=>
       (at? x41.ctors p.ctor)>>=fun x43=>
       (E.f44 fu w t p.ctor)>>=fun v45=>
       (E.f84 fu w p v45 x43.name 0)>>=fun o'=>
       if 0<v45.length then
        if o'.size+(⟨#[41]⟩:ByteArray).size≤9223372036854775807 then
         some (o'++(⟨#[41]⟩:ByteArray))
        else none
       else
        some o'
def E.f84 (fu:Nat)(w:List Vl.Data)(p:Pattern)(v45:List Ty)(out:ByteArray)(i:Nat):Option (ByteArray):=
 match fu with
 |0=>none
 |fu+1=>
  if i<v45.length then
   if i=0 then
    if out.size+(⟨#[40]⟩:ByteArray).size≤9223372036854775807 then
     (v45[i]?)>>=fun x54=>
     (p.kids[i]?)>>=fun x56=>
     (E.f83 fu w x54 x56)>>=fun v58=>
     if(out++(⟨#[40]⟩:ByteArray)).size+v58.size≤9223372036854775807 then
      E.f84 fu w p v45 ((out++(⟨#[40]⟩:ByteArray))++v58) (i+1)
     else none
    else none
   else
    if out.size+(⟨#[44]⟩:ByteArray).size≤9223372036854775807 then
     (v45[i]?)>>=fun x63=>
     (p.kids[i]?)>>=fun x65=>
     (E.f83 fu w x63 x65)>>=fun v67=>
     if(out++(⟨#[44]⟩:ByteArray)).size+v67.size≤9223372036854775807 then
      E.f84 fu w p v45 ((out++(⟨#[44]⟩:ByteArray))++v67) (i+1)
     else none
    else none
  else
   some out
end
theorem E.spec_l3Text_grp :∀(fu:Nat),(∀(w:List Vl.Data) (t:Ty) (p:Pattern),Ole (E.f83 fu w t p) (F.f83 w t p))∧(∀(w:List Vl.Data) (p:Pattern) (v45:List Ty) (out:ByteArray) (i:Nat),Ole (E.f84 fu w p v45 out i) (F.f84 w p v45 out i)):=by
 intro fu
 induction fu with
 |zero=>exact⟨by intros;rw[E.f83];exact Ole.none _,by intros;rw[E.f84];exact Ole.none _⟩
 |succ fu ih=>
  obtain⟨ih0,ih1⟩:=ih
  refine⟨?_,?_⟩
  ·intro w t p
   rw[E.f83,F.f83]
   repeat' (first|exact Ole.refl _|exact E.f25_le _ _|exact E.f44_le _ _ _ _|exact E.f82_le _ _|exact ih0 _ _ _|exact ih1 _ _ _ _ _|refine Ole.bind ?_ (fun _=> ?_)|refine Ole.ite ?_ ?_|split)
  ·intro w p v45 out i
   rw[E.f84,F.f84]
   repeat' (first|exact Ole.refl _|exact E.f25_le _ _|exact E.f44_le _ _ _ _|exact E.f82_le _ _|exact ih0 _ _ _|exact ih1 _ _ _ _ _|refine Ole.bind ?_ (fun _=> ?_)|refine Ole.ite ?_ ?_|split)
theorem E.f83_le (fu:Nat)(w:List Vl.Data)(t:Ty)(p:Pattern):Ole (E.f83 fu w t p) (F.f83 w t p):=(E.spec_l3Text_grp fu).1 w t p
theorem E.f84_le (fu:Nat)(w:List Vl.Data)(p:Pattern)(v45:List Ty)(out:ByteArray)(i:Nat):Ole (E.f84 fu w p v45 out i) (F.f84 w p v45 out i):=(E.spec_l3Text_grp fu).2 w p v45 out i
def E.f85 (fu:Nat)(w:List Vl.Data)(t:Ty)(c':Clause):Option (ByteArray):=
 (E.f83 fu w t c'.pat)>>=fun v=>
 if c'.guard.op=1 then
  if v.size+(⟨#[32]⟩:ByteArray).size≤9223372036854775807 then
   (E.f82 fu c'.guard.var)>>=fun v5=>
   if(v++(⟨#[32]⟩:ByteArray)).size+v5.size≤9223372036854775807 then
    if((v++(⟨#[32]⟩:ByteArray))++v5).size+(⟨#[60]⟩:ByteArray).size≤9223372036854775807 then
     (E.f25 fu c'.guard.n)>>=fun v9=>
     if(((v++(⟨#[32]⟩:ByteArray))++v5)++(⟨#[60]⟩:ByteArray)).size+v9.size≤9223372036854775807 then
      some ((((v++(⟨#[32]⟩:ByteArray))++v5)++(⟨#[60]⟩:ByteArray))++v9)
     else none
    else none
   else none
  else none
 else
  if c'.guard.op=2 then
   if v.size+(⟨#[32]⟩:ByteArray).size≤9223372036854775807 then
    (E.f82 fu c'.guard.var)>>=fun v15=>
    if(v++(⟨#[32]⟩:ByteArray)).size+v15.size≤9223372036854775807 then
     if((v++(⟨#[32]⟩:ByteArray))++v15).size+(⟨#[61]⟩:ByteArray).size≤9223372036854775807 then
      (E.f25 fu c'.guard.n)>>=fun v19=>
      if(((v++(⟨#[32]⟩:ByteArray))++v15)++(⟨#[61]⟩:ByteArray)).size+v19.size≤9223372036854775807 then
       some ((((v++(⟨#[32]⟩:ByteArray))++v15)++(⟨#[61]⟩:ByteArray))++v19)
      else none
     else none
    else none
   else none
  else
   some v
theorem E.f85_le (fu:Nat)(w:List Vl.Data)(t:Ty)(c':Clause):Ole (E.f85 fu w t c') (F.f85 w t c'):=by
 unfold E.f85 F.f85
 repeat' (first|exact Ole.refl _|exact E.f25_le _ _|exact E.f82_le _ _|exact E.f83_le _ _ _ _|refine Ole.bind ?_ (fun _=> ?_)|refine Ole.ite ?_ ?_|split)
def E.f86 (fu:Nat)(w:List Vl.Data)(t:Ty)(list:List Clause)(out:ByteArray)(i:Nat):Option (ByteArray):=
 match fu with
 |0=>none
 |fu+1=>
  if i<list.length then
   if 0<i then
    if out.size+(⟨#[47]⟩:ByteArray).size≤9223372036854775807 then
     (list[i]?)>>=fun x=>
     (E.f85 fu w t x)>>=fun v=>
     if(out++(⟨#[47]⟩:ByteArray)).size+v.size≤9223372036854775807 then
      E.f86 fu w t list ((out++(⟨#[47]⟩:ByteArray))++v) (i+1)
     else none
    else none
   else
    (list[i]?)>>=fun x12=>
    (E.f85 fu w t x12)>>=fun v14=>
    if out.size+v14.size≤9223372036854775807 then
     E.f86 fu w t list (out++v14) (i+1)
    else none
  else
   some out
theorem E.f86_le :∀(fu:Nat) (w:List Vl.Data) (t:Ty) (list:List Clause) (out:ByteArray) (i:Nat),Ole (E.f86 fu w t list out i) (F.f86 w t list out i):=by
 intro fu
 induction fu with
 |zero=>intros;exact Ole.none _
 |succ fu ih=>
  intro w t list out i
  rw[E.f86,F.f86]
  repeat' (first|exact Ole.refl _|exact E.f85_le _ _ _ _|exact ih _ _ _ _ _|refine Ole.bind ?_ (fun _=> ?_)|refine Ole.ite ?_ ?_|split)
def E.f87 (fu:Nat)(w:List Vl.Data)(t:Ty)(list:List Clause):Option (ByteArray):=
 (E.f86 fu w t list ByteArray.empty 0)>>=fun o'=>
 some o'
theorem E.f87_le (fu:Nat)(w:List Vl.Data)(t:Ty)(list:List Clause):Ole (E.f87 fu w t list) (F.f87 w t list):=by
 unfold E.f87 F.f87
 repeat' (first|exact Ole.refl _|exact E.f86_le _ _ _ _ _ _|refine Ole.bind ?_ (fun _=> ?_)|refine Ole.ite ?_ ?_|split)
def E.f88 (fu:Nat)(w:List Vl.Data)(t:Ty)(text:ByteArray)(v4:List ByteArray)(out:List Clause)(i:Nat):Option (Lo ((List Clause)×Bool) (List Clause)):=
 match fu with
 |0=>none
 |fu+1=>
  if i<v4.length then
   if i≤8 then
    if text.toList=ByteArray.empty.toList then
     some (.go out)
    else
     (v4[i]?)>>=fun x=>
     (E.f2 fu x 32)>>=fun v15=>
     (v15[0]?)>>=fun x17=>
     (E.f53 fu w t x17 0 10)>>=fun v19=>
     if v19.2=(x17.size:Int)then
      if x17.toList=ByteArray.empty.toList then
       some (.ret ([],false))
      else
       if 2<v15.length then
        some (.ret ([],false))
       else
        if v15.length=2 then
         (v15[1]?)>>=fun x31=>
         (E.f55 fu x31)>>=fun v33=>
         if out.length+1≤67108864 then
          E.f88 fu w t text v4 (out++[(⟨v19.1,v33⟩:Clause)]) (i+1)
         else none
        else
         if out.length+1≤67108864 then
          E.f88 fu w t text v4 (out++[(⟨v19.1,(⟨0,0,0⟩:Guard)⟩:Clause)]) (i+1)
         else none
     else
      some (.ret ([],false))
   else
    some (.go out)
  else
   some (.go out)
theorem E.f88_le :∀(fu:Nat) (w:List Vl.Data) (t:Ty) (text:ByteArray) (v4:List ByteArray) (out:List Clause) (i:Nat),Ole (E.f88 fu w t text v4 out i) (F.f88 w t text v4 out i):=by
 intro fu
 induction fu with
 |zero=>intros;exact Ole.none _
 |succ fu ih=>
  intro w t text v4 out i
  rw[E.f88,F.f88]
  repeat' (first|exact Ole.refl _|exact E.f2_le _ _ _|exact E.f53_le _ _ _ _ _ _|exact E.f55_le _ _|exact ih _ _ _ _ _ _|refine Ole.bind ?_ (fun _=> ?_)|refine Ole.ite ?_ ?_|split)
def E.f89 (fu:Nat)(w:List Vl.Data)(t:Ty)(text:ByteArray):Option ((List Clause)×Bool):=
 (E.f39 fu w t)>>=fun v=>
 if v=true then
  (E.f2 fu text 47)>>=fun v4=>
  (E.f88 fu w t text v4 [] 0)>>=fun o'=>
  match o' with
  | .ret r0=>some r0
  | .go sx=>
   (E.f81 fu w t sx)>>=fun v40=>
   if v40=true then
    (E.f87 fu w t sx)>>=fun v44=>
    if v44.toList=text.toList then
     some (sx,true)
    else
     some ([],false)
   else
    some ([],false)
 else
  some ([],false)
theorem E.f89_le (fu:Nat)(w:List Vl.Data)(t:Ty)(text:ByteArray):Ole (E.f89 fu w t text) (F.f89 w t text):=by
 unfold E.f89 F.f89
 repeat' (first|exact Ole.refl _|exact E.f81_le _ _ _ _|exact E.f88_le _ _ _ _ _ _ _|exact E.f39_le _ _ _|exact E.f2_le _ _ _|exact E.f87_le _ _ _ _|refine Ole.bind ?_ (fun _=> ?_)|refine Ole.ite ?_ ?_|split)
def E.f92 (fu:Nat)(t:Ty):Option (Int):=
 some (IntKind.i64.wrap (IntKind.i64.wrap (t.data*4)+t.index))
theorem E.f92_le (fu:Nat)(t:Ty):Ole (E.f92 fu t) (F.f92 t):=by
 unfold E.f92 F.f92
 repeat' (first|exact Ole.refl _|refine Ole.bind ?_ (fun _=> ?_)|refine Ole.ite ?_ ?_|split)
def E.f93 (fu:Nat)(table:List Int)(t:Ty):Option (Int):=
 if t.data=(-1)then
  some 1
 else
  (E.f92 fu t)>>=fun v=>
  (at? table v)>>=fun x=>
  some x
theorem E.f93_le (fu:Nat)(table:List Int)(t:Ty):Ole (E.f93 fu table t) (F.f93 table t):=by
 unfold E.f93 F.f93
 repeat' (first|exact Ole.refl _|exact E.f92_le _ _|refine Ole.bind ?_ (fun _=> ?_)|refine Ole.ite ?_ ?_|split)
def E.f94 (fu:Nat)(table:List Int)(v:List Ty)(most:Int)(i:Nat):Option (Lo Int Int):=
 match fu with
 |0=>none
 |fu+1=>
  if i<v.length then
   (v[i]?)>>=fun x=>
   (E.f93 fu table x)>>=fun v6=>
   if v6=0 then
    some (.ret 0)
   else
    if most<v6 then
     E.f94 fu table v v6 (i+1)
    else
     E.f94 fu table v most (i+1)
  else
   some (.go most)
theorem E.f94_le :∀(fu:Nat) (table:List Int) (v:List Ty) (most:Int) (i:Nat),Ole (E.f94 fu table v most i) (F.f94 table v most i):=by
 intro fu
 induction fu with
 |zero=>intros;exact Ole.none _
 |succ fu ih=>
  intro table v most i
  rw[E.f94,F.f94]
  repeat' (first|exact Ole.refl _|exact E.f93_le _ _ _|exact ih _ _ _ _|refine Ole.bind ?_ (fun _=> ?_)|refine Ole.ite ?_ ?_|split)
def E.f95 (fu:Nat)(w:List Vl.Data)(table:List Int)(t:Ty)(ctor:Int):Option (Int):=
 (E.f44 fu w t ctor)>>=fun v=>
 (E.f94 fu table v 0 0)>>=fun o'=>
 match o' with
 | .ret r0=>some r0
 | .go sx=>
  some (IntKind.i64.wrap (sx+1))
theorem E.f95_le (fu:Nat)(w:List Vl.Data)(table:List Int)(t:Ty)(ctor:Int):Ole (E.f95 fu w table t ctor) (F.f95 w table t ctor):=by
 unfold E.f95 F.f95
 repeat' (first|exact Ole.refl _|exact E.f44_le _ _ _ _|exact E.f94_le _ _ _ _ _|refine Ole.bind ?_ (fun _=> ?_)|refine Ole.ite ?_ ?_|split)
def E.f96 (fu:Nat)(w:List Vl.Data)(n:Nat)(s:Nat)(v:List Int)(table10:List Int)(i:Nat):Option (List Int):=
 match fu with
 |0=>none
 |fu+1=>
  if i<v.length then
   (v[i]?)>>=fun x=>
   (E.f95 fu w table10 (⟨IntKind.i64.wrap ((s:Int).tdiv 4),(s:Int).tmod 4⟩:Ty) x)>>=fun v15=>
   if 0<v15 then
    (table10[s]?)>>=fun x19=>
    if x19=0 then
     E.f96 fu w n s v (table10.set s v15) (i+1)
    else
     if v15<x19 then
      E.f96 fu w n s v (table10.set s v15) (i+1)
     else
      E.f96 fu w n s v table10 (i+1)
   else
    E.f96 fu w n s v table10 (i+1)
  else
   some table10
theorem E.f96_le :∀(fu:Nat) (w:List Vl.Data) (n:Nat) (s:Nat) (v:List Int) (table10:List Int) (i:Nat),Ole (E.f96 fu w n s v table10 i) (F.f96 w n s v table10 i):=by
 intro fu
 induction fu with
 |zero=>intros;exact Ole.none _
 |succ fu ih=>
  intro w n s v table10 i
  rw[E.f96,F.f96]
  repeat' (first|exact Ole.refl _|exact E.f95_le _ _ _ _ _|exact ih _ _ _ _ _ _|refine Ole.bind ?_ (fun _=> ?_)|refine Ole.ite ?_ ?_|split)
def E.f97 (fu:Nat)(w:List Vl.Data)(n:Nat)(table5:List Int)(s:Nat):Option (List Int):=
 match fu with
 |0=>none
 |fu+1=>
  if s<table5.length then
   (E.f50 fu w (⟨IntKind.i64.wrap ((s:Int).tdiv 4),(s:Int).tmod 4⟩:Ty))>>=fun v=>
   (E.f96 fu w n s v table5 0)>>=fun o'=>
   if s+1≤9223372036854775807 then
    E.f97 fu w n o' (s+1)
   else none
  else
   some table5
theorem E.f97_le :∀(fu:Nat) (w:List Vl.Data) (n:Nat) (table5:List Int) (s:Nat),Ole (E.f97 fu w n table5 s) (F.f97 w n table5 s):=by
 intro fu
 induction fu with
 |zero=>intros;exact Ole.none _
 |succ fu ih=>
  intro w n table5 s
  rw[E.f97,F.f97]
  repeat' (first|exact Ole.refl _|exact E.f50_le _ _ _|exact E.f96_le _ _ _ _ _ _ _|exact ih _ _ _ _|refine Ole.bind ?_ (fun _=> ?_)|refine Ole.ite ?_ ?_|split)
def E.f98 (fu:Nat)(w:List Vl.Data)(table:List Int)(n:Nat):Option (List Int):=
 match fu with
 |0=>none
 |fu+1=>
  if n≤table.length then
   (E.f97 fu w n table 0)>>=fun o'33=>
   if n+1≤9223372036854775807 then
    E.f98 fu w o'33 (n+1)
   else none
  else
   some table
theorem E.f98_le :∀(fu:Nat) (w:List Vl.Data) (table:List Int) (n:Nat),Ole (E.f98 fu w table n) (F.f98 w table n):=by
 intro fu
 induction fu with
 |zero=>intros;exact Ole.none _
 |succ fu ih=>
  intro w table n
  rw[E.f98,F.f98]
  repeat' (first|exact Ole.refl _|exact E.f97_le _ _ _ _ _|exact ih _ _ _|refine Ole.bind ?_ (fun _=> ?_)|refine Ole.ite ?_ ?_|split)
def E.f99 (fu:Nat)(w:List Vl.Data):Option (List Int):=
 if 0≤IntKind.i64.wrap ((w.length:Int)*4)∧(IntKind.i64.wrap ((w.length:Int)*4)).toNat≤67108864 then
  (E.f98 fu w (List.replicate ((IntKind.i64.wrap ((w.length:Int)*4)).toNat) 0) 0)>>=fun o'37=>
  some o'37
 else none
theorem E.f99_le (fu:Nat)(w:List Vl.Data):Ole (E.f99 fu w) (F.f99 w):=by
 unfold E.f99 F.f99
 repeat' (first|exact Ole.refl _|exact E.f98_le _ _ _ _|refine Ole.bind ?_ (fun _=> ?_)|refine Ole.ite ?_ ?_|split)
end
end Go.Vl
