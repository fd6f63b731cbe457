/- The functions of the program as Lean functions (printed by gen.py). -/
import Derived.Test.YtkgcopogpmckdaaGreatVlG
import Derived.Test.YtkgcopogpmckdaaGreatVlDraw3
import Derived.Test.YtkgcopogpmckdaaGreatVlFa
import Derived.Test.YtkgcopogpmckdaaGreatVlSplit
import Derived.Test.YtkgcopogpmckdaaGreatVlDeep
import Derived.Test.YtkgcopogpmckdaaGreatVlMk
import Derived.Test.YtkgcopogpmckdaaGreatVlFork
import Derived.Test.YtkgcopogpmckdaaGreatVlFloat
set_option linter.all false
set_option synthInstance.maxSize 100000
set_option maxHeartbeats 4000000
namespace Go.Vl
open Go
noncomputable section
structure T_spec_l17Rd where
 f0:List Int
 f1:Int
def T_spec_l17Rd.c (x:T_spec_l17Rd):List AV:=[.arr (List.map cU x.f0),.lit (.int .i64 x.f1)]
@[simp] theorem T_spec_l17Rd.c_eq (x:T_spec_l17Rd):x.c=[.arr (List.map cU x.f0),.lit (.int .i64 x.f1)]:=rfl
abbrev T_spec_l17Rd.z :T_spec_l17Rd:=⟨[],0⟩
@[simp] theorem nice_T_spec_l17Rd :Nice T_spec_l17Rd.c:=⟨by simp,by simp,by simp⟩
@[simp] theorem nlen_T_spec_l17Rd :NiceLen T_spec_l17Rd.c 2:=⟨by simp⟩
def F.f0 (r':T_spec_l17Rd)(n:Int):Option (Int×T_spec_l17Rd):=
 if n<1 then
  some (0,(⟨r'.f0,IntKind.i64.wrap (r'.f1+1)⟩:T_spec_l17Rd))
 else
  if r'.f0.length=0 then
   some (0,(⟨r'.f0,IntKind.i64.wrap (r'.f1+1)⟩:T_spec_l17Rd))
  else
   if IntKind.i64.wrap (IntKind.i64.wrap (r'.f1+1) -1)<(r'.f0.length:Int)then
    (at? r'.f0 (IntKind.i64.wrap (IntKind.i64.wrap (r'.f1+1) -1)))>>=fun x=>
    if n≠0 then
     some ((IntKind.i64.wrap x).tmod n,(⟨r'.f0,IntKind.i64.wrap (r'.f1+1)⟩:T_spec_l17Rd))
    else none
   else
    if(r'.f0.length:Int)≠0 then
     (at? r'.f0 ((IntKind.i64.wrap (IntKind.i64.wrap (r'.f1+1) -1)).tmod (r'.f0.length:Int)))>>=fun x11=>
     (at? r'.f0 ((IntKind.i64.wrap (IntKind.i64.wrap (IntKind.i64.wrap (IntKind.i64.wrap (r'.f1+1) -1)*7)+3)).tmod (r'.f0.length:Int)))>>=fun x13=>
     if n≠0 then
      some ((xorI .i64 (IntKind.i64.wrap (IntKind.i64.wrap (IntKind.i64.wrap (IntKind.i64.wrap (IntKind.i64.wrap x11*131)+IntKind.i64.wrap (IntKind.i64.wrap x13*1117))+IntKind.i64.wrap (IntKind.i64.wrap (IntKind.i64.wrap (r'.f1+1) -1)*29))+IntKind.i64.wrap (IntKind.i64.wrap ((IntKind.i64.wrap (IntKind.i64.wrap (r'.f1+1) -1)).tdiv (r'.f0.length:Int))*53))) (IntKind.i64.wrap ((IntKind.i64.wrap (IntKind.i64.wrap (IntKind.i64.wrap (IntKind.i64.wrap (IntKind.i64.wrap x11*131)+IntKind.i64.wrap (IntKind.i64.wrap x13*1117))+IntKind.i64.wrap (IntKind.i64.wrap (IntKind.i64.wrap (r'.f1+1) -1)*29))+IntKind.i64.wrap (IntKind.i64.wrap ((IntKind.i64.wrap (IntKind.i64.wrap (r'.f1+1) -1)).tdiv (r'.f0.length:Int))*53))).tdiv 64))).tmod n,(⟨r'.f0,IntKind.i64.wrap (r'.f1+1)⟩:T_spec_l17Rd))
     else none
    else none
def F.f1 (s:ByteArray)(c':Int)(out:List ByteArray)(from':Nat)(i:Nat):Option (List ByteArray):=
 if i≤s.size then
  if i=s.size then
   if from'≤i∧i≤s.size then
    if out.length+1≤67108864 then
     if i+1≤9223372036854775807 then
      F.f1 s c' (out++[s.extract from' i]) (i+1) (i+1)
     else none
    else none
   else none
  else
   if i<s.size then
    if((byteAt s i:Nat):Int)=c' then
     if from'≤i∧i≤s.size then
      if out.length+1≤67108864 then
       if i+1≤9223372036854775807 then
        F.f1 s c' (out++[s.extract from' i]) (i+1) (i+1)
       else none
      else none
     else none
    else
     if i+1≤9223372036854775807 then
      F.f1 s c' out from' (i+1)
     else none
   else none
 else
  some out
 partial_fixpoint
def F.f2 (s:ByteArray)(c':Int):Option (List ByteArray):=
 (F.f1 s c' [] 0 0)>>=fun o'=>
 some o'
def F.f3 (names:List ByteArray)(s:ByteArray)(i:Nat):Option (Lo Int Unit):=
 if i<names.length then
  (names[i]?)>>=fun x=>
  if x.toList=s.toList then
   some (.ret (i:Int))
  else
   F.f3 names s (i+1)
 else
  some (.go ())
 partial_fixpoint
def F.f4 (names:List ByteArray)(s:ByteArray):Option (Int):=
 if s.toList=(⟨#[73]⟩:ByteArray).toList then
  some (-1)
 else
  (F.f3 names s 0)>>=fun o'=>
  match o' with
  | .ret r0=>some r0
  | .go sx=>
   some (-2)
def F.f5 (names:List ByteArray)(s:ByteArray):Option (Ty):=
 if s.toList=ByteArray.empty.toList then
  some (⟨(-2),0⟩:Ty)
 else
  if 1≤s.size then
   (F.f4 names (s.extract 0 1))>>=fun v=>
   if(s.extract 1 s.size).toList=(⟨#[42]⟩:ByteArray).toList then
    some (⟨v,(-1)⟩:Ty)
   else
    if s.size=2 then
     if 1<s.size then
      if 48≤byteAt s 1 then
       if byteAt s 1≤57 then
        some (⟨v,IntKind.i64.wrap (IntKind.u8.wrap (((byteAt s 1:Nat):Int) -48))⟩:Ty)
       else
        some (⟨v,0⟩:Ty)
      else
       some (⟨v,0⟩:Ty)
     else none
    else
     some (⟨v,0⟩:Ty)
  else none
def F.f6 (names:List ByteArray)(s:ByteArray)(x:ByteArray)(v21:List ByteArray)(out:List Ty)(i:Nat):Option (List Ty):=
 if i<v21.length then
  if i≤3 then
   (v21[i]?)>>=fun x29=>
   (F.f5 names x29)>>=fun v31=>
   if out.length+1≤67108864 then
    F.f6 names s x v21 (out++[v31]) (i+1)
   else none
  else
   some out
 else
  some out
 partial_fixpoint
def F.f7 (names:List ByteArray)(x38:ByteArray)(v49:List ByteArray)(out51:List Ty)(i52:Nat):Option (List Ty):=
 if i52<v49.length then
  if i52≤3 then
   (v49[i52]?)>>=fun x59=>
   (F.f5 names x59)>>=fun v61=>
   if out51.length+1≤67108864 then
    F.f7 names x38 v49 (out51++[v61]) (i52+1)
   else none
  else
   some out51
 else
  some out51
 partial_fixpoint
def F.f8 (names:List ByteArray)(x69:ByteArray)(v80:List ByteArray)(out82:List Ty)(i83:Nat):Option (List Ty):=
 if i83<v80.length then
  if i83≤3 then
   (v80[i83]?)>>=fun x90=>
   (F.f5 names x90)>>=fun v92=>
   if out82.length+1≤67108864 then
    F.f8 names x69 v80 (out82++[v92]) (i83+1)
   else none
  else
   some out82
 else
  some out82
 partial_fixpoint
def F.f9 (names:List ByteArray)(s:ByteArray):Option (Ctor):=
 if 2<s.size then
  if 0≤IntKind.i64.wrap ((s.size:Int) -2)∧(IntKind.i64.wrap ((s.size:Int) -2)).toNat<s.size then
   if byteAt s ((IntKind.i64.wrap ((s.size:Int) -2)).toNat)=58 then
    if 0≤IntKind.i64.wrap ((s.size:Int) -1)∧(IntKind.i64.wrap ((s.size:Int) -1)).toNat<s.size then
     if 0≤IntKind.i64.wrap ((s.size:Int) -2)∧(IntKind.i64.wrap ((s.size:Int) -2)).toNat≤s.size then
      (F.f2 (s.extract 0 ((IntKind.i64.wrap ((s.size:Int) -2)).toNat)) 40)>>=fun v=>
      (v[0]?)>>=fun x=>
      if v.length<2 then
       some (⟨x,[],IntKind.i64.wrap (IntKind.i64.wrap ((byteAt s ((IntKind.i64.wrap ((s.size:Int) -1)).toNat):Nat):Int) -48)⟩:Ctor)
      else
       (v[1]?)>>=fun x15=>
       if x15.size=0 then
        some (⟨x,[],IntKind.i64.wrap (IntKind.i64.wrap ((byteAt s ((IntKind.i64.wrap ((s.size:Int) -1)).toNat):Nat):Int) -48)⟩:Ctor)
       else
        if 0≤IntKind.i64.wrap ((x15.size:Int) -1)∧(IntKind.i64.wrap ((x15.size:Int) -1)).toNat≤x15.size then
         (F.f2 (x15.extract 0 ((IntKind.i64.wrap ((x15.size:Int) -1)).toNat)) 44)>>=fun v21=>
         (F.f6 names s x v21 [] 0)>>=fun o'=>
         some (⟨x,o',IntKind.i64.wrap (IntKind.i64.wrap ((byteAt s ((IntKind.i64.wrap ((s.size:Int) -1)).toNat):Nat):Int) -48)⟩:Ctor)
        else none
     else none
    else none
   else
    (F.f2 s 40)>>=fun v36=>
    (v36[0]?)>>=fun x38=>
    if v36.length<2 then
     some (⟨x38,[],0⟩:Ctor)
    else
     (v36[1]?)>>=fun x43=>
     if x43.size=0 then
      some (⟨x38,[],0⟩:Ctor)
     else
      if 0≤IntKind.i64.wrap ((x43.size:Int) -1)∧(IntKind.i64.wrap ((x43.size:Int) -1)).toNat≤x43.size then
       (F.f2 (x43.extract 0 ((IntKind.i64.wrap ((x43.size:Int) -1)).toNat)) 44)>>=fun v49=>
       (F.f7 names x38 v49 [] 0)>>=fun o'66=>
       some (⟨x38,o'66,0⟩:Ctor)
      else none
  else none
 else
  (F.f2 s 40)>>=fun v67=>
  (v67[0]?)>>=fun x69=>
  if v67.length<2 then
   some (⟨x69,[],0⟩:Ctor)
  else
   (v67[1]?)>>=fun x74=>
   if x74.size=0 then
    some (⟨x69,[],0⟩:Ctor)
   else
    if 0≤IntKind.i64.wrap ((x74.size:Int) -1)∧(IntKind.i64.wrap ((x74.size:Int) -1)).toNat≤x74.size then
     (F.f2 (x74.extract 0 ((IntKind.i64.wrap ((x74.size:Int) -1)).toNat)) 44)>>=fun v80=>
     (F.f8 names x69 v80 [] 0)>>=fun o'97=>
     some (⟨x69,o'97,0⟩:Ctor)
    else none
def F.f10 (c':Int):Option (Bool):=
 if 65≤c' then
  some (decide (c'≤90))
 else
  some false
def F.f11 (s:ByteArray):Option (Bool):=
 if s.size=1 then
  if 0<s.size then
   (F.f10 ((byteAt s 0:Nat):Int))>>=fun v=>
   if v=true then
    some (decide (¬(s.toList=(⟨#[73]⟩:ByteArray).toList)))
   else
    some false
  else none
 else
  some false
def F.f12 (s:ByteArray)(i:Nat):Option (Lo Bool Unit):=
 if i<s.size then
  if byteAt s i<97 then
   some (.ret false)
  else
   if 122<byteAt s i then
    some (.ret false)
   else
    if i+1≤9223372036854775807 then
     F.f12 s (i+1)
    else none
 else
  some (.go ())
 partial_fixpoint
def F.f13 (s:ByteArray):Option (Bool):=
 if s.size=0 then
  some false
 else
  if 5<s.size then
   some false
  else
   if 0<s.size then
    (F.f10 ((byteAt s 0:Nat):Int))>>=fun v=>
    if v=true then
     (F.f12 s 1)>>=fun o'=>
     match o' with
     | .ret r0=>some r0
     | .go sx=>
      some true
    else
     some false
   else none
def F.f14 (n:Int)(t:Ty):Option (Bool):=
 if t.data=(-1)then
  some (decide (t.index=0))
 else
  if 0≤t.data then
   if t.data<n then
    if(-1)≤t.index then
     some (decide (t.index≤3))
    else
     some false
   else
    some false
  else
   some false
def F.f15 (n:Int)(c':Ctor)(i:Nat):Option (Lo Bool Unit):=
 if i<c'.args.length then
  (c'.args[i]?)>>=fun x=>
  (F.f14 n x)>>=fun v15=>
  if v15=true then
   F.f15 n c' (i+1)
  else
   some (.ret false)
 else
  some (.go ())
 partial_fixpoint
def F.f16 (n:Int)(c':Ctor):Option (Bool):=
 (F.f13 c'.name)>>=fun v=>
 if v=true then
  if 3<c'.args.length then
   some false
  else
   if c'.index<0 then
    some false
   else
    if 3<c'.index then
     some false
    else
     (F.f15 n c' 0)>>=fun o'=>
     match o' with
     | .ret r0=>some r0
     | .go sx=>
      some true
 else
  some false
def F.f17 (w:List Vl.Data)(d:Int)(k:Int)(i:Nat)(j:Nat):Option (Lo Bool Unit):=
 (w[i]?)>>=fun x10=>
 if j<x10.ctors.length then
  if(i:Int)<d then
   (at? w d)>>=fun x33=>
   if k<(x33.ctors.length:Int)then
    (x10.ctors[j]?)>>=fun x37=>
    (at? x33.ctors k)>>=fun x39=>
    if x37.name.toList=x39.name.toList then
     some (.ret true)
    else
     if j+1≤9223372036854775807 then
      F.f17 w d k i (j+1)
     else none
   else
    if j+1≤9223372036854775807 then
     F.f17 w d k i (j+1)
    else none
  else
   if(j:Int)<k then
    (at? w d)>>=fun x19=>
    if k<(x19.ctors.length:Int)then
     (x10.ctors[j]?)>>=fun x23=>
     (at? x19.ctors k)>>=fun x25=>
     if x23.name.toList=x25.name.toList then
      some (.ret true)
     else
      if j+1≤9223372036854775807 then
       F.f17 w d k i (j+1)
      else none
    else
     if j+1≤9223372036854775807 then
      F.f17 w d k i (j+1)
     else none
   else
    some (.go ())
 else
  some (.go ())
 partial_fixpoint
def F.f18 (w:List Vl.Data)(d:Int)(k:Int)(i:Nat)(j50:Nat):Option (Lo Bool Unit):=
 (w[i]?)>>=fun x51=>
 if j50<x51.ctors.length then
  if(i:Int)<d then
   (at? w d)>>=fun x74=>
   if k<(x74.ctors.length:Int)then
    (x51.ctors[j50]?)>>=fun x78=>
    (at? x74.ctors k)>>=fun x80=>
    if x78.name.toList=x80.name.toList then
     some (.ret true)
    else
     if j50+1≤9223372036854775807 then
      F.f18 w d k i (j50+1)
     else none
   else
    if j50+1≤9223372036854775807 then
     F.f18 w d k i (j50+1)
    else none
  else
   if(j50:Int)<k then
    (at? w d)>>=fun x60=>
    if k<(x60.ctors.length:Int)then
     (x51.ctors[j50]?)>>=fun x64=>
     (at? x60.ctors k)>>=fun x66=>
     if x64.name.toList=x66.name.toList then
      some (.ret true)
     else
      if j50+1≤9223372036854775807 then
       F.f18 w d k i (j50+1)
      else none
    else
     if j50+1≤9223372036854775807 then
      F.f18 w d k i (j50+1)
     else none
   else
    some (.go ())
 else
  some (.go ())
 partial_fixpoint
def F.f19 (w:List Vl.Data)(d:Int)(k:Int)(i:Nat):Option (Lo Bool Unit):=
 if(i:Int)≤d then
  if(i:Int)<d then
   (w[i]?)>>=fun x=>
   (at? w d)>>=fun x6=>
   if x.name.toList=x6.name.toList then
    some (.ret true)
   else
    (F.f17 w d k i 0)>>=fun o'=>
    match o' with
    | .ret r0=>some (.ret r0)
    | .go sx=>
     if i+1≤9223372036854775807 then
      F.f19 w d k (i+1)
     else none
  else
   (F.f18 w d k i 0)>>=fun o'89=>
   match o'89 with
   | .ret r093=>some (.ret r093)
   | .go sx90=>
    if i+1≤9223372036854775807 then
     F.f19 w d k (i+1)
    else none
 else
  some (.go ())
 partial_fixpoint
def F.f20 (w:List Vl.Data)(d:Int)(k:Int):Option (Bool):=
 (F.f19 w d k 0)>>=fun o'95=>
 match o'95 with
 | .ret r097=>some r097
 | .go sx96=>
  some false
def F.f21 (w:List Vl.Data)(d:Nat)(k:Nat):Option (Lo Bool Unit):=
 (w[d]?)>>=fun x17=>
 if k<x17.ctors.length then
  (x17.ctors[k]?)>>=fun x22=>
  (F.f16 (w.length:Int) x22)>>=fun v24=>
  if v24=true then
   (F.f20 w (d:Int) (k:Int))>>=fun v28=>
   if v28=true then
    some (.ret false)
   else
    if k+1≤9223372036854775807 then
     F.f21 w d (k+1)
    else none
  else
   some (.ret false)
 else
  some (.go ())
 partial_fixpoint
def F.f22 (w:List Vl.Data)(d:Nat):Option (Lo Bool Unit):=
 if d<w.length then
  (w[d]?)>>=fun x=>
  (F.f11 x.name)>>=fun v=>
  if v=true then
   if x.ctors.length=0 then
    some (.ret false)
   else
    if 4<x.ctors.length then
     some (.ret false)
    else
     (F.f21 w d 0)>>=fun o'=>
     match o' with
     | .ret r0=>some (.ret r0)
     | .go sx=>
      if d+1≤9223372036854775807 then
       F.f22 w (d+1)
      else none
  else
   some (.ret false)
 else
  some (.go ())
 partial_fixpoint
def F.f23 (w:List Vl.Data):Option (Bool):=
 if 4<w.length then
  some false
 else
  (F.f22 w 0)>>=fun o'38=>
  match o'38 with
  | .ret r040=>some r040
  | .go sx39=>
   some true
def F.f24 (n7:Int)(out:ByteArray):Option (Int×ByteArray):=
 if 9<n7 then
  if(strB [IntKind.u8.wrap (IntKind.i64.wrap (48+n7.tmod 10))]).size+out.size≤9223372036854775807 then
   F.f24 (IntKind.i64.wrap (n7.tdiv 10)) ((strB [IntKind.u8.wrap (IntKind.i64.wrap (48+n7.tmod 10))])++out)
  else none
 else
  some (n7,out)
 partial_fixpoint
def F.f25 (n:Int):Option (ByteArray):=
 if n<(-9223372036854775807)then
  some (⟨#[45,57,50,50,51,51,55,50,48,51,54,56,53,52,55,55,53,56,48,56]⟩:ByteArray)
 else
  if n<0 then
   (F.f25 (IntKind.i64.wrap (0-n)))>>=fun v=>
   if(⟨#[45]⟩:ByteArray).size+v.size≤9223372036854775807 then
    some ((⟨#[45]⟩:ByteArray)++v)
   else none
  else
   (F.f24 n ByteArray.empty)>>=fun o'=>
   if(strB [IntKind.u8.wrap (IntKind.i64.wrap (48+o'.1))]).size+o'.2.size≤9223372036854775807 then
    some ((strB [IntKind.u8.wrap (IntKind.i64.wrap (48+o'.1))])++o'.2)
   else none
 partial_fixpoint
def F.f26 (n:Int):Option (ByteArray):=
 if n=0 then
  some ByteArray.empty
 else
  if n=(-1)then
   some (⟨#[42]⟩:ByteArray)
  else
   (F.f25 n)>>=fun v=>
   some v
def F.f27 (w:List Vl.Data)(t:Ty):Option (ByteArray):=
 if t.data=(-1)then
  some (⟨#[73]⟩:ByteArray)
 else
  (at? w t.data)>>=fun x=>
  (F.f26 t.index)>>=fun v=>
  if x.name.size+v.size≤9223372036854775807 then
   some (x.name++v)
  else none
def F.f28 (w:List Vl.Data)(c':Ctor)(out:ByteArray)(i:Nat):Option (ByteArray):=
 if i<c'.args.length then
  if i=0 then
   if out.size+(⟨#[40]⟩:ByteArray).size≤9223372036854775807 then
    (c'.args[i]?)>>=fun x=>
    (F.f27 w x)>>=fun v=>
    if(out++(⟨#[40]⟩:ByteArray)).size+v.size≤9223372036854775807 then
     F.f28 w c' ((out++(⟨#[40]⟩:ByteArray))++v) (i+1)
    else none
   else none
  else
   if out.size+(⟨#[44]⟩:ByteArray).size≤9223372036854775807 then
    (c'.args[i]?)>>=fun x13=>
    (F.f27 w x13)>>=fun v15=>
    if(out++(⟨#[44]⟩:ByteArray)).size+v15.size≤9223372036854775807 then
     F.f28 w c' ((out++(⟨#[44]⟩:ByteArray))++v15) (i+1)
    else none
   else none
 else
  some out
 partial_fixpoint
def F.f29 (w:List Vl.Data)(c':Ctor):Option (ByteArray):=
 (F.f28 w c' c'.name 0)>>=fun o'=>
 if 0<c'.args.length then
  if o'.size+(⟨#[41]⟩:ByteArray).size≤9223372036854775807 then
   if 0<c'.index then
    if(o'++(⟨#[41]⟩:ByteArray)).size+(⟨#[58]⟩:ByteArray).size≤9223372036854775807 then
     (F.f25 c'.index)>>=fun v27=>
     if((o'++(⟨#[41]⟩:ByteArray))++(⟨#[58]⟩:ByteArray)).size+v27.size≤9223372036854775807 then
      some (((o'++(⟨#[41]⟩:ByteArray))++(⟨#[58]⟩:ByteArray))++v27)
     else none
    else none
   else
    some (o'++(⟨#[41]⟩:ByteArray))
  else none
 else
  if 0<c'.index then
   if o'.size+(⟨#[58]⟩:ByteArray).size≤9223372036854775807 then
    (F.f25 c'.index)>>=fun v33=>
    if(o'++(⟨#[58]⟩:ByteArray)).size+v33.size≤9223372036854775807 then
     some ((o'++(⟨#[58]⟩:ByteArray))++v33)
    else none
   else none
  else
   some o'
def F.f30 (w:List Vl.Data)(d:Nat)(out11:ByteArray)(k:Nat):Option (ByteArray):=
 (w[d]?)>>=fun x12=>
 if k<x12.ctors.length then
  if 0<k then
   if out11.size+(⟨#[124]⟩:ByteArray).size≤9223372036854775807 then
    (x12.ctors[k]?)>>=fun x21=>
    (F.f29 w x21)>>=fun v=>
    if(out11++(⟨#[124]⟩:ByteArray)).size+v.size≤9223372036854775807 then
     if k+1≤9223372036854775807 then
      F.f30 w d ((out11++(⟨#[124]⟩:ByteArray))++v) (k+1)
     else none
    else none
   else none
  else
   (x12.ctors[k]?)>>=fun x27=>
   (F.f29 w x27)>>=fun v29=>
   if out11.size+v29.size≤9223372036854775807 then
    if k+1≤9223372036854775807 then
     F.f30 w d (out11++v29) (k+1)
    else none
   else none
 else
  some out11
 partial_fixpoint
def F.f31 (w:List Vl.Data)(d:Nat)(out41:ByteArray)(k42:Nat):Option (ByteArray):=
 (w[d]?)>>=fun x43=>
 if k42<x43.ctors.length then
  if 0<k42 then
   if out41.size+(⟨#[124]⟩:ByteArray).size≤9223372036854775807 then
    (x43.ctors[k42]?)>>=fun x52=>
    (F.f29 w x52)>>=fun v54=>
    if(out41++(⟨#[124]⟩:ByteArray)).size+v54.size≤9223372036854775807 then
     if k42+1≤9223372036854775807 then
      F.f31 w d ((out41++(⟨#[124]⟩:ByteArray))++v54) (k42+1)
     else none
    else none
   else none
  else
   (x43.ctors[k42]?)>>=fun x59=>
   (F.f29 w x59)>>=fun v61=>
   if out41.size+v61.size≤9223372036854775807 then
    if k42+1≤9223372036854775807 then
     F.f31 w d (out41++v61) (k42+1)
    else none
   else none
 else
  some out41
 partial_fixpoint
def F.f32 (w:List Vl.Data)(out:ByteArray)(d:Nat):Option (ByteArray):=
 if d<w.length then
  if 0<d then
   if out.size+(⟨#[59]⟩:ByteArray).size≤9223372036854775807 then
    (w[d]?)>>=fun x=>
    if(out++(⟨#[59]⟩:ByteArray)).size+x.name.size≤9223372036854775807 then
     if((out++(⟨#[59]⟩:ByteArray))++x.name).size+(⟨#[61]⟩:ByteArray).size≤9223372036854775807 then
      (F.f30 w d (((out++(⟨#[59]⟩:ByteArray))++x.name)++(⟨#[61]⟩:ByteArray)) 0)>>=fun o'=>
      if d+1≤9223372036854775807 then
       F.f32 w o' (d+1)
      else none
     else none
    else none
   else none
  else
   (w[d]?)>>=fun x37=>
   if out.size+x37.name.size≤9223372036854775807 then
    if(out++x37.name).size+(⟨#[61]⟩:ByteArray).size≤9223372036854775807 then
     (F.f31 w d ((out++x37.name)++(⟨#[61]⟩:ByteArray)) 0)>>=fun o'67=>
     if d+1≤9223372036854775807 then
      F.f32 w o'67 (d+1)
     else none
    else none
   else none
 else
  some out
 partial_fixpoint
def F.f33 (w:List Vl.Data):Option (ByteArray):=
 (F.f32 w ByteArray.empty 0)>>=fun o'71=>
 some o'71
def F.f34 (text:ByteArray)(v:List ByteArray)(names:List ByteArray)(i:Nat):Option (Lo ((List Vl.Data)×Bool) (List ByteArray)):=
 if i<v.length then
  if i≤4 then
   if text.toList=ByteArray.empty.toList then
    some (.go names)
   else
    (v[i]?)>>=fun x=>
    (F.f2 x 61)>>=fun v11=>
    if v11.length=2 then
     (v11[0]?)>>=fun x16=>
     if names.length+1≤67108864 then
      F.f34 text v (names++[x16]) (i+1)
     else none
    else
     some (.ret ([],false))
  else
   some (.go names)
 else
  some (.go names)
 partial_fixpoint
def F.f35 (text:ByteArray)(v:List ByteArray)(out:List Vl.Data)(names21:List ByteArray)(i22:Nat)(v32:List ByteArray)(x34:ByteArray)(out36:List Ctor)(k:Nat):Option (List Ctor):=
 if k<v32.length then
  if k≤4 then
   (v32[k]?)>>=fun x43=>
   (F.f9 names21 x43)>>=fun v45=>
   if out36.length+1≤67108864 then
    F.f35 text v out names21 i22 v32 x34 (out36++[v45]) (k+1)
   else none
  else
   some out36
 else
  some out36
 partial_fixpoint
def F.f36 (text:ByteArray)(v:List ByteArray)(out:List Vl.Data)(names21:List ByteArray)(i22:Nat):Option (List Vl.Data):=
 if i22<names21.length then
  (v[i22]?)>>=fun x26=>
  (F.f2 x26 61)>>=fun v28=>
  (v28[1]?)>>=fun x30=>
  (F.f2 x30 124)>>=fun v32=>
  (names21[i22]?)>>=fun x34=>
  (F.f35 text v out names21 i22 v32 x34 [] 0)>>=fun o'50=>
  if out.length+1≤67108864 then
   if i22+1≤9223372036854775807 then
    F.f36 text v (out++[(⟨x34,o'50⟩:Vl.Data)]) names21 (i22+1)
   else none
  else none
 else
  some out
 partial_fixpoint
def F.f37 (text:ByteArray):Option ((List Vl.Data)×Bool):=
 (F.f2 text 59)>>=fun v=>
 (F.f34 text v [] 0)>>=fun o'=>
 match o' with
 | .ret r0=>some r0
 | .go sx=>
  (F.f36 text v [] sx 0)>>=fun o'55=>
  (F.f23 o'55)>>=fun v56=>
  if v56=true then
   (F.f33 o'55)>>=fun v60=>
   if v60.toList=text.toList then
    some (o'55,true)
   else
    some ([],false)
  else
   some ([],false)
def F.f38 (w:List Vl.Data)(t:Ty):Option (Bool):=
 (F.f14 (w.length:Int) t)>>=fun v=>
 if v=true then
  some (decide (0≤t.index))
 else
  some false
def F.f39 (w:List Vl.Data)(t:Ty):Option (Bool):=
 (F.f23 w)>>=fun v=>
 if v=true then
  (F.f38 w t)>>=fun v4=>
  some v4
 else
  some false
def F.f40 (s:ByteArray)(at':Int)(c':Int):Option (Bool):=
 if 0≤at' then
  if at'<(s.size:Int)then
   if 0≤at'∧at'.toNat<s.size then
    some (decide (((byteAt s at'.toNat:Nat):Int)=c'))
   else none
  else
   some false
 else
  some false
def F.f41 (s:ByteArray)(at':Int):Option (Pattern×Int):=
 if 0≤at'∧at'.toNat<s.size then
  (F.f40 s (IntKind.i64.wrap (at'+1)) 45)>>=fun v=>
  if v=true then
   if IntKind.i64.wrap (at'+2)<(s.size:Int)then
    if 0≤IntKind.i64.wrap (at'+2)∧(IntKind.i64.wrap (at'+2)).toNat<s.size then
     if 48≤byteAt s ((IntKind.i64.wrap (at'+2)).toNat)then
      if byteAt s ((IntKind.i64.wrap (at'+2)).toNat)≤57 then
       some ((⟨3,0,IntKind.i64.wrap (IntKind.u8.wrap (((byteAt s at'.toNat:Nat):Int) -48)),IntKind.i64.wrap (IntKind.u8.wrap (((byteAt s ((IntKind.i64.wrap (at'+2)).toNat):Nat):Int) -48)),0,[]⟩:Pattern),IntKind.i64.wrap (at'+3))
      else
       some ((⟨3,0,IntKind.i64.wrap (IntKind.u8.wrap (((byteAt s at'.toNat:Nat):Int) -48)),IntKind.i64.wrap (IntKind.u8.wrap (((byteAt s at'.toNat:Nat):Int) -48)),0,[]⟩:Pattern),IntKind.i64.wrap (at'+1))
     else
      some ((⟨3,0,IntKind.i64.wrap (IntKind.u8.wrap (((byteAt s at'.toNat:Nat):Int) -48)),IntKind.i64.wrap (IntKind.u8.wrap (((byteAt s at'.toNat:Nat):Int) -48)),0,[]⟩:Pattern),IntKind.i64.wrap (at'+1))
    else none
   else
    some ((⟨3,0,IntKind.i64.wrap (IntKind.u8.wrap (((byteAt s at'.toNat:Nat):Int) -48)),IntKind.i64.wrap (IntKind.u8.wrap (((byteAt s at'.toNat:Nat):Int) -48)),0,[]⟩:Pattern),IntKind.i64.wrap (at'+1))
  else
   some ((⟨3,0,IntKind.i64.wrap (IntKind.u8.wrap (((byteAt s at'.toNat:Nat):Int) -48)),IntKind.i64.wrap (IntKind.u8.wrap (((byteAt s at'.toNat:Nat):Int) -48)),0,[]⟩:Pattern),IntKind.i64.wrap (at'+1))
 else none
def F.f42 (c':Ctor)(index':Int):Option (Int):=
 if c'.index=0 then
  some index'
 else
  some c'.index
def F.f43 (t:Ty)(x2:Ctor)(out:List Ty)(i:Nat):Option (List Ty):=
 if i<x2.args.length then
  (x2.args[i]?)>>=fun x7=>
  if x7.index=(-1)then
   (F.f42 x2 t.index)>>=fun v=>
   if out.length+1≤67108864 then
    F.f43 t x2 (out++[(⟨x7.data,v⟩:Ty)]) (i+1)
   else none
  else
   if out.length+1≤67108864 then
    F.f43 t x2 (out++[x7]) (i+1)
   else none
 else
  some out
 partial_fixpoint
def F.f44 (w:List Vl.Data)(t:Ty)(ctor:Int):Option (List Ty):=
 (at? w t.data)>>=fun x=>
 (at? x.ctors ctor)>>=fun x2=>
 (F.f43 t x2 [] 0)>>=fun o'=>
 some o'
def F.f45 (s:ByteArray)(at':Int)(end':Int):Option (Int):=
 if end'<(s.size:Int)then
  if end'=at' then
   if 0≤end'∧end'.toNat<s.size then
    (F.f10 ((byteAt s end'.toNat:Nat):Int))>>=fun v=>
    if v=true then
     F.f45 s at' (IntKind.i64.wrap (end'+1))
    else
     if at'<end' then
      if 97≤byteAt s end'.toNat then
       if byteAt s end'.toNat≤122 then
        F.f45 s at' (IntKind.i64.wrap (end'+1))
       else
        some end'
      else
       some end'
     else
      some end'
   else none
  else
   if at'<end' then
    if 0≤end'∧end'.toNat<s.size then
     if 97≤byteAt s end'.toNat then
      if byteAt s end'.toNat≤122 then
       F.f45 s at' (IntKind.i64.wrap (end'+1))
      else
       some end'
     else
      some end'
    else none
   else
    some end'
 else
  some end'
 partial_fixpoint
def F.f46 (s:ByteArray)(at':Int):Option (ByteArray×Int):=
 (F.f45 s at' at')>>=fun o'=>
 if 0≤at'∧0≤o'∧at'.toNat≤o'.toNat∧o'.toNat≤s.size then
  some (s.extract at'.toNat o'.toNat,o')
 else none
def F.f47 (w:List Vl.Data)(t:Ty)(name:ByteArray)(v:List Int)(i:Nat):Option (Lo Int Unit):=
 if i<v.length then
  (at? w t.data)>>=fun x=>
  (v[i]?)>>=fun x6=>
  (at? x.ctors x6)>>=fun x8=>
  if x8.name.toList=name.toList then
   some (.ret x6)
  else
   F.f47 w t name v (i+1)
 else
  some (.go ())
 partial_fixpoint
def F.f48 (c':Ctor)(index':Int):Option (Bool):=
 if c'.index=0 then
  some true
 else
  if index'=0 then
   some true
  else
   some (decide (c'.index=index'))
def F.f49 (w:List Vl.Data)(t:Ty)(out:List Int)(k:Nat):Option (List Int):=
 (at? w t.data)>>=fun x=>
 if k<x.ctors.length then
  (x.ctors[k]?)>>=fun x7=>
  (F.f48 x7 t.index)>>=fun v=>
  if v=true then
   if out.length+1≤67108864 then
    if k+1≤9223372036854775807 then
     F.f49 w t (out++[(k:Int)]) (k+1)
    else none
   else none
  else
   if k+1≤9223372036854775807 then
    F.f49 w t out (k+1)
   else none
 else
  some out
 partial_fixpoint
def F.f50 (w:List Vl.Data)(t:Ty):Option (List Int):=
 if t.data=(-1)then
  some []
 else
  (F.f49 w t [] 0)>>=fun o'=>
  some o'
def F.f51 (w:List Vl.Data)(t:Ty)(name:ByteArray):Option (Int):=
 (F.f50 w t)>>=fun v=>
 (F.f47 w t name v 0)>>=fun o'=>
 match o' with
 | .ret r0=>some r0
 | .go sx=>
  some (-1)
mutual
def F.f52 (w:List Vl.Data)(types':List Ty)(signs:List Int)(s:ByteArray)(at':Int)(depth:Int):Option ((List Pattern)×Int):=
 (F.f54 w types' signs s depth [] 0 at')>>=fun o'=>
 match o' with
 | .ret r0=>some r0
 | .go sx=>
  some (sx.1,sx.2)
 partial_fixpoint
def F.f53 (w:List Vl.Data)(t:Ty)(s:ByteArray)(at':Int)(depth:Int):Option (Pattern×Int):=
 if depth<1 then
  some ((⟨0,0,0,0,0,[]⟩:Pattern),(-1))
 else
  if at'<0 then
   some ((⟨0,0,0,0,0,[]⟩:Pattern),(-1))
  else
   if(s.size:Int)≤at' then
    some ((⟨0,0,0,0,0,[]⟩:Pattern),(-1))
   else
    if 0≤at'∧at'.toNat<s.size then
     if byteAt s at'.toNat=95 then
      some ((⟨1,0,0,0,0,[]⟩:Pattern),IntKind.i64.wrap (at'+1))
     else
      if 48≤byteAt s at'.toNat then
       if byteAt s at'.toNat≤57 then
        (F.f41 s at')>>=fun v=>
        some (v.1,v.2)
       else
        if byteAt s at'.toNat=40 then
         (F.f52 w [t,t] [40,124] s at' (IntKind.i64.wrap (depth-1)))>>=fun v21=>
         (F.f40 s v21.2 41)>>=fun v23=>
         if v23=true then
          some ((⟨5,0,0,0,0,v21.1⟩:Pattern),IntKind.i64.wrap (v21.2+1))
         else
          some ((⟨0,0,0,0,0,[]⟩:Pattern),(-1))
        else
         if 97≤byteAt s at'.toNat then
          if byteAt s at'.toNat≤122 then
           (F.f40 s (IntKind.i64.wrap (at'+1)) 64)>>=fun v33=>
           if v33=true then
            (F.f52 w [t] [64] s (IntKind.i64.wrap (at'+1)) (IntKind.i64.wrap (depth-1)))>>=fun v37=>
            some ((⟨6,0,0,0,IntKind.i64.wrap (IntKind.u8.wrap (((byteAt s at'.toNat:Nat):Int) -97)),v37.1⟩:Pattern),v37.2)
           else
            some ((⟨2,0,0,0,IntKind.i64.wrap (IntKind.u8.wrap (((byteAt s at'.toNat:Nat):Int) -97)),[]⟩:Pattern),IntKind.i64.wrap (at'+1))
          else
           (F.f46 s at')>>=fun v39=>
           (F.f51 w t v39.1)>>=fun v41=>
           if v41<0 then
            some ((⟨0,0,0,0,0,[]⟩:Pattern),(-1))
           else
            (F.f44 w t v41)>>=fun v45=>
            (F.f52 w v45 [40,44,44] s v39.2 (IntKind.i64.wrap (depth-1)))>>=fun v47=>
            if v45.length=0 then
             some ((⟨4,v41,0,0,0,v47.1⟩:Pattern),v47.2)
            else
             (F.f40 s v47.2 41)>>=fun v52=>
             if v52=true then
              some ((⟨4,v41,0,0,0,v47.1⟩:Pattern),IntKind.i64.wrap (v47.2+1))
             else
              some ((⟨0,0,0,0,0,[]⟩:Pattern),(-1))
         else
          (F.f46 s at')>>=fun v56=>
          (F.f51 w t v56.1)>>=fun v58=>
          if v58<0 then
           some ((⟨0,0,0,0,0,[]⟩:Pattern),(-1))
          else
           (F.f44 w t v58)>>=fun v62=>
           (F.f52 w v62 [40,44,44] s v56.2 (IntKind.i64.wrap (depth-1)))>>=fun v64=>
           if v62.length=0 then
            some ((⟨4,v58,0,0,0,v64.1⟩:Pattern),v64.2)
           else
            (F.f40 s v64.2 41)>>=fun v69=>
            if v69=true then
             some ((⟨4,v58,0,0,0,v64.1⟩:Pattern),IntKind.i64.wrap (v64.2+1))
            else
             some ((⟨0,0,0,0,0,[]⟩:Pattern),(-1))
      else
       if byteAt s at'.toNat=40 then
        (F.f52 w [t,t] [40,124] s at' (IntKind.i64.wrap (depth-1)))>>=fun v76=>
        (F.f40 s v76.2 41)>>=fun v78=>
        if v78=true then
         some ((⟨5,0,0,0,0,v76.1⟩:Pattern),IntKind.i64.wrap (v76.2+1))
        else
         some ((⟨0,0,0,0,0,[]⟩:Pattern),(-1))
       else
        if 97≤byteAt s at'.toNat then
         if byteAt s at'.toNat≤122 then
          (F.f40 s (IntKind.i64.wrap (at'+1)) 64)>>=fun v88=>
          if v88=true then
           (F.f52 w [t] [64] s (IntKind.i64.wrap (at'+1)) (IntKind.i64.wrap (depth-1)))>>=fun v92=>
           some ((⟨6,0,0,0,IntKind.i64.wrap (IntKind.u8.wrap (((byteAt s at'.toNat:Nat):Int) -97)),v92.1⟩:Pattern),v92.2)
          else
           some ((⟨2,0,0,0,IntKind.i64.wrap (IntKind.u8.wrap (((byteAt s at'.toNat:Nat):Int) -97)),[]⟩:Pattern),IntKind.i64.wrap (at'+1))
         else
          (F.f46 s at')>>=fun v94=>
          (F.f51 w t v94.1)>>=fun v96=>
          if v96<0 then
           some ((⟨0,0,0,0,0,[]⟩:Pattern),(-1))
          else
           (F.f44 w t v96)>>=fun v100=>
           (F.f52 w v100 [40,44,44] s v94.2 (IntKind.i64.wrap (depth-1)))>>=fun v102=>
           if v100.length=0 then
            some ((⟨4,v96,0,0,0,v102.1⟩:Pattern),v102.2)
           else
            (F.f40 s v102.2 41)>>=fun v107=>
            if v107=true then
             some ((⟨4,v96,0,0,0,v102.1⟩:Pattern),IntKind.i64.wrap (v102.2+1))
            else
             some ((⟨0,0,0,0,0,[]⟩:Pattern),(-1))
        else
         (F.f46 s at')>>=fun v111=>
         (F.f51 w t v111.1)>>=fun v113=>
         if v113<0 then
          some ((⟨0,0,0,0,0,[]⟩:Pattern),(-1))
         else
          (F.f44 w t v113)>>=fun v117=>
          (F.f52 w v117 [40,44,44] s v111.2 (IntKind.i64.wrap (depth-1)))>>=fun v119=>
          if v117.length=0 then
           some ((⟨4,v113,0,0,0,v119.1⟩:Pattern),v119.2)
          else
           (F.f40 s v119.2 41)>>=fun v124=>
           if v124=true then
            some ((⟨4,v113,0,0,0,v119.1⟩:Pattern),IntKind.i64.wrap (v119.2+1))
           else
            some ((⟨0,0,0,0,0,[]⟩:Pattern),(-1))
    else none
 partial_fixpoint
def F.f54 (w:List Vl.Data)(types':List Ty)(signs:List Int)(s:ByteArray)(depth:Int)(out:List Pattern)(i:Nat)(at'1:Int):Option (Lo ((List Pattern)×Int) ((List Pattern)×Int)):=
 if i<types'.length then
  (signs[i]?)>>=fun x=>
  (F.f40 s at'1 x)>>=fun v=>
  if v=true then
   (types'[i]?)>>=fun x9=>
   (F.f53 w x9 s (IntKind.i64.wrap (at'1+1)) depth)>>=fun v11=>
   if out.length+1≤67108864 then
    F.f54 w types' signs s depth (out++[v11.1]) (i+1) v11.2
   else none
  else
   some (.ret ([],(-1)))
 else
  some (.go (out,at'1))
 partial_fixpoint
end
def F.f55 (s:ByteArray):Option (Guard):=
 if s.size=3 then
  if 0<s.size then
   if 2<s.size then
    if 1<s.size then
     if byteAt s 1=60 then
      some (⟨1,IntKind.i64.wrap (IntKind.i64.wrap ((byteAt s 0:Nat):Int) -97),IntKind.i64.wrap (IntKind.i64.wrap ((byteAt s 2:Nat):Int) -48)⟩:Guard)
     else
      if byteAt s 1=61 then
       some (⟨2,IntKind.i64.wrap (IntKind.i64.wrap ((byteAt s 0:Nat):Int) -97),IntKind.i64.wrap (IntKind.i64.wrap ((byteAt s 2:Nat):Int) -48)⟩:Guard)
      else
       some (⟨(-1),IntKind.i64.wrap (IntKind.i64.wrap ((byteAt s 0:Nat):Int) -97),IntKind.i64.wrap (IntKind.i64.wrap ((byteAt s 2:Nat):Int) -48)⟩:Guard)
    else none
   else none
  else none
 else
  some (⟨(-1),0,0⟩:Guard)
def F.f56 (list:List Int)(n:Int)(i:Nat):Option (Lo Bool Unit):=
 if i<list.length then
  (list[i]?)>>=fun x=>
  if x=n then
   some (.ret true)
  else
   F.f56 list n (i+1)
 else
  some (.go ())
 partial_fixpoint
def F.f57 (list:List Int)(n:Int):Option (Bool):=
 (F.f56 list n 0)>>=fun o'=>
 match o' with
 | .ret r0=>some r0
 | .go sx=>
  some false
def F.f58 (w:List Vl.Data)(t:Ty)(p:Pattern):Option (Bool):=
 if p.op=2 then
  if p.var<0 then
   some false
  else
   if 5<p.var then
    some false
   else
    if p.n=0 then
     if p.m=0 then
      if p.ctor=0 then
       some true
      else
       some false
     else
      some false
    else
     some false
 else
  if p.op=6 then
   if p.var<0 then
    some false
   else
    if 5<p.var then
     some false
    else
     if p.n=0 then
      if p.m=0 then
       if p.ctor=0 then
        some true
       else
        some false
      else
       some false
     else
      some false
  else
   if p.var=0 then
    if p.op=3 then
     if p.ctor=0 then
      if t.data=(-1)then
       if 0≤p.n then
        if p.n≤p.m then
         some (decide (p.m≤9))
        else
         some false
       else
        some false
      else
       some false
     else
      some false
    else
     if p.n=0 then
      if p.m=0 then
       if p.op=4 then
        (F.f50 w t)>>=fun v=>
        (F.f57 v p.ctor)>>=fun v38=>
        some v38
       else
        if p.ctor=0 then
         if p.op=1 then
          some true
         else
          if p.op=5 then
           some true
          else
           some false
        else
         some false
      else
       some false
     else
      some false
   else
    some false
def F.f59 (op:Int):Option (Int):=
 if op=5 then
  some 2
 else
  if op=6 then
   some 1
  else
   if op=4 then
    some (-1)
   else
    some 0
def F.f60 (t:Ty)(p:Pattern)(out:List Ty)(i:Nat):Option (List Ty):=
 (F.f59 p.op)>>=fun v4=>
 if(i:Int)<v4 then
  if out.length+1≤67108864 then
   if i+1≤9223372036854775807 then
    F.f60 t p (out++[t]) (i+1)
   else none
  else none
 else
  some out
 partial_fixpoint
def F.f61 (w:List Vl.Data)(t:Ty)(p:Pattern):Option (List Ty):=
 if p.op=4 then
  (F.f44 w t p.ctor)>>=fun v=>
  some v
 else
  (F.f60 t p [] 0)>>=fun o'=>
  some o'
mutual
def F.f62 (w:List Vl.Data)(t:Ty)(p:Pattern)(depth:Int):Option (Bool):=
 if depth<1 then
  some false
 else
  (F.f58 w t p)>>=fun v=>
  if v=true then
   (F.f61 w t p)>>=fun v6=>
   if p.kids.length=v6.length then
    (F.f63 w p depth v6 0)>>=fun o'=>
    match o' with
    | .ret r0=>some r0
    | .go sx=>
     some true
   else
    some false
  else
   some false
 partial_fixpoint
def F.f63 (w:List Vl.Data)(p:Pattern)(depth:Int)(v6:List Ty)(i:Nat):Option (Lo Bool Unit):=
 if i<v6.length then
  (v6[i]?)>>=fun x=>
  (p.kids[i]?)>>=fun x15=>
  (F.f62 w x x15 (IntKind.i64.wrap (depth-1)))>>=fun v17=>
  if v17=true then
   F.f63 w p depth v6 (i+1)
  else
   some (.ret false)
 else
  some (.go ())
 partial_fixpoint
end
mutual
def F.f64 (p:Pattern)(most:Int):Option (Int):=
 (F.f65 p most 1 0)>>=fun o'=>
 some o'
 partial_fixpoint
def F.f65 (p:Pattern)(most:Int)(n:Int)(i:Nat):Option (Int):=
 if i<p.kids.length then
  if n≤most then
   (p.kids[i]?)>>=fun x=>
   (F.f64 x (IntKind.i64.wrap (most-n)))>>=fun v=>
   F.f65 p most (IntKind.i64.wrap (n+v)) (i+1)
  else
   some n
 else
  some n
 partial_fixpoint
end
mutual
def F.f66 (out:List VarType)(w:List Vl.Data)(t:Ty)(p:Pattern):Option (List VarType):=
 if p.op=2 then
  if out.length+1≤67108864 then
   (F.f61 w t p)>>=fun v59=>
   (F.f69 w p v59 (out++[(⟨p.var,t⟩:VarType)]) 0)>>=fun o'86=>
   some o'86
  else none
 else
  if p.op=6 then
   if out.length+1≤67108864 then
    (F.f61 w t p)>>=fun v=>
    (F.f67 w p v (out++[(⟨p.var,t⟩:VarType)]) 0)>>=fun o'=>
    some o'
   else none
  else
   (F.f61 w t p)>>=fun v30=>
   (F.f68 w p v30 out 0)>>=fun o'57=>
   some o'57
 partial_fixpoint
def F.f67 (w:List Vl.Data)(p:Pattern)(v:List Ty)(out7:List VarType)(i:Nat):Option (List VarType):=
 if i<v.length then
  if i=0 then
   (v[i]?)>>=fun x22=>
   (p.kids[i]?)>>=fun x24=>
   (F.f66 out7 w x22 x24)>>=fun v26=>
   F.f67 w p v v26 (i+1)
  else
   if p.op=5 then
    some out7
   else
    (v[i]?)>>=fun x=>
    (p.kids[i]?)>>=fun x17=>
    (F.f66 out7 w x x17)>>=fun v19=>
    F.f67 w p v v19 (i+1)
 else
  some out7
 partial_fixpoint
def F.f68 (w:List Vl.Data)(p:Pattern)(v30:List Ty)(out32:List VarType)(i33:Nat):Option (List VarType):=
 if i33<v30.length then
  if i33=0 then
   (v30[i33]?)>>=fun x49=>
   (p.kids[i33]?)>>=fun x51=>
   (F.f66 out32 w x49 x51)>>=fun v53=>
   F.f68 w p v30 v53 (i33+1)
  else
   if p.op=5 then
    some out32
   else
    (v30[i33]?)>>=fun x42=>
    (p.kids[i33]?)>>=fun x44=>
    (F.f66 out32 w x42 x44)>>=fun v46=>
    F.f68 w p v30 v46 (i33+1)
 else
  some out32
 partial_fixpoint
def F.f69 (w:List Vl.Data)(p:Pattern)(v59:List Ty)(out61:List VarType)(i62:Nat):Option (List VarType):=
 if i62<v59.length then
  if i62=0 then
   (v59[i62]?)>>=fun x78=>
   (p.kids[i62]?)>>=fun x80=>
   (F.f66 out61 w x78 x80)>>=fun v82=>
   F.f69 w p v59 v82 (i62+1)
  else
   if p.op=5 then
    some out61
   else
    (v59[i62]?)>>=fun x71=>
    (p.kids[i62]?)>>=fun x73=>
    (F.f66 out61 w x71 x73)>>=fun v75=>
    F.f69 w p v59 v75 (i62+1)
 else
  some out61
 partial_fixpoint
end
def F.f70 (list:List VarType)(n:Int)(i:Nat):Option (Lo Int Unit):=
 if i<list.length then
  (list[i]?)>>=fun x=>
  if x.var=n then
   some (.ret (i:Int))
  else
   F.f70 list n (i+1)
 else
  some (.go ())
 partial_fixpoint
def F.f71 (list:List VarType)(n:Int):Option (Int):=
 (F.f70 list n 0)>>=fun o'=>
 match o' with
 | .ret r0=>some r0
 | .go sx=>
  some (-1)
def F.f72 (a:List VarType)(b:List VarType)(i:Nat):Option (Lo Bool Unit):=
 if i<a.length then
  (a[i]?)>>=fun x=>
  (F.f71 b x.var)>>=fun v=>
  if v<0 then
   some (.ret false)
  else
   (at? b v)>>=fun x8=>
   if dec (eq2 (x8.type.data,x8.type.index) (x.type.data,x.type.index))=true then
    F.f72 a b (i+1)
   else
    some (.ret false)
 else
  some (.go ())
 partial_fixpoint
def F.f73 (a:List VarType)(b:List VarType):Option (Bool):=
 (F.f72 a b 0)>>=fun o'=>
 match o' with
 | .ret r0=>some r0
 | .go sx=>
  some (decide (a.length=b.length))
def F.f74 (v26:List VarType)(i28:Nat):Option (Lo Bool Unit):=
 if i28<v26.length then
  (v26[i28]?)>>=fun x32=>
  (F.f71 v26 x32.var)>>=fun v34=>
  if v34=(i28:Int)then
   F.f74 v26 (i28+1)
  else
   some (.ret false)
 else
  some (.go ())
 partial_fixpoint
mutual
def F.f75 (w:List Vl.Data)(t:Ty)(p:Pattern):Option (Bool):=
 (F.f61 w t p)>>=fun v=>
 (F.f76 w t p v 0)>>=fun o'=>
 match o' with
 | .ret r042=>some r042
 | .go sx=>
  if p.op=5 then
   (p.kids[0]?)>>=fun x16=>
   (F.f66 [] w t x16)>>=fun v18=>
   (p.kids[1]?)>>=fun x20=>
   (F.f66 [] w t x20)>>=fun v22=>
   (F.f73 v18 v22)>>=fun v24=>
   some v24
  else
   (F.f66 [] w t p)>>=fun v26=>
   (F.f74 v26 0)>>=fun o'40=>
   match o'40 with
   | .ret r0=>some r0
   | .go sx41=>
    some true
 partial_fixpoint
def F.f76 (w:List Vl.Data)(t:Ty)(p:Pattern)(v:List Ty)(i:Nat):Option (Lo Bool Unit):=
 if i<v.length then
  (v[i]?)>>=fun x=>
  (p.kids[i]?)>>=fun x6=>
  (F.f75 w x x6)>>=fun v8=>
  if v8=true then
   F.f76 w t p v (i+1)
  else
   some (.ret false)
 else
  some (.go ())
 partial_fixpoint
end
def F.f77 (w:List Vl.Data)(t:Ty)(p:Pattern):Option (Bool):=
 (F.f62 w t p 10)>>=fun v=>
 if v=true then
  (F.f64 p 60)>>=fun v4=>
  if v4≤60 then
   (F.f75 w t p)>>=fun v8=>
   some v8
  else
   some false
 else
  some false
def F.f78 (g:Guard)(vars:List VarType):Option (Bool):=
 if g.op=0 then
  if g.var=0 then
   some (decide (g.n=0))
  else
   some false
 else
  if g.op=1 then
   if g.n<0 then
    some false
   else
    if 9<g.n then
     some false
    else
     (F.f71 vars g.var)>>=fun v21=>
     if 0≤v21 then
      (at? vars v21)>>=fun x25=>
      some (decide (x25.type.data=(-1)))
     else
      some false
  else
   if g.op=2 then
    if g.n<0 then
     some false
    else
     if 9<g.n then
      some false
     else
      (F.f71 vars g.var)>>=fun v=>
      if 0≤v then
       (at? vars v)>>=fun x=>
       some (decide (x.type.data=(-1)))
      else
       some false
   else
    some false
def F.f79 (w:List Vl.Data)(t:Ty)(c':Clause):Option (Bool):=
 (F.f77 w t c'.pat)>>=fun v=>
 if v=true then
  (F.f66 [] w t c'.pat)>>=fun v4=>
  (F.f78 c'.guard v4)>>=fun v6=>
  some v6
 else
  some false
def F.f80 (w:List Vl.Data)(t:Ty)(list:List Clause)(i:Nat):Option (Lo Bool Unit):=
 if i<list.length then
  (list[i]?)>>=fun x=>
  (F.f79 w t x)>>=fun v11=>
  if v11=true then
   F.f80 w t list (i+1)
  else
   some (.ret false)
 else
  some (.go ())
 partial_fixpoint
def F.f81 (w:List Vl.Data)(t:Ty)(list:List Clause):Option (Bool):=
 (F.f39 w t)>>=fun v=>
 if v=true then
  if 8<list.length then
   some false
  else
   (F.f80 w t list 0)>>=fun o'=>
   match o' with
   | .ret r0=>some r0
   | .go sx=>
    some true
 else
  some false
def F.f82 (n:Int):Option (ByteArray):=
 some (strB [IntKind.u8.wrap (97+IntKind.u8.wrap n)])
mutual
def F.f83 (w:List Vl.Data)(t:Ty)(p:Pattern):Option (ByteArray):=
 if p.op=1 then
  some (⟨#[95]⟩:ByteArray)
 else
  if p.op=2 then
   (F.f82 p.var)>>=fun v=>
   some v
  else
   if p.op=3 then
    if p.n=p.m then
     (F.f25 p.n)>>=fun v10=>
     some v10
    else
     (F.f25 p.n)>>=fun v12=>
     if v12.size+(⟨#[45]⟩:ByteArray).size≤9223372036854775807 then
      (F.f25 p.m)>>=fun v15=>
      if(v12++(⟨#[45]⟩:ByteArray)).size+v15.size≤9223372036854775807 then
       some ((v12++(⟨#[45]⟩:ByteArray))++v15)
      else none
     else none
   else
    if p.op=5 then
     (p.kids[0]?)>>=fun x=>
     (F.f83 w t x)>>=fun v21=>
     if(⟨#[40]⟩:ByteArray).size+v21.size≤9223372036854775807 then
      if((⟨#[40]⟩:ByteArray)++v21).size+(⟨#[124]⟩:ByteArray).size≤9223372036854775807 then
       (p.kids[1]?)>>=fun x25=>
       (F.f83 w t x25)>>=fun v27=>
       if(((⟨#[40]⟩:ByteArray)++v21)++(⟨#[124]⟩:ByteArray)).size+v27.size≤9223372036854775807 then
        if((((⟨#[40]⟩:ByteArray)++v21)++(⟨#[124]⟩:ByteArray))++v27).size+(⟨#[41]⟩:ByteArray).size≤9223372036854775807 then
         some (((((⟨#[40]⟩:ByteArray)++v21)++(⟨#[124]⟩:ByteArray))++v27)++(⟨#[41]⟩:ByteArray))
        else none
       else none
      else none
     else none
    else
     if p.op=6 then
      (F.f82 p.var)>>=fun v33=>
      if v33.size+(⟨#[64]⟩:ByteArray).size≤9223372036854775807 then
       (p.kids[0]?)>>=fun x36=>
       (F.f83 w t x36)>>=fun v38=>
       if(v33++(⟨#[64]⟩:ByteArray)).size+v38.size≤9223372036854775807 then
        some ((v33++(⟨#[64]⟩:ByteArray))++v38)
       else none
      else none
     else
      (at? w t.data)>>=fun x41=>
      (at? x41.ctors p.ctor)>>=fun x43=>
      (F.f44 w t p.ctor)>>=fun v45=>
      (F.f84 w p v45 x43.name 0)>>=fun o'=>
      if 0<v45.length then
       if o'.size+(⟨#[41]⟩:ByteArray).size≤9223372036854775807 then
        some (o'++(⟨#[41]⟩:ByteArray))
       else none
      else
       some o'
 partial_fixpoint
def F.f84 (w:List Vl.Data)(p:Pattern)(v45:List Ty)(out:ByteArray)(i:Nat):Option (ByteArray):=
 if i<v45.length then
  if i=0 then
   if out.size+(⟨#[40]⟩:ByteArray).size≤9223372036854775807 then
    (v45[i]?)>>=fun x54=>
    (p.kids[i]?)>>=fun x56=>
    (F.f83 w x54 x56)>>=fun v58=>
    if(out++(⟨#[40]⟩:ByteArray)).size+v58.size≤9223372036854775807 then
     F.f84 w p v45 ((out++(⟨#[40]⟩:ByteArray))++v58) (i+1)
    else none
   else none
  else
   if out.size+(⟨#[44]⟩:ByteArray).size≤9223372036854775807 then
    (v45[i]?)>>=fun x63=>
    (p.kids[i]?)>>=fun x65=>
    (F.f83 w x63 x65)>>=fun v67=>
    if(out++(⟨#[44]⟩:ByteArray)).size+v67.size≤9223372036854775807 then
     F.f84 w p v45 ((out++(⟨#[44]⟩:ByteArray))++v67) (i+1)
    else none
   else none
 else
  some out
 partial_fixpoint
end
def F.f85 (w:List Vl.Data)(t:Ty)(c':Clause):Option (ByteArray):=
 (F.f83 w t c'.pat)>>=fun v=>
 if c'.guard.op=1 then
  if v.size+(⟨#[32]⟩:ByteArray).size≤9223372036854775807 then
   (F.f82 c'.guard.var)>>=fun v5=>
   if(v++(⟨#[32]⟩:ByteArray)).size+v5.size≤9223372036854775807 then
    if((v++(⟨#[32]⟩:ByteArray))++v5).size+(⟨#[60]⟩:ByteArray).size≤9223372036854775807 then
     (F.f25 c'.guard.n)>>=fun v9=>
     if(((v++(⟨#[32]⟩:ByteArray))++v5)++(⟨#[60]⟩:ByteArray)).size+v9.size≤9223372036854775807 then
      some ((((v++(⟨#[32]⟩:ByteArray))++v5)++(⟨#[60]⟩:ByteArray))++v9)
     else none
    else none
   else none
  else none
 else
  if c'.guard.op=2 then
   if v.size+(⟨#[32]⟩:ByteArray).size≤9223372036854775807 then
    (F.f82 c'.guard.var)>>=fun v15=>
    if(v++(⟨#[32]⟩:ByteArray)).size+v15.size≤9223372036854775807 then
     if((v++(⟨#[32]⟩:ByteArray))++v15).size+(⟨#[61]⟩:ByteArray).size≤9223372036854775807 then
      (F.f25 c'.guard.n)>>=fun v19=>
      if(((v++(⟨#[32]⟩:ByteArray))++v15)++(⟨#[61]⟩:ByteArray)).size+v19.size≤9223372036854775807 then
       some ((((v++(⟨#[32]⟩:ByteArray))++v15)++(⟨#[61]⟩:ByteArray))++v19)
      else none
     else none
    else none
   else none
  else
   some v
def F.f86 (w:List Vl.Data)(t:Ty)(list:List Clause)(out:ByteArray)(i:Nat):Option (ByteArray):=
 if i<list.length then
  if 0<i then
   if out.size+(⟨#[47]⟩:ByteArray).size≤9223372036854775807 then
    (list[i]?)>>=fun x=>
    (F.f85 w t x)>>=fun v=>
    if(out++(⟨#[47]⟩:ByteArray)).size+v.size≤9223372036854775807 then
     F.f86 w t list ((out++(⟨#[47]⟩:ByteArray))++v) (i+1)
    else none
   else none
  else
   (list[i]?)>>=fun x12=>
   (F.f85 w t x12)>>=fun v14=>
   if out.size+v14.size≤9223372036854775807 then
    F.f86 w t list (out++v14) (i+1)
   else none
 else
  some out
 partial_fixpoint
def F.f87 (w:List Vl.Data)(t:Ty)(list:List Clause):Option (ByteArray):=
 (F.f86 w t list ByteArray.empty 0)>>=fun o'=>
 some o'
def F.f88 (w:List Vl.Data)(t:Ty)(text:ByteArray)(v4:List ByteArray)(out:List Clause)(i:Nat):Option (Lo ((List Clause)×Bool) (List Clause)):=
 if i<v4.length then
  if i≤8 then
   if text.toList=ByteArray.empty.toList then
    some (.go out)
   else
    (v4[i]?)>>=fun x=>
    (F.f2 x 32)>>=fun v15=>
    (v15[0]?)>>=fun x17=>
    (F.f53 w t x17 0 10)>>=fun v19=>
    if v19.2=(x17.size:Int)then
     if x17.toList=ByteArray.empty.toList then
      some (.ret ([],false))
     else
      if 2<v15.length then
       some (.ret ([],false))
      else
       if v15.length=2 then
        (v15[1]?)>>=fun x31=>
        (F.f55 x31)>>=fun v33=>
        if out.length+1≤67108864 then
         F.f88 w t text v4 (out++[(⟨v19.1,v33⟩:Clause)]) (i+1)
        else none
       else
        if out.length+1≤67108864 then
         F.f88 w t text v4 (out++[(⟨v19.1,(⟨0,0,0⟩:Guard)⟩:Clause)]) (i+1)
        else none
    else
     some (.ret ([],false))
  else
   some (.go out)
 else
  some (.go out)
 partial_fixpoint
def F.f89 (w:List Vl.Data)(t:Ty)(text:ByteArray):Option ((List Clause)×Bool):=
 (F.f39 w t)>>=fun v=>
 if v=true then
  (F.f2 text 47)>>=fun v4=>
  (F.f88 w t text v4 [] 0)>>=fun o'=>
  match o' with
  | .ret r0=>some r0
  | .go sx=>
   (F.f81 w t sx)>>=fun v40=>
   if v40=true then
    (F.f87 w t sx)>>=fun v44=>
    if v44.toList=text.toList then
     some (sx,true)
    else
     some ([],false)
   else
    some ([],false)
 else
  some ([],false)
def F.f90  :Option (List ByteArray):=
 some [(⟨#[76,61,78,105,108,124,67,111,110,115,40,73,44,76,41]⟩:ByteArray),(⟨#[66,61,84,114,117,124,70,108,115,59,84,61,76,101,97,102,124,78,111,100,101,40,84,44,66,44,84,41]⟩:ByteArray),(⟨#[69,61,78,117,109,40,73,41,58,49,124,66,111,108,40,66,41,58,50,124,65,100,100,40,69,49,44,69,49,41,58,49,124,73,102,40,69,50,44,69,42,44,69,42,41,59,66,61,84,114,117,124,70,108,115]⟩:ByteArray),(⟨#[79,61,78,111,110,124,83,111,109,40,73,41,59,80,61,80,97,105,114,40,79,44,79,41]⟩:ByteArray),(⟨#[86,61,69,110,100,58,49,124,83,111,109,101,40,73,44,86,49,41,58,50,124,84,119,111,40,86,42,41]⟩:ByteArray),(⟨#[78,61,78,101,118,101,114,40,78,41,59,66,61,84,114,117,124,70,108,115,124,77,97,121,40,78,41]⟩:ByteArray),(⟨#[83,61,82,101,100,124,71,114,101,101,110,124,66,108,117,101,124,77,105,120,40,83,44,83,41]⟩:ByteArray),ByteArray.empty]
def F.f91 (r':T_spec_l17Rd):Option ((List Vl.Data)×T_spec_l17Rd):=
 (F.f90)>>=fun v=>
 (F.f0 r' (IntKind.i64.wrap ((v.length:Int) -1)))>>=fun v2=>
 (at? v v2.1)>>=fun x=>
 (F.f37 x)>>=fun v5=>
 some (v5.1,v2.2)
def F.f92 (t:Ty):Option (Int):=
 some (IntKind.i64.wrap (IntKind.i64.wrap (t.data*4)+t.index))
def F.f93 (table:List Int)(t:Ty):Option (Int):=
 if t.data=(-1)then
  some 1
 else
  (F.f92 t)>>=fun v=>
  (at? table v)>>=fun x=>
  some x
def F.f94 (table:List Int)(v:List Ty)(most:Int)(i:Nat):Option (Lo Int Int):=
 if i<v.length then
  (v[i]?)>>=fun x=>
  (F.f93 table x)>>=fun v6=>
  if v6=0 then
   some (.ret 0)
  else
   if most<v6 then
    F.f94 table v v6 (i+1)
   else
    F.f94 table v most (i+1)
 else
  some (.go most)
 partial_fixpoint
def F.f95 (w:List Vl.Data)(table:List Int)(t:Ty)(ctor:Int):Option (Int):=
 (F.f44 w t ctor)>>=fun v=>
 (F.f94 table v 0 0)>>=fun o'=>
 match o' with
 | .ret r0=>some r0
 | .go sx=>
  some (IntKind.i64.wrap (sx+1))
def F.f96 (w:List Vl.Data)(n:Nat)(s:Nat)(v:List Int)(table10:List Int)(i:Nat):Option (List Int):=
 if i<v.length then
  (v[i]?)>>=fun x=>
  (F.f95 w table10 (⟨IntKind.i64.wrap ((s:Int).tdiv 4),(s:Int).tmod 4⟩:Ty) x)>>=fun v15=>
  if 0<v15 then
   (table10[s]?)>>=fun x19=>
   if x19=0 then
    F.f96 w n s v (table10.set s v15) (i+1)
   else
    if v15<x19 then
     F.f96 w n s v (table10.set s v15) (i+1)
    else
     F.f96 w n s v table10 (i+1)
  else
   F.f96 w n s v table10 (i+1)
 else
  some table10
 partial_fixpoint
def F.f97 (w:List Vl.Data)(n:Nat)(table5:List Int)(s:Nat):Option (List Int):=
 if s<table5.length then
  (F.f50 w (⟨IntKind.i64.wrap ((s:Int).tdiv 4),(s:Int).tmod 4⟩:Ty))>>=fun v=>
  (F.f96 w n s v table5 0)>>=fun o'=>
  if s+1≤9223372036854775807 then
   F.f97 w n o' (s+1)
  else none
 else
  some table5
 partial_fixpoint
def F.f98 (w:List Vl.Data)(table:List Int)(n:Nat):Option (List Int):=
 if n≤table.length then
  (F.f97 w n table 0)>>=fun o'33=>
  if n+1≤9223372036854775807 then
   F.f98 w o'33 (n+1)
  else none
 else
  some table
 partial_fixpoint
def F.f99 (w:List Vl.Data):Option (List Int):=
 if 0≤IntKind.i64.wrap ((w.length:Int)*4)∧(IntKind.i64.wrap ((w.length:Int)*4)).toNat≤67108864 then
  (F.f98 w (List.replicate ((IntKind.i64.wrap ((w.length:Int)*4)).toNat) 0) 0)>>=fun o'37=>
  some o'37
 else none
def F.f100 (r':T_spec_l17Rd)(list:List Int):Option (Int×T_spec_l17Rd):=
 (F.f0 r' (list.length:Int))>>=fun v=>
 (at? list v.1)>>=fun x=>
 some (x,v.2)
def F.f101 (r':T_spec_l17Rd)(w:List Vl.Data)(table:List Int)(t:Ty)(depth:Int)(v4:List Int)(fine:List Int)(i:Nat):Option (List Int):=
 if i<v4.length then
  (v4[i]?)>>=fun x=>
  (F.f95 w table t x)>>=fun v10=>
  if 0<v10 then
   if v10≤depth then
    if fine.length+1≤67108864 then
     F.f101 r' w table t depth v4 (fine++[x]) (i+1)
    else none
   else
    (F.f93 table t)>>=fun v16=>
    if v10=v16 then
     if fine.length+1≤67108864 then
      F.f101 r' w table t depth v4 (fine++[x]) (i+1)
     else none
    else
     F.f101 r' w table t depth v4 fine (i+1)
  else
   F.f101 r' w table t depth v4 fine (i+1)
 else
  some fine
 partial_fixpoint
mutual
def F.f102 (r':T_spec_l17Rd)(w:List Vl.Data)(table:List Int)(t:Ty)(depth:Int):Option (Vl.Value×T_spec_l17Rd):=
 if t.data=(-1)then
  (F.f0 r' 10)>>=fun v=>
  some ((⟨(-1),v.1,[]⟩:Vl.Value),v.2)
 else
  (F.f50 w t)>>=fun v4=>
  (F.f101 r' w table t depth v4 [] 0)>>=fun o'=>
  (F.f0 r' (o'.length:Int))>>=fun v27=>
  (at? o' v27.1)>>=fun x29=>
  (F.f44 w t x29)>>=fun v31=>
  (F.f103 w table depth x29 v31 v27.2.f0 v27.2.f1 [] 0)>>=fun o'45=>
  some ((⟨x29,0,o'45.2.2⟩:Vl.Value),(⟨o'45.1,o'45.2.1⟩:T_spec_l17Rd))
 partial_fixpoint
def F.f103 (w:List Vl.Data)(table:List Int)(depth:Int)(x29:Int)(v31:List Ty)(z:List Int)(z33:Int)(out:List Vl.Value)(i34:Nat):Option ((List Int)×Int×(List Vl.Value)):=
 if i34<v31.length then
  (v31[i34]?)>>=fun x38=>
  (F.f102 (⟨z,z33⟩:T_spec_l17Rd) w table x38 (IntKind.i64.wrap (depth-1)))>>=fun v40=>
  if out.length+1≤67108864 then
   F.f103 w table depth x29 v31 v40.2.f0 v40.2.f1 (out++[v40.1]) (i34+1)
  else none
 else
  some (z,z33,out)
 partial_fixpoint
end
def F.f104 (r':T_spec_l17Rd):Option ((List Vl.Data)×Ty×Vl.Value×T_spec_l17Rd):=
 (F.f91 r')>>=fun v=>
 (F.f99 v.1)>>=fun v2=>
 (F.f0 v.2 (v.1.length:Int))>>=fun v4=>
 (F.f100 v4.2 [0,0,1,2])>>=fun v6=>
 (F.f93 v2 (⟨v4.1,v6.1⟩:Ty))>>=fun v8=>
 if v8=0 then
  (F.f100 v6.2 [3,2,4,1])>>=fun v12=>
  (F.f102 v12.2 v.1 v2 (⟨(-1),0⟩:Ty) v12.1)>>=fun v14=>
  some (v.1,(⟨(-1),0⟩:Ty),v14.1,v14.2)
 else
  (F.f100 v6.2 [3,2,4,1])>>=fun v16=>
  (F.f102 v16.2 v.1 v2 (⟨v4.1,v6.1⟩:Ty) v16.1)>>=fun v18=>
  some (v.1,(⟨v4.1,v6.1⟩:Ty),v18.1,v18.2)
mutual
def F.f105 (r':T_spec_l17Rd)(w:List Vl.Data)(t:Ty)(depth:Int):Option (Pattern×T_spec_l17Rd):=
 if depth<2 then
  some ((⟨1,0,0,0,0,[]⟩:Pattern),r')
 else
  (F.f0 r' 4)>>=fun v=>
  if v.1=0 then
   some ((⟨1,0,0,0,0,[]⟩:Pattern),v.2)
  else
   (F.f0 v.2 6)>>=fun v6=>
   if v6.1=0 then
    (F.f105 v6.2 w t (IntKind.i64.wrap (depth-1)))>>=fun v10=>
    (F.f105 v10.2 w t (IntKind.i64.wrap (depth-1)))>>=fun v12=>
    some ((⟨5,0,0,0,0,[v10.1,v12.1]⟩:Pattern),v12.2)
   else
    if t.data=(-1)then
     (F.f0 v6.2 10)>>=fun v16=>
     (F.f0 v16.2 (IntKind.i64.wrap (10-v16.1)))>>=fun v18=>
     (F.f0 v18.2 2)>>=fun v20=>
     some ((⟨3,0,v16.1,IntKind.i64.wrap (v16.1+IntKind.i64.wrap (v18.1*v20.1)),0,[]⟩:Pattern),v20.2)
    else
     (F.f50 w t)>>=fun v22=>
     if v22.length=0 then
      some ((⟨1,0,0,0,0,[]⟩:Pattern),v6.2)
     else
      (F.f0 v6.2 (v22.length:Int))>>=fun v27=>
      (at? v22 v27.1)>>=fun x=>
      (F.f44 w t x)>>=fun v30=>
      (F.f106 w depth x v30 v27.2.f0 v27.2.f1 [] 0)>>=fun o'=>
      some ((⟨4,x,0,0,0,o'.2.2⟩:Pattern),(⟨o'.1,o'.2.1⟩:T_spec_l17Rd))
 partial_fixpoint
def F.f106 (w:List Vl.Data)(depth:Int)(x:Int)(v30:List Ty)(z:List Int)(z32:Int)(out:List Pattern)(i:Nat):Option ((List Int)×Int×(List Pattern)):=
 if i<v30.length then
  (v30[i]?)>>=fun x36=>
  (F.f105 (⟨z,z32⟩:T_spec_l17Rd) w x36 (IntKind.i64.wrap (depth-1)))>>=fun v38=>
  if out.length+1≤67108864 then
   F.f106 w depth x v30 v38.2.f0 v38.2.f1 (out++[v38.1]) (i+1)
  else none
 else
  some (z,z32,out)
 partial_fixpoint
end
mutual
def F.f107 (r':T_spec_l17Rd)(p:Pattern)(n:Int):Option (Pattern×Int×T_spec_l17Rd):=
 if 5<n then
  some (p,n,r')
 else
  if p.op=5 then
   some (p,n,r')
  else
   if p.op=3 then
    some (p,n,r')
   else
    if p.op=1 then
     (F.f0 r' 2)>>=fun v=>
     if v.1=0 then
      some ((⟨2,0,0,0,n,[]⟩:Pattern),IntKind.i64.wrap (n+1),v.2)
     else
      (F.f108 p n v.2.f0 v.2.f1 [] 0 n)>>=fun o'=>
      if o'.2.2.2≤5 then
       (F.f0 (⟨o'.1,o'.2.1⟩:T_spec_l17Rd) 6)>>=fun v24=>
       if v24.1=0 then
        some ((⟨6,0,0,0,o'.2.2.2,[(⟨p.op,p.ctor,p.n,p.m,p.var,o'.2.2.1⟩:Pattern)]⟩:Pattern),IntKind.i64.wrap (o'.2.2.2+1),v24.2)
       else
        some ((⟨p.op,p.ctor,p.n,p.m,p.var,o'.2.2.1⟩:Pattern),o'.2.2.2,v24.2)
      else
       some ((⟨p.op,p.ctor,p.n,p.m,p.var,o'.2.2.1⟩:Pattern),o'.2.2.2,(⟨o'.1,o'.2.1⟩:T_spec_l17Rd))
    else
     (F.f109 p n r'.f0 r'.f1 [] 0 n)>>=fun o'43=>
     if o'43.2.2.2≤5 then
      (F.f0 (⟨o'43.1,o'43.2.1⟩:T_spec_l17Rd) 6)>>=fun v46=>
      if v46.1=0 then
       some ((⟨6,0,0,0,o'43.2.2.2,[(⟨p.op,p.ctor,p.n,p.m,p.var,o'43.2.2.1⟩:Pattern)]⟩:Pattern),IntKind.i64.wrap (o'43.2.2.2+1),v46.2)
      else
       some ((⟨p.op,p.ctor,p.n,p.m,p.var,o'43.2.2.1⟩:Pattern),o'43.2.2.2,v46.2)
     else
      some ((⟨p.op,p.ctor,p.n,p.m,p.var,o'43.2.2.1⟩:Pattern),o'43.2.2.2,(⟨o'43.1,o'43.2.1⟩:T_spec_l17Rd))
 partial_fixpoint
def F.f108 (p:Pattern)(n:Int)(z:List Int)(z12:Int)(out:List Pattern)(i:Nat)(next:Int):Option ((List Int)×Int×(List Pattern)×Int):=
 if i<p.kids.length then
  (p.kids[i]?)>>=fun x=>
  (F.f107 (⟨z,z12⟩:T_spec_l17Rd) x next)>>=fun v17=>
  if out.length+1≤67108864 then
   F.f108 p n v17.2.2.f0 v17.2.2.f1 (out++[v17.1]) (i+1) v17.2.1
  else none
 else
  some (z,z12,out,next)
 partial_fixpoint
def F.f109 (p:Pattern)(n:Int)(z28:List Int)(z29:Int)(out30:List Pattern)(i31:Nat)(next32:Int):Option ((List Int)×Int×(List Pattern)×Int):=
 if i31<p.kids.length then
  (p.kids[i31]?)>>=fun x36=>
  (F.f107 (⟨z28,z29⟩:T_spec_l17Rd) x36 next32)>>=fun v38=>
  if out30.length+1≤67108864 then
   F.f109 p n v38.2.2.f0 v38.2.2.f1 (out30++[v38.1]) (i31+1) v38.2.1
  else none
 else
  some (z28,z29,out30,next32)
 partial_fixpoint
end
def F.f110 (r':T_spec_l17Rd)(w:List Vl.Data)(t:Ty):Option (Pattern×T_spec_l17Rd):=
 (F.f100 r' [3,2,4,1])>>=fun v=>
 (F.f105 v.2 w t v.1)>>=fun v2=>
 (F.f107 v2.2 v2.1 0)>>=fun v4=>
 (F.f77 w t v4.1)>>=fun v6=>
 if v6=true then
  some (v4.1,v4.2.2)
 else
  some ((⟨1,0,0,0,0,[]⟩:Pattern),v4.2.2)
def F.f111 (v:Pattern×T_spec_l17Rd)(z:List Int)(z4:Int)(z5:Int)(z6:Int)(z7:Int)(vars:List VarType)(i:Nat):Option ((List Int)×Int×Int×Int×Int):=
 if i<vars.length then
  (vars[i]?)>>=fun x=>
  if x.type.data=(-1)then
   (F.f0 (⟨z,z4⟩:T_spec_l17Rd) 2)>>=fun v14=>
   if v14.1=0 then
    (F.f0 v14.2 2)>>=fun v18=>
    (F.f0 v18.2 10)>>=fun v20=>
    F.f111 v v20.2.f0 v20.2.f1 (IntKind.i64.wrap (1+v18.1)) x.var v20.1 vars (i+1)
   else
    F.f111 v v14.2.f0 v14.2.f1 z5 z6 z7 vars (i+1)
  else
   F.f111 v z z4 z5 z6 z7 vars (i+1)
 else
  some (z,z4,z5,z6,z7)
 partial_fixpoint
def F.f112 (r':T_spec_l17Rd)(w:List Vl.Data)(t:Ty):Option (Clause×T_spec_l17Rd):=
 (F.f110 r' w t)>>=fun v=>
 (F.f66 [] w t v.1)>>=fun v2=>
 (F.f111 v v.2.f0 v.2.f1 0 0 0 v2 0)>>=fun o'=>
 some ((⟨v.1,(⟨o'.2.2.1,o'.2.2.2.1,o'.2.2.2.2⟩:Guard)⟩:Clause),(⟨o'.1,o'.2.1⟩:T_spec_l17Rd))
def F.f113 (r':T_spec_l17Rd)(p:Pattern):Option (Pattern×T_spec_l17Rd):=
 if p.kids.length≤67108864 then
  (F.f0 r' 30)>>=fun v=>
  if v.1=0 then
   (F.f100 v.2 [0,7,1,2,5])>>=fun v5=>
   some ((⟨v5.1,p.ctor,p.n,p.m,p.var,p.kids⟩:Pattern),v5.2)
  else
   if v.1=1 then
    (F.f100 v.2 [6,(-1),1])>>=fun v9=>
    some ((⟨p.op,p.ctor,p.n,p.m,v9.1,p.kids⟩:Pattern),v9.2)
   else
    if v.1=2 then
     (F.f100 v.2 [9,(-1),1])>>=fun v13=>
     some ((⟨p.op,v13.1,p.n,p.m,p.var,p.kids⟩:Pattern),v13.2)
    else
     if v.1=3 then
      if p.kids.length+1≤67108864 then
       some ((⟨p.op,p.ctor,p.n,p.m,p.var,p.kids++[(⟨2,0,0,0,0,[]⟩:Pattern)]⟩:Pattern),v.2)
      else none
     else
      if v.1=4 then
       if 0<p.kids.length then
        (p.kids[0]?)>>=fun x=>
        some ((⟨p.op,p.ctor,p.n,p.m,p.var,p.kids.set 0 (⟨2,0,0,0,0,[]⟩:Pattern)⟩:Pattern),v.2)
       else
        some (p,v.2)
      else
       if v.1=5 then
        (F.f100 v.2 [10,(-1),5])>>=fun v26=>
        some ((⟨p.op,p.ctor,v26.1,p.m,p.var,p.kids⟩:Pattern),v26.2)
       else
        some (p,v.2)
 else none
def F.f114 (v:Int×T_spec_l17Rd)(out:List Clause):Option (List Clause):=
 if out.length≤8 then
  if out.length+1≤67108864 then
   F.f114 v (out++[(⟨(⟨1,0,0,0,0,[]⟩:Pattern),(⟨0,0,0⟩:Guard)⟩:Clause)])
  else none
 else
  some out
 partial_fixpoint
def F.f115 (r':T_spec_l17Rd)(list:List Clause):Option ((List Clause)×T_spec_l17Rd):=
 if list.length≤67108864 then
  (F.f0 r' 24)>>=fun v=>
  if v.1=0 then
   if 0<list.length then
    (F.f100 v.2 [1,2,3,(-1)])>>=fun v8=>
    (F.f100 v8.2 [0,5,9])>>=fun v10=>
    (F.f100 v10.2 [3,10,(-1)])>>=fun v12=>
    (list[0]?)>>=fun x=>
    some (list.set 0 (⟨x.pat,(⟨v8.1,v10.1,v12.1⟩:Guard)⟩:Clause),v12.2)
   else
    some (list,v.2)
  else
   if v.1=1 then
    if 0<list.length then
     (list[0]?)>>=fun x20=>
     (F.f113 v.2 x20.pat)>>=fun v22=>
     (F.f113 v22.2 v22.1)>>=fun v24=>
     some (list.set 0 (⟨v24.1,x20.guard⟩:Clause),v24.2)
    else
     some (list,v.2)
   else
    if v.1=2 then
     (F.f114 v list)>>=fun o'=>
     some (o',v.2)
    else
     some (list,v.2)
 else none
def F.f116 (code:List Int):Option ((List Vl.Data)×Ty×Clause):=
 if 2000<code.length then
  if 2000≤code.length then
   (F.f104 (⟨(code.drop 0).take (2000-0),0⟩:T_spec_l17Rd))>>=fun v=>
   (F.f112 v.2.2.2 v.1 v.2.1)>>=fun v6=>
   (F.f115 v6.2 [v6.1])>>=fun v8=>
   (v8.1[0]?)>>=fun x=>
   some (v.1,v.2.1,x)
  else none
 else
  (F.f104 (⟨code,0⟩:T_spec_l17Rd))>>=fun v11=>
  (F.f112 v11.2.2.2 v11.1 v11.2.1)>>=fun v13=>
  (F.f115 v13.2 [v13.1])>>=fun v15=>
  (v15.1[0]?)>>=fun x17=>
  some (v11.1,v11.2.1,x17)
def F.f117 (code:List Int):Option ((List Vl.Data)×Ty×Clause):=
 if 2000<code.length then
  if 2000≤code.length then
   (F.f0 (⟨(code.drop 0).take (2000-0),0⟩:T_spec_l17Rd) 2)>>=fun v=>
   if v.1=0 then
    (F.f37 (⟨#[76,61,78,105,108,124,67,111,110,115,40,73,44,76,41]⟩:ByteArray))>>=fun v8=>
    (F.f0 v.2 6)>>=fun v10=>
    (at? [(⟨#[67,111,110,115,40,97,44,95,41,32,97,60,51]⟩:ByteArray),(⟨#[67,111,110,115,40,97,64,50,45,53,44,98,41,32,97,61,52]⟩:ByteArray),(⟨#[67,111,110,115,40,97,64,40,49,124,55,41,44,95,41,32,97,60,53]⟩:ByteArray),(⟨#[67,111,110,115,40,97,44,67,111,110,115,40,98,44,95,41,41,32,98,60,48]⟩:ByteArray),(⟨#[40,67,111,110,115,40,97,44,78,105,108,41,124,67,111,110,115,40,95,44,67,111,110,115,40,97,44,95,41,41,41,32,97,61,50]⟩:ByteArray),(⟨#[67,111,110,115,40,97,64,51,44,95,41,32,97,61,52]⟩:ByteArray)] v10.1)>>=fun x=>
    (F.f89 v8.1 (⟨0,0⟩:Ty) x)>>=fun v13=>
    (v13.1[0]?)>>=fun x15=>
    some (v8.1,(⟨0,0⟩:Ty),x15)
   else
    (F.f116 code)>>=fun v17=>
    some (v17.1,v17.2.1,v17.2.2)
  else none
 else
  (F.f0 (⟨code,0⟩:T_spec_l17Rd) 2)>>=fun v19=>
  if v19.1=0 then
   (F.f37 (⟨#[76,61,78,105,108,124,67,111,110,115,40,73,44,76,41]⟩:ByteArray))>>=fun v23=>
   (F.f0 v19.2 6)>>=fun v25=>
   (at? [(⟨#[67,111,110,115,40,97,44,95,41,32,97,60,51]⟩:ByteArray),(⟨#[67,111,110,115,40,97,64,50,45,53,44,98,41,32,97,61,52]⟩:ByteArray),(⟨#[67,111,110,115,40,97,64,40,49,124,55,41,44,95,41,32,97,60,53]⟩:ByteArray),(⟨#[67,111,110,115,40,97,44,67,111,110,115,40,98,44,95,41,41,32,98,60,48]⟩:ByteArray),(⟨#[40,67,111,110,115,40,97,44,78,105,108,41,124,67,111,110,115,40,95,44,67,111,110,115,40,97,44,95,41,41,41,32,97,61,50]⟩:ByteArray),(⟨#[67,111,110,115,40,97,64,51,44,95,41,32,97,61,52]⟩:ByteArray)] v25.1)>>=fun x27=>
   (F.f89 v23.1 (⟨0,0⟩:Ty) x27)>>=fun v29=>
   (v29.1[0]?)>>=fun x31=>
   some (v23.1,(⟨0,0⟩:Ty),x31)
  else
   (F.f116 code)>>=fun v33=>
   some (v33.1,v33.2.1,v33.2.2)
def F.f118 (n:Int)(low:Int)(high:Int):Option (Bool):=
 if low≤n then
  some (decide (n≤high))
 else
  some false
def F.f119 (s:ByteArray)(i:Nat):Option (Lo Bool Unit):=
 if i<s.size then
  if byteAt s i<97 then
   some (.ret false)
  else
   if 122<byteAt s i then
    some (.ret false)
   else
    if i+1≤9223372036854775807 then
     F.f119 s (i+1)
    else none
 else
  some (.go ())
 partial_fixpoint
def F.f120 (s:ByteArray):Option (Bool):=
 (F.f118 (s.size:Int) 1 5)>>=fun v=>
 if v=true then
  if 0<s.size then
   if byteAt s 0<65 then
    some false
   else
    if 90<byteAt s 0 then
     some false
    else
     (F.f119 s 1)>>=fun o'=>
     match o' with
     | .ret r0=>some r0
     | .go sx=>
      some true
  else none
 else
  some false
def F.f121 (w:List Vl.Data)(t:Ty):Option (Bool):=
 if dec (eq2 (t.data,t.index) ((-1),0))=true then
  some true
 else
  (F.f118 t.data 0 (IntKind.i64.wrap ((w.length:Int) -1)))>>=fun v=>
  if v=true then
   (F.f118 t.index (-1) 3)>>=fun v6=>
   some v6
  else
   some false
def F.f122 (t:Ty)(a1:List Vl.Data):Option (Bool):=
 (F.f121 a1 t)>>=fun v=>
 some (!v)
def F.f123 (s:List Ty)(k0:List Vl.Data)(i:Nat):Option (Lo Int Unit):=
 if i<s.length then
  (s[i]?)>>=fun x=>
  (F.f122 x k0)>>=fun v=>
  if v=true then
   some (.ret (i:Int))
  else
   F.f123 s k0 (i+1)
 else
  some (.go ())
 partial_fixpoint
def F.f124 (s:List Ty)(k0:List Vl.Data):Option (Int):=
 (F.f123 s k0 0)>>=fun o'=>
 match o' with
 | .ret r0=>some r0
 | .go sx=>
  some (-1)
def F.f125 (s:List Ty)(k0:List Vl.Data):Option (Bool):=
 (F.f124 s k0)>>=fun v=>
 some (decide (0≤v))
def F.f126 (w:List Vl.Data)(c':Ctor):Option (Bool):=
 (F.f120 c'.name)>>=fun v=>
 if v=true then
  if c'.args.length≤3 then
   (F.f118 c'.index 0 3)>>=fun v7=>
   if v7=true then
    (F.f125 c'.args w)>>=fun v11=>
    some (!v11)
   else
    some false
  else
   some false
 else
  some false
def F.f127 (w:List Vl.Data)(met4:List ByteArray)(i:Nat)(x:Vl.Data)(met26:List ByteArray)(i27:Nat):Option (Lo Bool (List ByteArray)):=
 if i27<x.ctors.length then
  (x.ctors[i27]?)>>=fun x31=>
  (F.f126 w x31)>>=fun v33=>
  if v33=true then
   if dec (x31.name∈met26)=true then
    some (.ret false)
   else
    F.f127 w met4 i x (msIns met26 x31.name) (i27+1)
  else
   some (.ret false)
 else
  some (.go met26)
 partial_fixpoint
def F.f128 (w:List Vl.Data)(met:List ByteArray)(met4:List ByteArray)(i:Nat):Option (Lo Bool ((List ByteArray)×(List ByteArray))):=
 if i<w.length then
  (w[i]?)>>=fun x=>
  if x.name.size=1 then
   if 0<x.name.size then
    if byteAt x.name 0<65 then
     some (.ret false)
    else
     if 90<byteAt x.name 0 then
      some (.ret false)
     else
      if x.name.toList=(⟨#[73]⟩:ByteArray).toList then
       some (.ret false)
      else
       if dec (x.name∈met4)=true then
        some (.ret false)
       else
        (F.f118 (x.ctors.length:Int) 1 4)>>=fun v=>
        if v=true then
         (F.f127 w met4 i x met 0)>>=fun o'=>
         match o' with
         | .ret r0=>some (.ret r0)
         | .go sx=>
          if i+1≤9223372036854775807 then
           F.f128 w sx (msIns met4 x.name) (i+1)
          else none
        else
         some (.ret false)
   else none
  else
   some (.ret false)
 else
  some (.go (met,met4))
 partial_fixpoint
def F.f129 (w:List Vl.Data):Option (Bool):=
 if 4<w.length then
  some false
 else
  (F.f128 w [] [] 0)>>=fun o'44=>
  match o'44 with
  | .ret r046=>some r046
  | .go sx45=>
   some true
def F.f130 (w:List Vl.Data)(t:Ty):Option (Bool):=
 if dec (eq2 (t.data,t.index) ((-1),0))=true then
  some true
 else
  (F.f118 t.data 0 (IntKind.i64.wrap ((w.length:Int) -1)))>>=fun v=>
  if v=true then
   (F.f118 t.index 0 3)>>=fun v6=>
   some v6
  else
   some false
def F.f131 (w:List Vl.Data)(t:Ty):Option (Bool):=
 (F.f129 w)>>=fun v=>
 if v=true then
  (F.f130 w t)>>=fun v4=>
  some v4
 else
  some false
def F.f132 (p:Pattern)(ctor:Bool)(numbers:Bool)(variable':Bool)(kids:Int):Option (Bool):=
 if ctor=true then
  if numbers=true then
   if variable'=true then
    some (decide ((p.kids.length:Int)=kids))
   else
    if p.var=0 then
     some (decide ((p.kids.length:Int)=kids))
    else
     some false
  else
   if p.n=0 then
    if p.m=0 then
     if variable'=true then
      some (decide ((p.kids.length:Int)=kids))
     else
      if p.var=0 then
       some (decide ((p.kids.length:Int)=kids))
      else
       some false
    else
     some false
   else
    some false
 else
  if p.ctor=0 then
   if numbers=true then
    if variable'=true then
     some (decide ((p.kids.length:Int)=kids))
    else
     if p.var=0 then
      some (decide ((p.kids.length:Int)=kids))
     else
      some false
   else
    if p.n=0 then
     if p.m=0 then
      if variable'=true then
       some (decide ((p.kids.length:Int)=kids))
      else
       if p.var=0 then
        some (decide ((p.kids.length:Int)=kids))
       else
        some false
     else
      some false
    else
     some false
  else
   some false
def F.f133 (v:Int):Option (Bool):=
 (F.f118 v 0 5)>>=fun v1=>
 some v1
def F.f134 (t:Ty)(x:Vl.Data)(i:Nat)(out:List Int):Option (List Int):=
 if i<x.ctors.length then
  (x.ctors[i]?)>>=fun x7=>
  if t.index=0 then
   if out.length+1≤67108864 then
    F.f134 t x (i+1) (out++[(i:Int)])
   else none
  else
   if x7.index=0 then
    if out.length+1≤67108864 then
     F.f134 t x (i+1) (out++[(i:Int)])
    else none
   else
    if x7.index=t.index then
     if out.length+1≤67108864 then
      F.f134 t x (i+1) (out++[(i:Int)])
     else none
    else
     F.f134 t x (i+1) out
 else
  some out
 partial_fixpoint
def F.f135 (w:List Vl.Data)(t:Ty):Option (List Int):=
 if t.data=(-1)then
  some []
 else
  (at? w t.data)>>=fun x=>
  (F.f134 t x 0 [])>>=fun o'=>
  some o'
def F.f136 (s:List Int)(v:Int)(i:Nat):Option (Lo Int Unit):=
 if i<s.length then
  (s[i]?)>>=fun x=>
  if v=x then
   some (.ret (i:Int))
  else
   F.f136 s v (i+1)
 else
  some (.go ())
 partial_fixpoint
def F.f137 (s:List Int)(v:Int):Option (Int):=
 (F.f136 s v 0)>>=fun o'=>
 match o' with
 | .ret r0=>some r0
 | .go sx=>
  some (-1)
def F.f138 (s:List Int)(v:Int):Option (Bool):=
 (F.f137 s v)>>=fun v1=>
 some (decide (0≤v1))
def F.f139 (t:Ty)(x2:Ctor)(i:Nat)(out:List Ty):Option (List Ty):=
 if i<x2.args.length then
  (x2.args[i]?)>>=fun x9=>
  if x9.index=(-1)then
   if out.length+1≤67108864 then
    F.f139 t x2 (i+1) (out++[(⟨x9.data,t.index⟩:Ty)])
   else none
  else
   if out.length+1≤67108864 then
    F.f139 t x2 (i+1) (out++[x9])
   else none
 else
  some out
 partial_fixpoint
def F.f140 (x2:Ctor)(i18:Nat)(out19:List Ty):Option (List Ty):=
 if i18<x2.args.length then
  (x2.args[i18]?)>>=fun x23=>
  if x23.index=(-1)then
   if out19.length+1≤67108864 then
    F.f140 x2 (i18+1) (out19++[(⟨x23.data,x2.index⟩:Ty)])
   else none
  else
   if out19.length+1≤67108864 then
    F.f140 x2 (i18+1) (out19++[x23])
   else none
 else
  some out19
 partial_fixpoint
def F.f141 (w:List Vl.Data)(t:Ty)(ctor:Int):Option (List Ty):=
 (at? w t.data)>>=fun x=>
 (at? x.ctors ctor)>>=fun x2=>
 if x2.index=0 then
  (F.f139 t x2 0 [])>>=fun o'=>
  some o'
 else
  (F.f140 x2 0 [])>>=fun o'32=>
  some o'32
def F.f142 (w:List Vl.Data)(t:Ty)(p:Pattern):Option ((List Ty)×Bool):=
 if p.op=1 then
  (F.f132 p false false false 0)>>=fun v=>
  some ([],v)
 else
  if p.op=2 then
   (F.f132 p false false true 0)>>=fun v6=>
   if v6=true then
    (F.f133 p.var)>>=fun v10=>
    some ([],v10)
   else
    some ([],false)
  else
   if p.op=3 then
    if t.data=(-1)then
     (F.f132 p false true false 0)>>=fun v16=>
     if v16=true then
      if 0≤p.n then
       if p.n≤p.m then
        some ([],decide (p.m≤9))
       else
        some ([],false)
      else
       some ([],false)
     else
      some ([],false)
    else
     some ([],false)
   else
    if p.op=4 then
     (F.f135 w t)>>=fun v26=>
     (F.f138 v26 p.ctor)>>=fun v28=>
     if v28=true then
      (F.f141 w t p.ctor)>>=fun v32=>
      (F.f132 p true false false (v32.length:Int))>>=fun v34=>
      some (v32,v34)
     else
      some ([],false)
    else
     if p.op=5 then
      (F.f132 p false false false 2)>>=fun v38=>
      some ([t,t],v38)
     else
      if p.op=6 then
       (F.f132 p false false true 1)>>=fun v42=>
       if v42=true then
        (F.f133 p.var)>>=fun v46=>
        some ([t],v46)
       else
        some ([t],false)
      else
       some ([],false)
def F.f143 (s:List VarType)(v:VarType)(i:Nat):Option (Lo Int Unit):=
 if i<s.length then
  (s[i]?)>>=fun x=>
  if dec (eq3 (v.var,v.type.data,v.type.index) (x.var,x.type.data,x.type.index))=true then
   some (.ret (i:Int))
  else
   F.f143 s v (i+1)
 else
  some (.go ())
 partial_fixpoint
def F.f144 (s:List VarType)(v:VarType):Option (Int):=
 (F.f143 s v 0)>>=fun o'=>
 match o' with
 | .ret r0=>some r0
 | .go sx=>
  some (-1)
def F.f145 (s:List VarType)(v:VarType):Option (Bool):=
 (F.f144 s v)>>=fun v1=>
 some (decide (0≤v1))
def F.f146 (v:VarType)(a1:List VarType):Option (Bool):=
 (F.f145 a1 v)>>=fun v1=>
 some (!v1)
def F.f147 (s:List VarType)(k0:List VarType)(i:Nat):Option (Lo Int Unit):=
 if i<s.length then
  (s[i]?)>>=fun x=>
  (F.f146 x k0)>>=fun v=>
  if v=true then
   some (.ret (i:Int))
  else
   F.f147 s k0 (i+1)
 else
  some (.go ())
 partial_fixpoint
def F.f148 (s:List VarType)(k0:List VarType):Option (Int):=
 (F.f147 s k0 0)>>=fun o'=>
 match o' with
 | .ret r0=>some r0
 | .go sx=>
  some (-1)
def F.f149 (s:List VarType)(k0:List VarType):Option (Bool):=
 (F.f148 s k0)>>=fun v=>
 some (decide (0≤v))
def F.f150 (a:List VarType)(b:List VarType):Option (Bool):=
 if a.length=b.length then
  (F.f149 a b)>>=fun v=>
  some (!v)
 else
  some false
def F.f151 (sx:Int×(List VarType))(set':Nat→Bool)(i37:Nat):Option (Lo ((List VarType)×Bool×Int) Unit):=
 if i37<sx.2.length then
  (sx.2[i37]?)>>=fun x41=>
  if 0≤x41.var∧x41.var.toNat<6 then
   if set' x41.var.toNat=true then
    some (.ret ([],false,sx.1))
   else
    F.f151 sx (updF set' x41.var.toNat true) (i37+1)
  else none
 else
  some (.go ())
 partial_fixpoint
def F.f152 (sx81:Int×(List VarType))(set'82:Nat→Bool)(i83:Nat):Option (Lo ((List VarType)×Bool×Int) Unit):=
 if i83<sx81.2.length then
  (sx81.2[i83]?)>>=fun x87=>
  if 0≤x87.var∧x87.var.toNat<6 then
   if set'82 x87.var.toNat=true then
    some (.ret ([],false,sx81.1))
   else
    F.f152 sx81 (updF set'82 x87.var.toNat true) (i83+1)
  else none
 else
  some (.go ())
 partial_fixpoint
def F.f153 (sx128:Int×(List VarType))(set'129:Nat→Bool)(i130:Nat):Option (Lo ((List VarType)×Bool×Int) Unit):=
 if i130<sx128.2.length then
  (sx128.2[i130]?)>>=fun x134=>
  if 0≤x134.var∧x134.var.toNat<6 then
   if set'129 x134.var.toNat=true then
    some (.ret ([],false,sx128.1))
   else
    F.f153 sx128 (updF set'129 x134.var.toNat true) (i130+1)
  else none
 else
  some (.go ())
 partial_fixpoint
mutual
def F.f154 (w:List Vl.Data)(t:Ty)(p:Pattern)(deep:Int)(count:Int):Option ((List VarType)×Bool×Int):=
 if 60<IntKind.i64.wrap (count+1)then
  some ([],false,IntKind.i64.wrap (count+1))
 else
  if 10<deep then
   some ([],false,IntKind.i64.wrap (count+1))
  else
   (F.f142 w t p)>>=fun v=>
   if v.2=true then
    if p.op=2 then
     (F.f157 w p deep v (IntKind.i64.wrap (count+1)) [(⟨p.var,t⟩:VarType)] 0)>>=fun o'127=>
     match o'127 with
     | .ret r0144=>some r0144
     | .go sx128=>
      (F.f153 sx128 (fun _=>false) 0)>>=fun o'141=>
      match o'141 with
      | .ret r0143=>some r0143
      | .go sx142=>
       some (sx128.2,true,sx128.1)
    else
     if p.op=6 then
      (F.f155 w p deep v (IntKind.i64.wrap (count+1)) [(⟨p.var,t⟩:VarType)] 0)>>=fun o'=>
      match o' with
      | .ret r050=>some r050
      | .go sx=>
       (F.f151 sx (fun _=>false) 0)>>=fun o'48=>
       match o'48 with
       | .ret r0=>some r0
       | .go sx49=>
        some (sx.2,true,sx.1)
     else
      (F.f156 w p deep v (IntKind.i64.wrap (count+1)) [] 0)>>=fun o'80=>
      match o'80 with
      | .ret r097=>some r097
      | .go sx81=>
       (F.f152 sx81 (fun _=>false) 0)>>=fun o'94=>
       match o'94 with
       | .ret r096=>some r096
       | .go sx95=>
        some (sx81.2,true,sx81.1)
   else
    some ([],false,IntKind.i64.wrap (count+1))
 partial_fixpoint
def F.f155 (w:List Vl.Data)(p:Pattern)(deep:Int)(v:(List Ty)×Bool)(z:Int)(vars:List VarType)(i:Nat):Option (Lo ((List VarType)×Bool×Int) (Int×(List VarType))):=
 if i<p.kids.length then
  (p.kids[i]?)>>=fun x=>
  (v.1[i]?)>>=fun x16=>
  (F.f154 w x16 x (IntKind.i64.wrap (deep+1)) z)>>=fun v18=>
  if v18.2.1=true then
   if p.op=5 then
    if i=1 then
     (F.f150 vars v18.1)>>=fun v27=>
     if v27=true then
      F.f155 w p deep v v18.2.2 vars (i+1)
     else
      some (.ret ([],false,v18.2.2))
    else
     if vars.length+v18.1.length≤67108864 then
      F.f155 w p deep v v18.2.2 (vars++v18.1) (i+1)
     else none
   else
    if vars.length+v18.1.length≤67108864 then
     F.f155 w p deep v v18.2.2 (vars++v18.1) (i+1)
    else none
  else
   some (.ret ([],false,v18.2.2))
 else
  some (.go (z,vars))
 partial_fixpoint
def F.f156 (w:List Vl.Data)(p:Pattern)(deep:Int)(v:(List Ty)×Bool)(z51:Int)(vars52:List VarType)(i53:Nat):Option (Lo ((List VarType)×Bool×Int) (Int×(List VarType))):=
 if i53<p.kids.length then
  (p.kids[i53]?)>>=fun x57=>
  (v.1[i53]?)>>=fun x59=>
  (F.f154 w x59 x57 (IntKind.i64.wrap (deep+1)) z51)>>=fun v61=>
  if v61.2.1=true then
   if p.op=5 then
    if i53=1 then
     (F.f150 vars52 v61.1)>>=fun v70=>
     if v70=true then
      F.f156 w p deep v v61.2.2 vars52 (i53+1)
     else
      some (.ret ([],false,v61.2.2))
    else
     if vars52.length+v61.1.length≤67108864 then
      F.f156 w p deep v v61.2.2 (vars52++v61.1) (i53+1)
     else none
   else
    if vars52.length+v61.1.length≤67108864 then
     F.f156 w p deep v v61.2.2 (vars52++v61.1) (i53+1)
    else none
  else
   some (.ret ([],false,v61.2.2))
 else
  some (.go (z51,vars52))
 partial_fixpoint
def F.f157 (w:List Vl.Data)(p:Pattern)(deep:Int)(v:(List Ty)×Bool)(z98:Int)(vars99:List VarType)(i100:Nat):Option (Lo ((List VarType)×Bool×Int) (Int×(List VarType))):=
 if i100<p.kids.length then
  (p.kids[i100]?)>>=fun x104=>
  (v.1[i100]?)>>=fun x106=>
  (F.f154 w x106 x104 (IntKind.i64.wrap (deep+1)) z98)>>=fun v108=>
  if v108.2.1=true then
   if p.op=5 then
    if i100=1 then
     (F.f150 vars99 v108.1)>>=fun v117=>
     if v117=true then
      F.f157 w p deep v v108.2.2 vars99 (i100+1)
     else
      some (.ret ([],false,v108.2.2))
    else
     if vars99.length+v108.1.length≤67108864 then
      F.f157 w p deep v v108.2.2 (vars99++v108.1) (i100+1)
     else none
   else
    if vars99.length+v108.1.length≤67108864 then
     F.f157 w p deep v v108.2.2 (vars99++v108.1) (i100+1)
    else none
  else
   some (.ret ([],false,v108.2.2))
 else
  some (.go (z98,vars99))
 partial_fixpoint
end
def F.f158 (w:List Vl.Data)(t:Ty)(p:Pattern):Option ((List VarType)×Bool):=
 (F.f154 w t p 1 0)>>=fun v=>
 some (v.1,v.2.1)
def F.f159 (g:Guard)(vars:List VarType):Option (Bool):=
 if g.op=0 then
  some (dec (eq3 (g.op,g.var,g.n) (0,0,0)))
 else
  (F.f118 g.op 1 2)>>=fun v=>
  if v=true then
   (F.f118 g.n 0 9)>>=fun v6=>
   if v6=true then
    (F.f145 vars (⟨g.var,(⟨(-1),0⟩:Ty)⟩:VarType))>>=fun v10=>
    some v10
   else
    some false
  else
   some false
def F.f160 (w:List Vl.Data)(t:Ty)(c':Clause):Option (Bool):=
 (F.f158 w t c'.pat)>>=fun v=>
 if v.2=true then
  (F.f159 c'.guard v.1)>>=fun v4=>
  some v4
 else
  some false
def F.f161 (w:List Vl.Data)(t:Ty)(c':Clause):Option (Bool):=
 (F.f131 w t)>>=fun v=>
 if v=true then
  (F.f160 w t c')>>=fun v4=>
  some v4
 else
  some false
mutual
def F.f162 (p:Pattern):Option (Pattern):=
 (F.f163 p [] 0)>>=fun o'=>
 some (⟨p.op,p.ctor,p.n,p.m,p.var,o'⟩:Pattern)
 partial_fixpoint
def F.f163 (p:Pattern)(out:List Pattern)(i:Nat):Option (List Pattern):=
 if i<p.kids.length then
  (p.kids[i]?)>>=fun x=>
  (F.f162 x)>>=fun v=>
  if out.length+1≤67108864 then
   F.f163 p (out++[v]) (i+1)
  else none
 else
  some out
 partial_fixpoint
end
def F.f164 (p:Pattern)(n:Int)(m:Int):Option (Pattern×Bool):=
 if p.op=1 then
  some ((⟨3,0,n,m,0,[]⟩:Pattern),true)
 else
  if p.op=2 then
   some ((⟨6,0,0,0,p.var,[(⟨3,0,n,m,0,[]⟩:Pattern)]⟩:Pattern),true)
  else
   if p.op=3 then
    some ((⟨3,0,if n>p.n then n else p.n,if m<p.m then m else p.m,0,[]⟩:Pattern),decide ((if n>p.n then n else p.n)≤(if m<p.m then m else p.m)))
   else
    if p.op=6 then
     (p.kids[0]?)>>=fun x=>
     (F.f164 x n m)>>=fun v=>
     some ((⟨6,0,0,0,p.var,[v.1]⟩:Pattern),v.2)
    else
     (p.kids[0]?)>>=fun x11=>
     (F.f164 x11 n m)>>=fun v13=>
     (p.kids[1]?)>>=fun x15=>
     (F.f164 x15 n m)>>=fun v17=>
     if v13.2=true then
      if v17.2=true then
       some ((⟨5,0,0,0,0,[v13.1,v17.1]⟩:Pattern),true)
      else
       some (v13.1,true)
     else
      some (v17.1,v17.2)
 partial_fixpoint
def F.f165 (s:List Pattern):Option (List Pattern):=
 if s.length≤67108864 then
  some s
 else none
mutual
def F.f166 (p:Pattern)(v:Int)(n:Int)(m:Int):Option (Pattern×Bool×Bool):=
 if p.op=2 then
  if p.var=v then
   (F.f164 p n m)>>=fun v47=>
   some (v47.1,true,v47.2)
  else
   (F.f169 p v n m 0)>>=fun o'66=>
   match o'66 with
   | .ret r068=>some r068
   | .go sx67=>
    some (p,false,false)
 else
  if p.op=6 then
   if p.var=v then
    (F.f164 p n m)>>=fun v7=>
    some (v7.1,true,v7.2)
   else
    (F.f167 p v n m 0)>>=fun o'=>
    match o' with
    | .ret r0=>some r0
    | .go sx=>
     some (p,false,false)
  else
   if p.op=5 then
    some (p,false,false)
   else
    (F.f168 p v n m 0)>>=fun o'42=>
    match o'42 with
    | .ret r044=>some r044
    | .go sx43=>
     some (p,false,false)
 partial_fixpoint
def F.f167 (p:Pattern)(v:Int)(n:Int)(m:Int)(i:Nat):Option (Lo (Pattern×Bool×Bool) Unit):=
 if i<p.kids.length then
  (p.kids[i]?)>>=fun x=>
  (F.f166 x v n m)>>=fun v14=>
  if v14.2.1=true then
   (F.f165 p.kids)>>=fun v18=>
   (v18[i]?)>>=fun x20=>
   some (.ret ((⟨p.op,p.ctor,p.n,p.m,p.var,v18.set i v14.1⟩:Pattern),true,v14.2.2))
  else
   F.f167 p v n m (i+1)
 else
  some (.go ())
 partial_fixpoint
def F.f168 (p:Pattern)(v:Int)(n:Int)(m:Int)(i26:Nat):Option (Lo (Pattern×Bool×Bool) Unit):=
 if i26<p.kids.length then
  (p.kids[i26]?)>>=fun x30=>
  (F.f166 x30 v n m)>>=fun v32=>
  if v32.2.1=true then
   (F.f165 p.kids)>>=fun v36=>
   (v36[i26]?)>>=fun x38=>
   some (.ret ((⟨p.op,p.ctor,p.n,p.m,p.var,v36.set i26 v32.1⟩:Pattern),true,v32.2.2))
  else
   F.f168 p v n m (i26+1)
 else
  some (.go ())
 partial_fixpoint
def F.f169 (p:Pattern)(v:Int)(n:Int)(m:Int)(i50:Nat):Option (Lo (Pattern×Bool×Bool) Unit):=
 if i50<p.kids.length then
  (p.kids[i50]?)>>=fun x54=>
  (F.f166 x54 v n m)>>=fun v56=>
  if v56.2.1=true then
   (F.f165 p.kids)>>=fun v60=>
   (v60[i50]?)>>=fun x62=>
   some (.ret ((⟨p.op,p.ctor,p.n,p.m,p.var,v60.set i50 v56.1⟩:Pattern),true,v56.2.2))
  else
   F.f169 p v n m (i50+1)
 else
  some (.go ())
 partial_fixpoint
end
def F.f170 (c':Clause):Option (Pattern×Bool×Bool):=
 if c'.guard.op=2 then
  (F.f166 c'.pat c'.guard.var c'.guard.n c'.guard.n)>>=fun v=>
  if v.2.2=true then
   some (v.1,v.2.1,decide (c'.guard.n≤c'.guard.n))
  else
   some (v.1,v.2.1,false)
 else
  (F.f166 c'.pat c'.guard.var 0 (IntKind.i64.wrap (c'.guard.n-1)))>>=fun v6=>
  if v6.2.2=true then
   some (v6.1,v6.2.1,decide (0≤IntKind.i64.wrap (c'.guard.n-1)))
  else
   some (v6.1,v6.2.1,false)
def F.f171 (w:List Vl.Data)(t:Ty)(p:Pattern):Option (Bool):=
 (F.f158 w t p)>>=fun v=>
 some v.2
def F.f172 (w:List Vl.Data)(t:Ty)(c':Clause):Option (Clause×Bool):=
 (F.f161 w t c')>>=fun v=>
 if v=true then
  if c'.guard.op=0 then
   (F.f162 c'.pat)>>=fun v6=>
   some ((⟨v6,(⟨0,0,0⟩:Guard)⟩:Clause),true)
  else
   (F.f170 c')>>=fun v8=>
   if v8.2.1=true then
    if v8.2.2=true then
     (F.f171 w t v8.1)>>=fun v14=>
     if v14=true then
      (F.f162 v8.1)>>=fun v18=>
      some ((⟨v18,(⟨0,0,0⟩:Guard)⟩:Clause),true)
     else
      some ((⟨(⟨0,0,0,0,0,[]⟩:Pattern),(⟨0,0,0⟩:Guard)⟩:Clause),false)
    else
     some ((⟨(⟨0,0,0,0,0,[]⟩:Pattern),(⟨0,0,0⟩:Guard)⟩:Clause),false)
   else
    some ((⟨(⟨0,0,0,0,0,[]⟩:Pattern),(⟨0,0,0⟩:Guard)⟩:Clause),false)
 else
  some ((⟨(⟨0,0,0,0,0,[]⟩:Pattern),(⟨0,0,0⟩:Guard)⟩:Clause),false)
def F.f173 (w:List Vl.Data)(t:Ty)(c':Clause):Option (Bool):=
 (F.f39 w t)>>=fun v=>
 if v=true then
  (F.f79 w t c')>>=fun v4=>
  some v4
 else
  some false
mutual
def F.f174 (p:Pattern)(v:Int):Option (Bool):=
 (F.f175 p v 0)>>=fun o'=>
 match o' with
 | .ret r0=>some r0
 | .go sx=>
  if p.op=2 then
   some (decide (p.var=v))
  else
   if p.op=6 then
    some (decide (p.var=v))
   else
    some false
 partial_fixpoint
def F.f175 (p:Pattern)(v:Int)(i:Nat):Option (Lo Bool Unit):=
 if i<p.kids.length then
  (p.kids[i]?)>>=fun x=>
  (F.f174 x v)>>=fun v5=>
  if v5=true then
   some (.ret true)
  else
   F.f175 p v (i+1)
 else
  some (.go ())
 partial_fixpoint
end
mutual
def F.f176 (p:Pattern)(v:Int):Option (Bool):=
 (F.f177 p v 0)>>=fun o'=>
 match o' with
 | .ret r0=>some r0
 | .go sx=>
  some false
 partial_fixpoint
def F.f177 (p:Pattern)(v:Int)(i:Nat):Option (Lo Bool Unit):=
 if i<p.kids.length then
  if p.op=5 then
   (p.kids[i]?)>>=fun x=>
   (F.f174 x v)>>=fun v7=>
   if v7=true then
    some (.ret true)
   else
    (F.f176 x v)>>=fun v11=>
    if v11=true then
     some (.ret true)
    else
     F.f177 p v (i+1)
  else
   (p.kids[i]?)>>=fun x16=>
   (F.f176 x16 v)>>=fun v18=>
   if v18=true then
    some (.ret true)
   else
    F.f177 p v (i+1)
 else
  some (.go ())
 partial_fixpoint
end
mutual
def F.f178 (p:Pattern):Option (Pattern):=
 (F.f179 p [] 0)>>=fun o'=>
 some (⟨p.op,p.ctor,p.n,p.m,p.var,o'⟩:Pattern)
 partial_fixpoint
def F.f179 (p:Pattern)(out:List Pattern)(i:Nat):Option (List Pattern):=
 if i<p.kids.length then
  (p.kids[i]?)>>=fun x=>
  (F.f178 x)>>=fun v=>
  if out.length+1≤67108864 then
   F.f179 p (out++[v]) (i+1)
  else none
 else
  some out
 partial_fixpoint
end
def F.f180 (g:Guard):Option (Int×Int):=
 if g.op=1 then
  some (0,IntKind.i64.wrap (g.n-1))
 else
  some (g.n,g.n)
mutual
def F.f181 (a:Pattern)(b:Pattern):Option (Pattern×Bool):=
 if a.op=1 then
  some (b,true)
 else
  if b.op=1 then
   some (a,true)
  else
   if a.op=3 then
    if a.n<b.n then
     if b.m<a.m then
      some ((⟨3,0,b.n,b.m,0,[]⟩:Pattern),decide (b.n≤b.m))
     else
      some ((⟨3,0,b.n,a.m,0,[]⟩:Pattern),decide (b.n≤a.m))
    else
     if b.m<a.m then
      some ((⟨3,0,a.n,b.m,0,[]⟩:Pattern),decide (a.n≤b.m))
     else
      some ((⟨3,0,a.n,a.m,0,[]⟩:Pattern),decide (a.n≤a.m))
   else
    if a.ctor=b.ctor then
     (F.f182 a b [] 0)>>=fun o'=>
     match o' with
     | .ret r0=>some r0
     | .go sx=>
      some ((⟨4,a.ctor,0,0,0,sx⟩:Pattern),true)
    else
     some ((⟨0,0,0,0,0,[]⟩:Pattern),false)
 partial_fixpoint
def F.f182 (a:Pattern)(b:Pattern)(out:List Pattern)(i:Nat):Option (Lo (Pattern×Bool) (List Pattern)):=
 if i<a.kids.length then
  (a.kids[i]?)>>=fun x=>
  (b.kids[i]?)>>=fun x19=>
  (F.f181 x x19)>>=fun v=>
  if v.2=true then
   if out.length+1≤67108864 then
    F.f182 a b (out++[v.1]) (i+1)
   else none
  else
   some (.ret ((⟨0,0,0,0,0,[]⟩:Pattern),false))
 else
  some (.go out)
 partial_fixpoint
end
def F.f183 (p:Pattern)(n:Int)(m:Int):Option (Pattern×Bool):=
 if p.op=1 then
  some ((⟨3,0,n,m,0,[]⟩:Pattern),decide (n≤m))
 else
  if p.op=2 then
   some ((⟨6,0,0,0,p.var,[(⟨3,0,n,m,0,[]⟩:Pattern)]⟩:Pattern),decide (n≤m))
  else
   if p.op=6 then
    (p.kids[0]?)>>=fun x=>
    (F.f183 x n m)>>=fun v=>
    some ((⟨6,0,0,0,p.var,[v.1]⟩:Pattern),v.2)
   else
    if p.op=5 then
     (p.kids[0]?)>>=fun x11=>
     (F.f183 x11 n m)>>=fun v13=>
     (p.kids[1]?)>>=fun x15=>
     (F.f183 x15 n m)>>=fun v17=>
     if v13.2=true then
      if v17.2=true then
       some ((⟨5,0,0,0,0,[v13.1,v17.1]⟩:Pattern),true)
      else
       some (v13.1,true)
     else
      some (v17.1,v17.2)
    else
     (F.f181 p (⟨3,0,n,m,0,[]⟩:Pattern))>>=fun v23=>
     some (v23.1,v23.2)
 partial_fixpoint
mutual
def F.f184 (p:Pattern)(v:Int)(n:Int)(m:Int):Option (Pattern×Bool):=
 if p.op=2 then
  if p.var=v then
   (F.f183 p n m)>>=fun v39=>
   some (v39.1,v39.2)
  else
   (F.f187 p v n m [] 0)>>=fun o'55=>
   match o'55 with
   | .ret r057=>some r057
   | .go sx56=>
    some ((⟨p.op,p.ctor,p.n,p.m,p.var,sx56⟩:Pattern),true)
 else
  if p.op=6 then
   if p.var=v then
    (F.f183 p n m)>>=fun v7=>
    some (v7.1,v7.2)
   else
    (F.f185 p v n m [] 0)>>=fun o'=>
    match o' with
    | .ret r0=>some r0
    | .go sx=>
     some ((⟨p.op,p.ctor,p.n,p.m,p.var,sx⟩:Pattern),true)
  else
   (F.f186 p v n m [] 0)>>=fun o'34=>
   match o'34 with
   | .ret r036=>some r036
   | .go sx35=>
    some ((⟨p.op,p.ctor,p.n,p.m,p.var,sx35⟩:Pattern),true)
 partial_fixpoint
def F.f185 (p:Pattern)(v:Int)(n:Int)(m:Int)(out:List Pattern)(i:Nat):Option (Lo (Pattern×Bool) (List Pattern)):=
 if i<p.kids.length then
  (p.kids[i]?)>>=fun x=>
  (F.f184 x v n m)>>=fun v13=>
  if v13.2=true then
   if out.length+1≤67108864 then
    F.f185 p v n m (out++[v13.1]) (i+1)
   else none
  else
   some (.ret ((⟨0,0,0,0,0,[]⟩:Pattern),false))
 else
  some (.go out)
 partial_fixpoint
def F.f186 (p:Pattern)(v:Int)(n:Int)(m:Int)(out20:List Pattern)(i21:Nat):Option (Lo (Pattern×Bool) (List Pattern)):=
 if i21<p.kids.length then
  (p.kids[i21]?)>>=fun x25=>
  (F.f184 x25 v n m)>>=fun v27=>
  if v27.2=true then
   if out20.length+1≤67108864 then
    F.f186 p v n m (out20++[v27.1]) (i21+1)
   else none
  else
   some (.ret ((⟨0,0,0,0,0,[]⟩:Pattern),false))
 else
  some (.go out20)
 partial_fixpoint
def F.f187 (p:Pattern)(v:Int)(n:Int)(m:Int)(out41:List Pattern)(i42:Nat):Option (Lo (Pattern×Bool) (List Pattern)):=
 if i42<p.kids.length then
  (p.kids[i42]?)>>=fun x46=>
  (F.f184 x46 v n m)>>=fun v48=>
  if v48.2=true then
   if out41.length+1≤67108864 then
    F.f187 p v n m (out41++[v48.1]) (i42+1)
   else none
  else
   some (.ret ((⟨0,0,0,0,0,[]⟩:Pattern),false))
 else
  some (.go out41)
 partial_fixpoint
end
def F.f188 (c':Clause):Option (Clause×Bool):=
 if c'.guard.op=0 then
  (F.f178 c'.pat)>>=fun v=>
  some ((⟨v,(⟨0,0,0⟩:Guard)⟩:Clause),true)
 else
  (F.f180 c'.guard)>>=fun v4=>
  (F.f184 c'.pat c'.guard.var v4.1 v4.2)>>=fun v6=>
  (F.f178 v6.1)>>=fun v8=>
  some ((⟨v8,(⟨0,0,0⟩:Guard)⟩:Clause),v6.2)
def F.f189 (w:List Vl.Data)(t:Ty)(c':Clause):Option (Clause×Bool):=
 (F.f173 w t c')>>=fun v=>
 if v=true then
  if c'.guard.op=0 then
   (F.f188 c')>>=fun v18=>
   if v18.2=true then
    (F.f79 w t v18.1)>>=fun v22=>
    if v22=true then
     some (v18.1,true)
    else
     some ((⟨(⟨0,0,0,0,0,[]⟩:Pattern),(⟨0,0,0⟩:Guard)⟩:Clause),false)
   else
    some ((⟨(⟨0,0,0,0,0,[]⟩:Pattern),(⟨0,0,0⟩:Guard)⟩:Clause),false)
  else
   (F.f176 c'.pat c'.guard.var)>>=fun v6=>
   if v6=true then
    some ((⟨(⟨0,0,0,0,0,[]⟩:Pattern),(⟨0,0,0⟩:Guard)⟩:Clause),false)
   else
    (F.f188 c')>>=fun v10=>
    if v10.2=true then
     (F.f79 w t v10.1)>>=fun v14=>
     if v14=true then
      some (v10.1,true)
     else
      some ((⟨(⟨0,0,0,0,0,[]⟩:Pattern),(⟨0,0,0⟩:Guard)⟩:Clause),false)
    else
     some ((⟨(⟨0,0,0,0,0,[]⟩:Pattern),(⟨0,0,0⟩:Guard)⟩:Clause),false)
 else
  some ((⟨(⟨0,0,0,0,0,[]⟩:Pattern),(⟨0,0,0⟩:Guard)⟩:Clause),false)
mutual
def F.f190 (a:Pattern)(b:Pattern):Option (Bool):=
 if a.op=b.op then
  if a.ctor=b.ctor then
   if a.n=b.n then
    if a.m=b.m then
     if a.var=b.var then
      (F.f191 a.kids b.kids)>>=fun v=>
      some v
     else
      some false
    else
     some false
   else
    some false
  else
   some false
 else
  some false
 partial_fixpoint
def F.f191 (s1:List Pattern)(s2:List Pattern):Option (Bool):=
 if s1.length=s2.length then
  (F.f192 s1 s2 0)>>=fun o'=>
  match o' with
  | .ret r0=>some r0
  | .go sx=>
   some true
 else
  some false
 partial_fixpoint
def F.f192 (s1:List Pattern)(s2:List Pattern)(i:Nat):Option (Lo Bool Unit):=
 if i<s1.length then
  (s1[i]?)>>=fun x=>
  (s2[i]?)>>=fun x8=>
  (F.f190 x x8)>>=fun v=>
  if v=true then
   F.f192 s1 s2 (i+1)
  else
   some (.ret false)
 else
  some (.go ())
 partial_fixpoint
end
def F.f193 (x:Clause)(y:Clause):Option (Bool):=
 (F.f190 x.pat y.pat)>>=fun v=>
 if v=true then
  some (dec (eq3 (x.guard.op,x.guard.var,x.guard.n) (y.guard.op,y.guard.var,y.guard.n)))
 else
  some false
def F.f194 (s1:List Clause)(s2:List Clause)(i:Nat):Option (Lo Bool Unit):=
 if i<s1.length then
  (s1[i]?)>>=fun x=>
  (s2[i]?)>>=fun x8=>
  (F.f193 x x8)>>=fun v=>
  if v=true then
   F.f194 s1 s2 (i+1)
  else
   some (.ret false)
 else
  some (.go ())
 partial_fixpoint
def F.f195 (s1:List Clause)(s2:List Clause):Option (Bool):=
 if s1.length=s2.length then
  (F.f194 s1 s2 0)>>=fun o'=>
  match o' with
  | .ret r0=>some r0
  | .go sx=>
   some true
 else
  some false
def F.f196 (a:List Clause)(b:List Clause):Option (Bool):=
 (F.f195 a b)>>=fun v=>
 some v
def F.f197 (w:List Vl.Data)(t:Ty)(c':Clause):Option (Bool):=
 (F.f161 w t c')>>=fun v=>
 if v=true then
  if c'.guard.op=0 then
   some false
  else
   (F.f170 c')>>=fun v6=>
   if v6.2.1=true then
    some (!v6.2.2)
   else
    some false
 else
  some false
def F.f198 (code:List Int):Option (Bool):=
 if 1048576<code.length then
  some true
 else
  (F.f117 code)>>=fun v=>
  (F.f172 v.1 v.2.1 v.2.2)>>=fun v5=>
  (F.f189 v.1 v.2.1 v.2.2)>>=fun v7=>
  if v5.2=v7.2 then
   (F.f196 [v5.1] [v7.1])>>=fun v11=>
   if v11=true then
    if v5.2=true then
     (F.f172 v.1 v.2.1 v5.1)>>=fun v19=>
     if v19.2=true then
      (F.f196 [v19.1] [v5.1])>>=fun v23=>
      if v23=true then
       (F.f197 v.1 v.2.1 v.2.2)>>=fun v27=>
       some (!v27)
      else
       some false
     else
      some false
    else
     (F.f196 [v5.1] [v7.1])>>=fun v17=>
     some v17
   else
    (F.f196 [v5.1] [v7.1])>>=fun v29=>
    some v29
  else
   some false
end
end Go.Vl
