/- The functions of the program as Lean functions (printed by gen.py). -/
import Derived.Test.YtanfmnlkemmkpaaGreatDoorVlG
import Derived.Test.YtanfmnlkemmkpaaGreatDoorVlDraw3
import Derived.Test.YtanfmnlkemmkpaaGreatDoorVlFa
import Derived.Test.YtanfmnlkemmkpaaGreatDoorVlSplit
import Derived.Test.YtanfmnlkemmkpaaGreatDoorVlDeep
import Derived.Test.YtanfmnlkemmkpaaGreatDoorVlMk
import Derived.Test.YtanfmnlkemmkpaaGreatDoorVlFork
import Derived.Test.YtanfmnlkemmkpaaGreatDoorVlFloat
import Derived.Test.YtanfmnlkemmkpaaGreatDoorVlSeal
import Derived.Test.YtanfmnlkemmkpaaGreatDoorVlOpn
import Derived.Test.YtanfmnlkemmkpaaGreatDoorVlText
set_option linter.all false
set_option synthInstance.maxSize 100000
set_option synthInstance.maxHeartbeats 4000000
set_option maxHeartbeats 4000000
namespace Go.Vl
open Go
noncomputable section
structure T_impl_scope where
 f0:List Vl.Data
 f1:List FunType
 f2:List VarType
def T_impl_scope.c (x:T_impl_scope):List AV:=[.arr (List.map Vl.Data.c x.f0),.arr (List.map FunType.c x.f1),.arr (List.map VarType.c x.f2)]
@[simp] theorem T_impl_scope.c_eq (x:T_impl_scope):x.c=[.arr (List.map Vl.Data.c x.f0),.arr (List.map FunType.c x.f1),.arr (List.map VarType.c x.f2)]:=rfl
abbrev T_impl_scope.z :T_impl_scope:=⟨[],[],[]⟩
@[simp] theorem nice_T_impl_scope :Nice T_impl_scope.c:=⟨by simp,by simp,by simp⟩
@[simp] theorem nlen_T_impl_scope :NiceLen T_impl_scope.c 3:=⟨by simp⟩
structure T_spec_l17Rd where
 f0:List Int
 f1:Int
def T_spec_l17Rd.c (x:T_spec_l17Rd):List AV:=[.arr (List.map cU x.f0),.lit (.int .i64 x.f1)]
@[simp] theorem T_spec_l17Rd.c_eq (x:T_spec_l17Rd):x.c=[.arr (List.map cU x.f0),.lit (.int .i64 x.f1)]:=rfl
abbrev T_spec_l17Rd.z :T_spec_l17Rd:=⟨[],0⟩
@[simp] theorem nice_T_spec_l17Rd :Nice T_spec_l17Rd.c:=⟨by simp,by simp,by simp⟩
@[simp] theorem nlen_T_spec_l17Rd :NiceLen T_spec_l17Rd.c 2:=⟨by simp⟩
def F.f0  :Option (List ByteArray):=
 some [(⟨#[76,61,78,105,108,124,67,111,110,115,40,73,44,76,41]⟩:ByteArray),(⟨#[66,61,84,114,117,124,70,108,115,59,84,61,76,101,97,102,124,78,111,100,101,40,84,44,66,44,84,41]⟩:ByteArray),(⟨#[69,61,78,117,109,40,73,41,58,49,124,66,111,108,40,66,41,58,50,124,65,100,100,40,69,49,44,69,49,41,58,49,124,73,102,40,69,50,44,69,42,44,69,42,41,59,66,61,84,114,117,124,70,108,115]⟩:ByteArray),(⟨#[79,61,78,111,110,124,83,111,109,40,73,41,59,80,61,80,97,105,114,40,79,44,79,41]⟩:ByteArray),(⟨#[86,61,69,110,100,58,49,124,83,111,109,101,40,73,44,86,49,41,58,50,124,84,119,111,40,86,42,41]⟩:ByteArray),(⟨#[78,61,78,101,118,101,114,40,78,41,59,66,61,84,114,117,124,70,108,115,124,77,97,121,40,78,41]⟩:ByteArray),(⟨#[83,61,82,101,100,124,71,114,101,101,110,124,66,108,117,101,124,77,105,120,40,83,44,83,41]⟩:ByteArray),ByteArray.empty]
def F.f1 (r':T_spec_l17Rd)(n:Int):Option (Int×T_spec_l17Rd):=
 if n<1 then
  some (0,(⟨r'.f0,IntKind.i64.wrap (r'.f1+1)⟩:T_spec_l17Rd))
 else
  if r'.f0.length=0 then
   some (0,(⟨r'.f0,IntKind.i64.wrap (r'.f1+1)⟩:T_spec_l17Rd))
  else
   if IntKind.i64.wrap (IntKind.i64.wrap (r'.f1+1) -1)<(r'.f0.length:Int)then
    (at? r'.f0 (IntKind.i64.wrap (IntKind.i64.wrap (r'.f1+1) -1)))>>=fun x=>
    if n≠0 then
     some ((IntKind.i64.wrap x).tmod n,(⟨r'.f0,IntKind.i64.wrap (r'.f1+1)⟩:T_spec_l17Rd))
    else none
   else
    if(r'.f0.length:Int)≠0 then
     (at? r'.f0 ((IntKind.i64.wrap (IntKind.i64.wrap (r'.f1+1) -1)).tmod (r'.f0.length:Int)))>>=fun x11=>
     (at? r'.f0 ((IntKind.i64.wrap (IntKind.i64.wrap (IntKind.i64.wrap (IntKind.i64.wrap (r'.f1+1) -1)*7)+3)).tmod (r'.f0.length:Int)))>>=fun x13=>
     if n≠0 then
      some ((xorI .i64 (IntKind.i64.wrap (IntKind.i64.wrap (IntKind.i64.wrap (IntKind.i64.wrap (IntKind.i64.wrap x11*131)+IntKind.i64.wrap (IntKind.i64.wrap x13*1117))+IntKind.i64.wrap (IntKind.i64.wrap (IntKind.i64.wrap (r'.f1+1) -1)*29))+IntKind.i64.wrap (IntKind.i64.wrap ((IntKind.i64.wrap (IntKind.i64.wrap (r'.f1+1) -1)).tdiv (r'.f0.length:Int))*53))) (IntKind.i64.wrap ((IntKind.i64.wrap (IntKind.i64.wrap (IntKind.i64.wrap (IntKind.i64.wrap (IntKind.i64.wrap x11*131)+IntKind.i64.wrap (IntKind.i64.wrap x13*1117))+IntKind.i64.wrap (IntKind.i64.wrap (IntKind.i64.wrap (r'.f1+1) -1)*29))+IntKind.i64.wrap (IntKind.i64.wrap ((IntKind.i64.wrap (IntKind.i64.wrap (r'.f1+1) -1)).tdiv (r'.f0.length:Int))*53))).tdiv 64))).tmod n,(⟨r'.f0,IntKind.i64.wrap (r'.f1+1)⟩:T_spec_l17Rd))
     else none
    else none
def F.f2 (s:ByteArray)(c':Int)(out:List ByteArray)(from':Nat)(i:Nat):Option (List ByteArray):=
 if i≤s.size then
  if i=s.size then
   if from'≤i∧i≤s.size then
    if out.length+1≤67108864 then
     if i+1≤9223372036854775807 then
      F.f2 s c' (out++[s.extract from' i]) (i+1) (i+1)
     else none
    else none
   else none
  else
   if i<s.size then
    if((byteAt s i:Nat):Int)=c' then
     if from'≤i∧i≤s.size then
      if out.length+1≤67108864 then
       if i+1≤9223372036854775807 then
        F.f2 s c' (out++[s.extract from' i]) (i+1) (i+1)
       else none
      else none
     else none
    else
     if i+1≤9223372036854775807 then
      F.f2 s c' out from' (i+1)
     else none
   else none
 else
  some out
 partial_fixpoint
def F.f3 (s:ByteArray)(c':Int):Option (List ByteArray):=
 (F.f2 s c' [] 0 0)>>=fun o'=>
 some o'
def F.f4 (names:List ByteArray)(s:ByteArray)(i:Nat):Option (Lo Int Unit):=
 if i<names.length then
  (names[i]?)>>=fun x=>
  if x.toList=s.toList then
   some (.ret (i:Int))
  else
   F.f4 names s (i+1)
 else
  some (.go ())
 partial_fixpoint
def F.f5 (names:List ByteArray)(s:ByteArray):Option (Int):=
 if s.toList=(⟨#[73]⟩:ByteArray).toList then
  some (-1)
 else
  (F.f4 names s 0)>>=fun o'=>
  match o' with
  | .ret r0=>some r0
  | .go sx=>
   some (-2)
def F.f6 (names:List ByteArray)(s:ByteArray):Option (Ty):=
 if s.toList=ByteArray.empty.toList then
  some (⟨(-2),0⟩:Ty)
 else
  if 1≤s.size then
   (F.f5 names (s.extract 0 1))>>=fun v=>
   if(s.extract 1 s.size).toList=(⟨#[42]⟩:ByteArray).toList then
    some (⟨v,(-1)⟩:Ty)
   else
    if s.size=2 then
     if 1<s.size then
      if 48≤byteAt s 1 then
       if byteAt s 1≤57 then
        some (⟨v,IntKind.i64.wrap (IntKind.u8.wrap (((byteAt s 1:Nat):Int) -48))⟩:Ty)
       else
        some (⟨v,0⟩:Ty)
      else
       some (⟨v,0⟩:Ty)
     else none
    else
     some (⟨v,0⟩:Ty)
  else none
def F.f7 (names:List ByteArray)(s:ByteArray)(x:ByteArray)(v21:List ByteArray)(out:List Ty)(i:Nat):Option (List Ty):=
 if i<v21.length then
  if i≤3 then
   (v21[i]?)>>=fun x29=>
   (F.f6 names x29)>>=fun v31=>
   if out.length+1≤67108864 then
    F.f7 names s x v21 (out++[v31]) (i+1)
   else none
  else
   some out
 else
  some out
 partial_fixpoint
def F.f8 (names:List ByteArray)(x38:ByteArray)(v49:List ByteArray)(out51:List Ty)(i52:Nat):Option (List Ty):=
 if i52<v49.length then
  if i52≤3 then
   (v49[i52]?)>>=fun x59=>
   (F.f6 names x59)>>=fun v61=>
   if out51.length+1≤67108864 then
    F.f8 names x38 v49 (out51++[v61]) (i52+1)
   else none
  else
   some out51
 else
  some out51
 partial_fixpoint
def F.f9 (names:List ByteArray)(x69:ByteArray)(v80:List ByteArray)(out82:List Ty)(i83:Nat):Option (List Ty):=
 if i83<v80.length then
  if i83≤3 then
   (v80[i83]?)>>=fun x90=>
   (F.f6 names x90)>>=fun v92=>
   if out82.length+1≤67108864 then
    F.f9 names x69 v80 (out82++[v92]) (i83+1)
   else none
  else
   some out82
 else
  some out82
 partial_fixpoint
def F.f10 (names:List ByteArray)(s:ByteArray):Option (Ctor):=
 if 2<s.size then
  if 0≤IntKind.i64.wrap ((s.size:Int) -2)∧(IntKind.i64.wrap ((s.size:Int) -2)).toNat<s.size then
   if byteAt s ((IntKind.i64.wrap ((s.size:Int) -2)).toNat)=58 then
    if 0≤IntKind.i64.wrap ((s.size:Int) -1)∧(IntKind.i64.wrap ((s.size:Int) -1)).toNat<s.size then
     if 0≤IntKind.i64.wrap ((s.size:Int) -2)∧(IntKind.i64.wrap ((s.size:Int) -2)).toNat≤s.size then
      (F.f3 (s.extract 0 ((IntKind.i64.wrap ((s.size:Int) -2)).toNat)) 40)>>=fun v=>
      (v[0]?)>>=fun x=>
      if v.length<2 then
       some (⟨x,[],IntKind.i64.wrap (IntKind.i64.wrap ((byteAt s ((IntKind.i64.wrap ((s.size:Int) -1)).toNat):Nat):Int) -48)⟩:Ctor)
      else
       (v[1]?)>>=fun x15=>
       if x15.size=0 then
        some (⟨x,[],IntKind.i64.wrap (IntKind.i64.wrap ((byteAt s ((IntKind.i64.wrap ((s.size:Int) -1)).toNat):Nat):Int) -48)⟩:Ctor)
       else
        if 0≤IntKind.i64.wrap ((x15.size:Int) -1)∧(IntKind.i64.wrap ((x15.size:Int) -1)).toNat≤x15.size then
         (F.f3 (x15.extract 0 ((IntKind.i64.wrap ((x15.size:Int) -1)).toNat)) 44)>>=fun v21=>
         (F.f7 names s x v21 [] 0)>>=fun o'=>
         some (⟨x,o',IntKind.i64.wrap (IntKind.i64.wrap ((byteAt s ((IntKind.i64.wrap ((s.size:Int) -1)).toNat):Nat):Int) -48)⟩:Ctor)
        else none
     else none
    else none
   else
    (F.f3 s 40)>>=fun v36=>
    (v36[0]?)>>=fun x38=>
    if v36.length<2 then
     some (⟨x38,[],0⟩:Ctor)
    else
     (v36[1]?)>>=fun x43=>
     if x43.size=0 then
      some (⟨x38,[],0⟩:Ctor)
     else
      if 0≤IntKind.i64.wrap ((x43.size:Int) -1)∧(IntKind.i64.wrap ((x43.size:Int) -1)).toNat≤x43.size then
       (F.f3 (x43.extract 0 ((IntKind.i64.wrap ((x43.size:Int) -1)).toNat)) 44)>>=fun v49=>
       (F.f8 names x38 v49 [] 0)>>=fun o'66=>
       some (⟨x38,o'66,0⟩:Ctor)
      else none
  else none
 else
  (F.f3 s 40)>>=fun v67=>
  (v67[0]?)>>=fun x69=>
  if v67.length<2 then
   some (⟨x69,[],0⟩:Ctor)
  else
   (v67[1]?)>>=fun x74=>
   if x74.size=0 then
    some (⟨x69,[],0⟩:Ctor)
   else
    if 0≤IntKind.i64.wrap ((x74.size:Int) -1)∧(IntKind.i64.wrap ((x74.size:Int) -1)).toNat≤x74.size then
     (F.f3 (x74.extract 0 ((IntKind.i64.wrap ((x74.size:Int) -1)).toNat)) 44)>>=fun v80=>
     (F.f9 names x69 v80 [] 0)>>=fun o'97=>
     some (⟨x69,o'97,0⟩:Ctor)
    else none
def F.f11 (c':Int):Option (Bool):=
 if 65≤c' then
  some (decide (c'≤90))
 else
  some false
def F.f12 (s:ByteArray):Option (Bool):=
 if s.size=1 then
  if 0<s.size then
   (F.f11 ((byteAt s 0:Nat):Int))>>=fun v=>
   if v=true then
    some (decide (¬(s.toList=(⟨#[73]⟩:ByteArray).toList)))
   else
    some false
  else none
 else
  some false
def F.f13 (s:ByteArray)(i:Nat):Option (Lo Bool Unit):=
 if i<s.size then
  if byteAt s i<97 then
   some (.ret false)
  else
   if 122<byteAt s i then
    some (.ret false)
   else
    if i+1≤9223372036854775807 then
     F.f13 s (i+1)
    else none
 else
  some (.go ())
 partial_fixpoint
def F.f14 (s:ByteArray):Option (Bool):=
 if s.size=0 then
  some false
 else
  if 5<s.size then
   some false
  else
   if 0<s.size then
    (F.f11 ((byteAt s 0:Nat):Int))>>=fun v=>
    if v=true then
     (F.f13 s 1)>>=fun o'=>
     match o' with
     | .ret r0=>some r0
     | .go sx=>
      some true
    else
     some false
   else none
def F.f15 (n:Int)(t:Ty):Option (Bool):=
 if t.data=(-1)then
  some (decide (t.index=0))
 else
  if 0≤t.data then
   if t.data<n then
    if(-1)≤t.index then
     some (decide (t.index≤3))
    else
     some false
   else
    some false
  else
   some false
def F.f16 (n:Int)(c':Ctor)(i:Nat):Option (Lo Bool Unit):=
 if i<c'.args.length then
  (c'.args[i]?)>>=fun x=>
  (F.f15 n x)>>=fun v15=>
  if v15=true then
   F.f16 n c' (i+1)
  else
   some (.ret false)
 else
  some (.go ())
 partial_fixpoint
def F.f17 (n:Int)(c':Ctor):Option (Bool):=
 (F.f14 c'.name)>>=fun v=>
 if v=true then
  if 3<c'.args.length then
   some false
  else
   if c'.index<0 then
    some false
   else
    if 3<c'.index then
     some false
    else
     (F.f16 n c' 0)>>=fun o'=>
     match o' with
     | .ret r0=>some r0
     | .go sx=>
      some true
 else
  some false
def F.f18 (w:List Vl.Data)(d:Int)(k:Int)(i:Nat)(j:Nat):Option (Lo Bool Unit):=
 (w[i]?)>>=fun x10=>
 if j<x10.ctors.length then
  if(i:Int)<d then
   (at? w d)>>=fun x33=>
   if k<(x33.ctors.length:Int)then
    (x10.ctors[j]?)>>=fun x37=>
    (at? x33.ctors k)>>=fun x39=>
    if x37.name.toList=x39.name.toList then
     some (.ret true)
    else
     if j+1≤9223372036854775807 then
      F.f18 w d k i (j+1)
     else none
   else
    if j+1≤9223372036854775807 then
     F.f18 w d k i (j+1)
    else none
  else
   if(j:Int)<k then
    (at? w d)>>=fun x19=>
    if k<(x19.ctors.length:Int)then
     (x10.ctors[j]?)>>=fun x23=>
     (at? x19.ctors k)>>=fun x25=>
     if x23.name.toList=x25.name.toList then
      some (.ret true)
     else
      if j+1≤9223372036854775807 then
       F.f18 w d k i (j+1)
      else none
    else
     if j+1≤9223372036854775807 then
      F.f18 w d k i (j+1)
     else none
   else
    some (.go ())
 else
  some (.go ())
 partial_fixpoint
def F.f19 (w:List Vl.Data)(d:Int)(k:Int)(i:Nat)(j50:Nat):Option (Lo Bool Unit):=
 (w[i]?)>>=fun x51=>
 if j50<x51.ctors.length then
  if(i:Int)<d then
   (at? w d)>>=fun x74=>
   if k<(x74.ctors.length:Int)then
    (x51.ctors[j50]?)>>=fun x78=>
    (at? x74.ctors k)>>=fun x80=>
    if x78.name.toList=x80.name.toList then
     some (.ret true)
    else
     if j50+1≤9223372036854775807 then
      F.f19 w d k i (j50+1)
     else none
   else
    if j50+1≤9223372036854775807 then
     F.f19 w d k i (j50+1)
    else none
  else
   if(j50:Int)<k then
    (at? w d)>>=fun x60=>
    if k<(x60.ctors.length:Int)then
     (x51.ctors[j50]?)>>=fun x64=>
     (at? x60.ctors k)>>=fun x66=>
     if x64.name.toList=x66.name.toList then
      some (.ret true)
     else
      if j50+1≤9223372036854775807 then
       F.f19 w d k i (j50+1)
      else none
    else
     if j50+1≤9223372036854775807 then
      F.f19 w d k i (j50+1)
     else none
   else
    some (.go ())
 else
  some (.go ())
 partial_fixpoint
def F.f20 (w:List Vl.Data)(d:Int)(k:Int)(i:Nat):Option (Lo Bool Unit):=
 if(i:Int)≤d then
  if(i:Int)<d then
   (w[i]?)>>=fun x=>
   (at? w d)>>=fun x6=>
   if x.name.toList=x6.name.toList then
    some (.ret true)
   else
    (F.f18 w d k i 0)>>=fun o'=>
    match o' with
    | .ret r0=>some (.ret r0)
    | .go sx=>
     if i+1≤9223372036854775807 then
      F.f20 w d k (i+1)
     else none
  else
   (F.f19 w d k i 0)>>=fun o'89=>
   match o'89 with
   | .ret r093=>some (.ret r093)
   | .go sx90=>
    if i+1≤9223372036854775807 then
     F.f20 w d k (i+1)
    else none
 else
  some (.go ())
 partial_fixpoint
def F.f21 (w:List Vl.Data)(d:Int)(k:Int):Option (Bool):=
 (F.f20 w d k 0)>>=fun o'95=>
 match o'95 with
 | .ret r097=>some r097
 | .go sx96=>
  some false
def F.f22 (w:List Vl.Data)(d:Nat)(k:Nat):Option (Lo Bool Unit):=
 (w[d]?)>>=fun x17=>
 if k<x17.ctors.length then
  (x17.ctors[k]?)>>=fun x22=>
  (F.f17 (w.length:Int) x22)>>=fun v24=>
  if v24=true then
   (F.f21 w (d:Int) (k:Int))>>=fun v28=>
   if v28=true then
    some (.ret false)
   else
    if k+1≤9223372036854775807 then
     F.f22 w d (k+1)
    else none
  else
   some (.ret false)
 else
  some (.go ())
 partial_fixpoint
def F.f23 (w:List Vl.Data)(d:Nat):Option (Lo Bool Unit):=
 if d<w.length then
  (w[d]?)>>=fun x=>
  (F.f12 x.name)>>=fun v=>
  if v=true then
   if x.ctors.length=0 then
    some (.ret false)
   else
    if 4<x.ctors.length then
     some (.ret false)
    else
     (F.f22 w d 0)>>=fun o'=>
     match o' with
     | .ret r0=>some (.ret r0)
     | .go sx=>
      if d+1≤9223372036854775807 then
       F.f23 w (d+1)
      else none
  else
   some (.ret false)
 else
  some (.go ())
 partial_fixpoint
def F.f24 (w:List Vl.Data):Option (Bool):=
 if 4<w.length then
  some false
 else
  (F.f23 w 0)>>=fun o'38=>
  match o'38 with
  | .ret r040=>some r040
  | .go sx39=>
   some true
def F.f25 (n7:Int)(out:ByteArray):Option (Int×ByteArray):=
 if 9<n7 then
  if(strB [IntKind.u8.wrap (IntKind.i64.wrap (48+n7.tmod 10))]).size+out.size≤9223372036854775807 then
   F.f25 (IntKind.i64.wrap (n7.tdiv 10)) ((strB [IntKind.u8.wrap (IntKind.i64.wrap (48+n7.tmod 10))])++out)
  else none
 else
  some (n7,out)
 partial_fixpoint
def F.f26 (n:Int):Option (ByteArray):=
 if n<(-9223372036854775807)then
  some (⟨#[45,57,50,50,51,51,55,50,48,51,54,56,53,52,55,55,53,56,48,56]⟩:ByteArray)
 else
  if n<0 then
   (F.f26 (IntKind.i64.wrap (0-n)))>>=fun v=>
   if(⟨#[45]⟩:ByteArray).size+v.size≤9223372036854775807 then
    some ((⟨#[45]⟩:ByteArray)++v)
   else none
  else
   (F.f25 n ByteArray.empty)>>=fun o'=>
   if(strB [IntKind.u8.wrap (IntKind.i64.wrap (48+o'.1))]).size+o'.2.size≤9223372036854775807 then
    some ((strB [IntKind.u8.wrap (IntKind.i64.wrap (48+o'.1))])++o'.2)
   else none
 partial_fixpoint
def F.f27 (n:Int):Option (ByteArray):=
 if n=0 then
  some ByteArray.empty
 else
  if n=(-1)then
   some (⟨#[42]⟩:ByteArray)
  else
   (F.f26 n)>>=fun v=>
   some v
def F.f28 (w:List Vl.Data)(t:Ty):Option (ByteArray):=
 if t.data=(-1)then
  some (⟨#[73]⟩:ByteArray)
 else
  (at? w t.data)>>=fun x=>
  (F.f27 t.index)>>=fun v=>
  if x.name.size+v.size≤9223372036854775807 then
   some (x.name++v)
  else none
def F.f29 (w:List Vl.Data)(c':Ctor)(out:ByteArray)(i:Nat):Option (ByteArray):=
 if i<c'.args.length then
  if i=0 then
   if out.size+(⟨#[40]⟩:ByteArray).size≤9223372036854775807 then
    (c'.args[i]?)>>=fun x=>
    (F.f28 w x)>>=fun v=>
    if(out++(⟨#[40]⟩:ByteArray)).size+v.size≤9223372036854775807 then
     F.f29 w c' ((out++(⟨#[40]⟩:ByteArray))++v) (i+1)
    else none
   else none
  else
   if out.size+(⟨#[44]⟩:ByteArray).size≤9223372036854775807 then
    (c'.args[i]?)>>=fun x13=>
    (F.f28 w x13)>>=fun v15=>
    if(out++(⟨#[44]⟩:ByteArray)).size+v15.size≤9223372036854775807 then
     F.f29 w c' ((out++(⟨#[44]⟩:ByteArray))++v15) (i+1)
    else none
   else none
 else
  some out
 partial_fixpoint
def F.f30 (w:List Vl.Data)(c':Ctor):Option (ByteArray):=
 (F.f29 w c' c'.name 0)>>=fun o'=>
 if 0<c'.args.length then
  if o'.size+(⟨#[41]⟩:ByteArray).size≤9223372036854775807 then
   if 0<c'.index then
    if(o'++(⟨#[41]⟩:ByteArray)).size+(⟨#[58]⟩:ByteArray).size≤9223372036854775807 then
     (F.f26 c'.index)>>=fun v27=>
     if((o'++(⟨#[41]⟩:ByteArray))++(⟨#[58]⟩:ByteArray)).size+v27.size≤9223372036854775807 then
      some (((o'++(⟨#[41]⟩:ByteArray))++(⟨#[58]⟩:ByteArray))++v27)
     else none
    else none
   else
    some (o'++(⟨#[41]⟩:ByteArray))
  else none
 else
  if 0<c'.index then
   if o'.size+(⟨#[58]⟩:ByteArray).size≤9223372036854775807 then
    (F.f26 c'.index)>>=fun v33=>
    if(o'++(⟨#[58]⟩:ByteArray)).size+v33.size≤9223372036854775807 then
     some ((o'++(⟨#[58]⟩:ByteArray))++v33)
    else none
   else none
  else
   some o'
def F.f31 (w:List Vl.Data)(d:Nat)(out11:ByteArray)(k:Nat):Option (ByteArray):=
 (w[d]?)>>=fun x12=>
 if k<x12.ctors.length then
  if 0<k then
   if out11.size+(⟨#[124]⟩:ByteArray).size≤9223372036854775807 then
    (x12.ctors[k]?)>>=fun x21=>
    (F.f30 w x21)>>=fun v=>
    if(out11++(⟨#[124]⟩:ByteArray)).size+v.size≤9223372036854775807 then
     if k+1≤9223372036854775807 then
      F.f31 w d ((out11++(⟨#[124]⟩:ByteArray))++v) (k+1)
     else none
    else none
   else none
  else
   (x12.ctors[k]?)>>=fun x27=>
   (F.f30 w x27)>>=fun v29=>
   if out11.size+v29.size≤9223372036854775807 then
    if k+1≤9223372036854775807 then
     F.f31 w d (out11++v29) (k+1)
    else none
   else none
 else
  some out11
 partial_fixpoint
def F.f32 (w:List Vl.Data)(d:Nat)(out41:ByteArray)(k42:Nat):Option (ByteArray):=
 (w[d]?)>>=fun x43=>
 if k42<x43.ctors.length then
  if 0<k42 then
   if out41.size+(⟨#[124]⟩:ByteArray).size≤9223372036854775807 then
    (x43.ctors[k42]?)>>=fun x52=>
    (F.f30 w x52)>>=fun v54=>
    if(out41++(⟨#[124]⟩:ByteArray)).size+v54.size≤9223372036854775807 then
     if k42+1≤9223372036854775807 then
      F.f32 w d ((out41++(⟨#[124]⟩:ByteArray))++v54) (k42+1)
     else none
    else none
   else none
  else
   (x43.ctors[k42]?)>>=fun x59=>
   (F.f30 w x59)>>=fun v61=>
   if out41.size+v61.size≤9223372036854775807 then
    if k42+1≤9223372036854775807 then
     F.f32 w d (out41++v61) (k42+1)
    else none
   else none
 else
  some out41
 partial_fixpoint
def F.f33 (w:List Vl.Data)(out:ByteArray)(d:Nat):Option (ByteArray):=
 if d<w.length then
  if 0<d then
   if out.size+(⟨#[59]⟩:ByteArray).size≤9223372036854775807 then
    (w[d]?)>>=fun x=>
    if(out++(⟨#[59]⟩:ByteArray)).size+x.name.size≤9223372036854775807 then
     if((out++(⟨#[59]⟩:ByteArray))++x.name).size+(⟨#[61]⟩:ByteArray).size≤9223372036854775807 then
      (F.f31 w d (((out++(⟨#[59]⟩:ByteArray))++x.name)++(⟨#[61]⟩:ByteArray)) 0)>>=fun o'=>
      if d+1≤9223372036854775807 then
       F.f33 w o' (d+1)
      else none
     else none
    else none
   else none
  else
   (w[d]?)>>=fun x37=>
   if out.size+x37.name.size≤9223372036854775807 then
    if(out++x37.name).size+(⟨#[61]⟩:ByteArray).size≤9223372036854775807 then
     (F.f32 w d ((out++x37.name)++(⟨#[61]⟩:ByteArray)) 0)>>=fun o'67=>
     if d+1≤9223372036854775807 then
      F.f33 w o'67 (d+1)
     else none
    else none
   else none
 else
  some out
 partial_fixpoint
def F.f34 (w:List Vl.Data):Option (ByteArray):=
 (F.f33 w ByteArray.empty 0)>>=fun o'71=>
 some o'71
def F.f35 (text:ByteArray)(v:List ByteArray)(names:List ByteArray)(i:Nat):Option (Lo ((List Vl.Data)×Bool) (List ByteArray)):=
 if i<v.length then
  if i≤4 then
   if text.toList=ByteArray.empty.toList then
    some (.go names)
   else
    (v[i]?)>>=fun x=>
    (F.f3 x 61)>>=fun v11=>
    if v11.length=2 then
     (v11[0]?)>>=fun x16=>
     if names.length+1≤67108864 then
      F.f35 text v (names++[x16]) (i+1)
     else none
    else
     some (.ret ([],false))
  else
   some (.go names)
 else
  some (.go names)
 partial_fixpoint
def F.f36 (text:ByteArray)(v:List ByteArray)(out:List Vl.Data)(names21:List ByteArray)(i22:Nat)(v32:List ByteArray)(x34:ByteArray)(out36:List Ctor)(k:Nat):Option (List Ctor):=
 if k<v32.length then
  if k≤4 then
   (v32[k]?)>>=fun x43=>
   (F.f10 names21 x43)>>=fun v45=>
   if out36.length+1≤67108864 then
    F.f36 text v out names21 i22 v32 x34 (out36++[v45]) (k+1)
   else none
  else
   some out36
 else
  some out36
 partial_fixpoint
def F.f37 (text:ByteArray)(v:List ByteArray)(out:List Vl.Data)(names21:List ByteArray)(i22:Nat):Option (List Vl.Data):=
 if i22<names21.length then
  (v[i22]?)>>=fun x26=>
  (F.f3 x26 61)>>=fun v28=>
  (v28[1]?)>>=fun x30=>
  (F.f3 x30 124)>>=fun v32=>
  (names21[i22]?)>>=fun x34=>
  (F.f36 text v out names21 i22 v32 x34 [] 0)>>=fun o'50=>
  if out.length+1≤67108864 then
   if i22+1≤9223372036854775807 then
    F.f37 text v (out++[(⟨x34,o'50⟩:Vl.Data)]) names21 (i22+1)
   else none
  else none
 else
  some out
 partial_fixpoint
def F.f38 (text:ByteArray):Option ((List Vl.Data)×Bool):=
 (F.f3 text 59)>>=fun v=>
 (F.f35 text v [] 0)>>=fun o'=>
 match o' with
 | .ret r0=>some r0
 | .go sx=>
  (F.f37 text v [] sx 0)>>=fun o'55=>
  (F.f24 o'55)>>=fun v56=>
  if v56=true then
   (F.f34 o'55)>>=fun v60=>
   if v60.toList=text.toList then
    some (o'55,true)
   else
    some ([],false)
  else
   some ([],false)
def F.f39 (r':T_spec_l17Rd):Option ((List Vl.Data)×T_spec_l17Rd):=
 (F.f0)>>=fun v=>
 (F.f1 r' (IntKind.i64.wrap ((v.length:Int) -1)))>>=fun v2=>
 (at? v v2.1)>>=fun x=>
 (F.f38 x)>>=fun v5=>
 some (v5.1,v2.2)
def F.f40 (c':Ctor)(index':Int):Option (Bool):=
 if c'.index=0 then
  some true
 else
  if index'=0 then
   some true
  else
   some (decide (c'.index=index'))
def F.f41 (w:List Vl.Data)(t:Ty)(out:List Int)(k:Nat):Option (List Int):=
 (at? w t.data)>>=fun x=>
 if k<x.ctors.length then
  (x.ctors[k]?)>>=fun x7=>
  (F.f40 x7 t.index)>>=fun v=>
  if v=true then
   if out.length+1≤67108864 then
    if k+1≤9223372036854775807 then
     F.f41 w t (out++[(k:Int)]) (k+1)
    else none
   else none
  else
   if k+1≤9223372036854775807 then
    F.f41 w t out (k+1)
   else none
 else
  some out
 partial_fixpoint
def F.f42 (w:List Vl.Data)(t:Ty):Option (List Int):=
 if t.data=(-1)then
  some []
 else
  (F.f41 w t [] 0)>>=fun o'=>
  some o'
def F.f43 (c':Ctor)(index':Int):Option (Int):=
 if c'.index=0 then
  some index'
 else
  some c'.index
def F.f44 (t:Ty)(x2:Ctor)(out:List Ty)(i:Nat):Option (List Ty):=
 if i<x2.args.length then
  (x2.args[i]?)>>=fun x7=>
  if x7.index=(-1)then
   (F.f43 x2 t.index)>>=fun v=>
   if out.length+1≤67108864 then
    F.f44 t x2 (out++[(⟨x7.data,v⟩:Ty)]) (i+1)
   else none
  else
   if out.length+1≤67108864 then
    F.f44 t x2 (out++[x7]) (i+1)
   else none
 else
  some out
 partial_fixpoint
def F.f45 (w:List Vl.Data)(t:Ty)(ctor:Int):Option (List Ty):=
 (at? w t.data)>>=fun x=>
 (at? x.ctors ctor)>>=fun x2=>
 (F.f44 t x2 [] 0)>>=fun o'=>
 some o'
def F.f46 (t:Ty):Option (Int):=
 some (IntKind.i64.wrap (IntKind.i64.wrap (t.data*4)+t.index))
def F.f47 (table:List Int)(t:Ty):Option (Int):=
 if t.data=(-1)then
  some 1
 else
  (F.f46 t)>>=fun v=>
  (at? table v)>>=fun x=>
  some x
def F.f48 (table:List Int)(v:List Ty)(most:Int)(i:Nat):Option (Lo Int Int):=
 if i<v.length then
  (v[i]?)>>=fun x=>
  (F.f47 table x)>>=fun v6=>
  if v6=0 then
   some (.ret 0)
  else
   if most<v6 then
    F.f48 table v v6 (i+1)
   else
    F.f48 table v most (i+1)
 else
  some (.go most)
 partial_fixpoint
def F.f49 (w:List Vl.Data)(table:List Int)(t:Ty)(ctor:Int):Option (Int):=
 (F.f45 w t ctor)>>=fun v=>
 (F.f48 table v 0 0)>>=fun o'=>
 match o' with
 | .ret r0=>some r0
 | .go sx=>
  some (IntKind.i64.wrap (sx+1))
def F.f50 (w:List Vl.Data)(n:Nat)(s:Nat)(v:List Int)(table10:List Int)(i:Nat):Option (List Int):=
 if i<v.length then
  (v[i]?)>>=fun x=>
  (F.f49 w table10 (⟨IntKind.i64.wrap ((s:Int).tdiv 4),(s:Int).tmod 4⟩:Ty) x)>>=fun v15=>
  if 0<v15 then
   (table10[s]?)>>=fun x19=>
   if x19=0 then
    F.f50 w n s v (table10.set s v15) (i+1)
   else
    if v15<x19 then
     F.f50 w n s v (table10.set s v15) (i+1)
    else
     F.f50 w n s v table10 (i+1)
  else
   F.f50 w n s v table10 (i+1)
 else
  some table10
 partial_fixpoint
def F.f51 (w:List Vl.Data)(n:Nat)(table5:List Int)(s:Nat):Option (List Int):=
 if s<table5.length then
  (F.f42 w (⟨IntKind.i64.wrap ((s:Int).tdiv 4),(s:Int).tmod 4⟩:Ty))>>=fun v=>
  (F.f50 w n s v table5 0)>>=fun o'=>
  if s+1≤9223372036854775807 then
   F.f51 w n o' (s+1)
  else none
 else
  some table5
 partial_fixpoint
def F.f52 (w:List Vl.Data)(table:List Int)(n:Nat):Option (List Int):=
 if n≤table.length then
  (F.f51 w n table 0)>>=fun o'33=>
  if n+1≤9223372036854775807 then
   F.f52 w o'33 (n+1)
  else none
 else
  some table
 partial_fixpoint
def F.f53 (w:List Vl.Data):Option (List Int):=
 if 0≤IntKind.i64.wrap ((w.length:Int)*4)∧(IntKind.i64.wrap ((w.length:Int)*4)).toNat≤67108864 then
  (F.f52 w (List.replicate ((IntKind.i64.wrap ((w.length:Int)*4)).toNat) 0) 0)>>=fun o'37=>
  some o'37
 else none
def F.f54 (r':T_spec_l17Rd)(list:List Int):Option (Int×T_spec_l17Rd):=
 (F.f1 r' (list.length:Int))>>=fun v=>
 (at? list v.1)>>=fun x=>
 some (x,v.2)
def F.f55 (r':T_spec_l17Rd)(w:List Vl.Data)(table:List Int)(t:Ty)(depth:Int)(v4:List Int)(fine:List Int)(i:Nat):Option (List Int):=
 if i<v4.length then
  (v4[i]?)>>=fun x=>
  (F.f49 w table t x)>>=fun v10=>
  if 0<v10 then
   if v10≤depth then
    if fine.length+1≤67108864 then
     F.f55 r' w table t depth v4 (fine++[x]) (i+1)
    else none
   else
    (F.f47 table t)>>=fun v16=>
    if v10=v16 then
     if fine.length+1≤67108864 then
      F.f55 r' w table t depth v4 (fine++[x]) (i+1)
     else none
    else
     F.f55 r' w table t depth v4 fine (i+1)
  else
   F.f55 r' w table t depth v4 fine (i+1)
 else
  some fine
 partial_fixpoint
mutual
def F.f56 (r':T_spec_l17Rd)(w:List Vl.Data)(table:List Int)(t:Ty)(depth:Int):Option (Vl.Value×T_spec_l17Rd):=
 if t.data=(-1)then
  (F.f1 r' 10)>>=fun v=>
  some ((⟨(-1),v.1,[]⟩:Vl.Value),v.2)
 else
  (F.f42 w t)>>=fun v4=>
  (F.f55 r' w table t depth v4 [] 0)>>=fun o'=>
  (F.f1 r' (o'.length:Int))>>=fun v27=>
  (at? o' v27.1)>>=fun x29=>
  (F.f45 w t x29)>>=fun v31=>
  (F.f57 w table depth x29 v31 v27.2.f0 v27.2.f1 [] 0)>>=fun o'45=>
  some ((⟨x29,0,o'45.2.2⟩:Vl.Value),(⟨o'45.1,o'45.2.1⟩:T_spec_l17Rd))
 partial_fixpoint
def F.f57 (w:List Vl.Data)(table:List Int)(depth:Int)(x29:Int)(v31:List Ty)(z:List Int)(z33:Int)(out:List Vl.Value)(i34:Nat):Option ((List Int)×Int×(List Vl.Value)):=
 if i34<v31.length then
  (v31[i34]?)>>=fun x38=>
  (F.f56 (⟨z,z33⟩:T_spec_l17Rd) w table x38 (IntKind.i64.wrap (depth-1)))>>=fun v40=>
  if out.length+1≤67108864 then
   F.f57 w table depth x29 v31 v40.2.f0 v40.2.f1 (out++[v40.1]) (i34+1)
  else none
 else
  some (z,z33,out)
 partial_fixpoint
end
def F.f58 (r':T_spec_l17Rd):Option ((List Vl.Data)×Ty×Vl.Value×T_spec_l17Rd):=
 (F.f39 r')>>=fun v=>
 (F.f53 v.1)>>=fun v2=>
 (F.f1 v.2 (v.1.length:Int))>>=fun v4=>
 (F.f54 v4.2 [0,0,1,2])>>=fun v6=>
 (F.f47 v2 (⟨v4.1,v6.1⟩:Ty))>>=fun v8=>
 if v8=0 then
  (F.f54 v6.2 [3,2,4,1])>>=fun v12=>
  (F.f56 v12.2 v.1 v2 (⟨(-1),0⟩:Ty) v12.1)>>=fun v14=>
  some (v.1,(⟨(-1),0⟩:Ty),v14.1,v14.2)
 else
  (F.f54 v6.2 [3,2,4,1])>>=fun v16=>
  (F.f56 v16.2 v.1 v2 (⟨v4.1,v6.1⟩:Ty) v16.1)>>=fun v18=>
  some (v.1,(⟨v4.1,v6.1⟩:Ty),v18.1,v18.2)
def F.f59 (r':T_spec_l17Rd)(w:List Vl.Data):Option (Ty×T_spec_l17Rd):=
 (F.f1 r' 16)>>=fun v=>
 if v.1=0 then
  (F.f54 v.2 [(-1),(-2),9,0])>>=fun v4=>
  (F.f54 v4.2 [0,1,(-1),4])>>=fun v6=>
  some ((⟨v4.1,v6.1⟩:Ty),v6.2)
 else
  (F.f1 v.2 8)>>=fun v8=>
  if v8.1=0 then
   some ((⟨(-1),0⟩:Ty),v8.2)
  else
   (F.f1 v8.2 (w.length:Int))>>=fun v12=>
   (F.f54 v12.2 [0,0,1,2,0,3])>>=fun v14=>
   some ((⟨v12.1,v14.1⟩:Ty),v14.2)
def F.f60 (w:List Vl.Data)(out:List Vl.Data)(d:Nat)(x:Vl.Data)(out7:List Ctor)(k:Nat):Option (List Ctor):=
 (w[d]?)>>=fun x14=>
 if k<x14.ctors.length then
  (x14.ctors[k]?)>>=fun x19=>
  if x19.args.length≤67108864 then
   if out7.length+1≤67108864 then
    if k+1≤9223372036854775807 then
     F.f60 w out d x (out7++[x19]) (k+1)
    else none
   else none
  else none
 else
  some out7
 partial_fixpoint
def F.f61 (w:List Vl.Data)(out:List Vl.Data)(d:Nat):Option (List Vl.Data):=
 if d<w.length then
  (w[d]?)>>=fun x=>
  (F.f60 w out d x [] 0)>>=fun o'=>
  if out.length+1≤67108864 then
   if d+1≤9223372036854775807 then
    F.f61 w (out++[(⟨x.name,o'⟩:Vl.Data)]) (d+1)
   else none
  else none
 else
  some out
 partial_fixpoint
def F.f62 (w:List Vl.Data):Option (List Vl.Data):=
 (F.f61 w [] 0)>>=fun o'32=>
 some o'32
def F.f63 (r':T_spec_l17Rd)(list:List ByteArray):Option (ByteArray×T_spec_l17Rd):=
 (F.f1 r' (list.length:Int))>>=fun v=>
 (at? list v.1)>>=fun x=>
 some (x,v.2)
def F.f64 (r':T_spec_l17Rd)(w:List Vl.Data):Option ((List Vl.Data)×T_spec_l17Rd):=
 (F.f62 w)>>=fun v=>
 (F.f1 r' (v.length:Int))>>=fun v3=>
 (at? v v3.1)>>=fun x=>
 if x.ctors.length=0 then
  some (v,v3.2)
 else
  (x.ctors[0]?)>>=fun c=>
  (F.f1 v3.2 30)>>=fun v5=>
  if v5.1=0 then
   (F.f63 v5.2 [(⟨#[73]⟩:ByteArray),ByteArray.empty,(⟨#[97]⟩:ByteArray),(⟨#[76,76]⟩:ByteArray),(⟨#[90]⟩:ByteArray)])>>=fun v7=>
   some (v.set v3.1.toNat (⟨v7.1,x.ctors⟩:Vl.Data),v7.2)
  else
   if v5.1=1 then
    some (v.set v3.1.toNat (⟨x.name,[]⟩:Vl.Data),v5.2)
   else
    if v5.1=2 then
     (F.f63 v5.2 [ByteArray.empty,(⟨#[110,105,108]⟩:ByteArray),(⟨#[84,111,111,108,111,110,103]⟩:ByteArray),(⟨#[88]⟩:ByteArray)])>>=fun v9=>
     some (v.set v3.1.toNat (⟨x.name,x.ctors.set 0 (⟨v9.1,c.args,c.index⟩:Ctor)⟩:Vl.Data),v9.2)
    else
     if v5.1=3 then
      (F.f54 v5.2 [9,(-2),0,(-1)])>>=fun v11=>
      (F.f54 v11.2 [0,4,(-1),(-2)])>>=fun v13=>
      if c.args.length+1≤67108864 then
       some (v.set v3.1.toNat (⟨x.name,x.ctors.set 0 (⟨c.name,c.args++[(⟨v11.1,v13.1⟩:Ty)],c.index⟩:Ctor)⟩:Vl.Data),v13.2)
      else none
     else
      if v5.1=4 then
       (F.f54 v5.2 [4,(-1),1])>>=fun v15=>
       some (v.set v3.1.toNat (⟨x.name,x.ctors.set 0 (⟨c.name,c.args,v15.1⟩:Ctor)⟩:Vl.Data),v15.2)
      else
       if v5.1=5 then
        if v.length+1≤67108864 then
         some (v++[x],v5.2)
        else none
       else
        some (v,v5.2)
def F.f65 (r':T_spec_l17Rd)(v:Vl.Value):Option (Vl.Value×T_spec_l17Rd):=
 if v.kids.length≤67108864 then
  (F.f1 r' 24)>>=fun v2=>
  if v2.1=0 then
   (F.f54 v2.2 [0,1,(-1),9,(-2)])>>=fun v6=>
   some ((⟨v6.1,v.n,v.kids⟩:Vl.Value),v6.2)
  else
   if v2.1=1 then
    (F.f54 v2.2 [10,(-1),1])>>=fun v10=>
    some ((⟨v.ctor,v10.1,v.kids⟩:Vl.Value),v10.2)
   else
    if v2.1=2 then
     if v.kids.length+1≤67108864 then
      some ((⟨v.ctor,v.n,v.kids++[(⟨(-1),0,[]⟩:Vl.Value)]⟩:Vl.Value),v2.2)
     else none
    else
     if v2.1=3 then
      if 0<v.kids.length then
       (v.kids[0]?)>>=fun x=>
       (F.f65 v2.2 x)>>=fun v21=>
       (F.f65 v21.2 v21.1)>>=fun v23=>
       some ((⟨v.ctor,v.n,v.kids.set 0 v23.1⟩:Vl.Value),v23.2)
      else
       some (v,v2.2)
     else
      some (v,v2.2)
 else none
 partial_fixpoint
def F.f66 (code:List Int):Option ((List Vl.Data)×Ty×Vl.Value):=
 if 2000<code.length then
  if 2000≤code.length then
   (F.f58 (⟨(code.drop 0).take (2000-0),0⟩:T_spec_l17Rd))>>=fun v=>
   (F.f1 v.2.2.2 8)>>=fun v6=>
   if v6.1=0 then
    (F.f59 v6.2 v.1)>>=fun v10=>
    (F.f64 v10.2 v.1)>>=fun v12=>
    (F.f65 v12.2 v.2.2.1)>>=fun v14=>
    some (v12.1,v10.1,v14.1)
   else
    (F.f64 v6.2 v.1)>>=fun v16=>
    (F.f65 v16.2 v.2.2.1)>>=fun v18=>
    some (v16.1,v.2.1,v18.1)
  else none
 else
  (F.f58 (⟨code,0⟩:T_spec_l17Rd))>>=fun v20=>
  (F.f1 v20.2.2.2 8)>>=fun v22=>
  if v22.1=0 then
   (F.f59 v22.2 v20.1)>>=fun v26=>
   (F.f64 v26.2 v20.1)>>=fun v28=>
   (F.f65 v28.2 v20.2.2.1)>>=fun v30=>
   some (v28.1,v26.1,v30.1)
  else
   (F.f64 v22.2 v20.1)>>=fun v32=>
   (F.f65 v32.2 v20.2.2.1)>>=fun v34=>
   some (v32.1,v20.2.1,v34.1)
def F.f67 (code:List Int):Option ((List Vl.Data)×Ty×Vl.Value):=
 (F.f66 code)>>=fun v=>
 some (v.1,v.2.1,v.2.2)
def F.f68 (n:Int)(low:Int)(high:Int):Option (Bool):=
 if low≤n then
  some (decide (n≤high))
 else
  some false
def F.f69 (s:ByteArray)(i:Nat):Option (Lo Bool Unit):=
 if i<s.size then
  if byteAt s i<97 then
   some (.ret false)
  else
   if 122<byteAt s i then
    some (.ret false)
   else
    if i+1≤9223372036854775807 then
     F.f69 s (i+1)
    else none
 else
  some (.go ())
 partial_fixpoint
def F.f70 (s:ByteArray):Option (Bool):=
 (F.f68 (s.size:Int) 1 5)>>=fun v=>
 if v=true then
  if 0<s.size then
   if byteAt s 0<65 then
    some false
   else
    if 90<byteAt s 0 then
     some false
    else
     (F.f69 s 1)>>=fun o'=>
     match o' with
     | .ret r0=>some r0
     | .go sx=>
      some true
  else none
 else
  some false
def F.f71 (w:List Vl.Data)(t:Ty):Option (Bool):=
 if dec (eq2 (t.data,t.index) ((-1),0))=true then
  some true
 else
  (F.f68 t.data 0 (IntKind.i64.wrap ((w.length:Int) -1)))>>=fun v=>
  if v=true then
   (F.f68 t.index (-1) 3)>>=fun v6=>
   some v6
  else
   some false
def F.f72 (t:Ty)(a1:List Vl.Data):Option (Bool):=
 (F.f71 a1 t)>>=fun v=>
 some (!v)
def F.f73 (s:List Ty)(k0:List Vl.Data)(i:Nat):Option (Lo Int Unit):=
 if i<s.length then
  (s[i]?)>>=fun x=>
  (F.f72 x k0)>>=fun v=>
  if v=true then
   some (.ret (i:Int))
  else
   F.f73 s k0 (i+1)
 else
  some (.go ())
 partial_fixpoint
def F.f74 (s:List Ty)(k0:List Vl.Data):Option (Int):=
 (F.f73 s k0 0)>>=fun o'=>
 match o' with
 | .ret r0=>some r0
 | .go sx=>
  some (-1)
def F.f75 (s:List Ty)(k0:List Vl.Data):Option (Bool):=
 (F.f74 s k0)>>=fun v=>
 some (decide (0≤v))
def F.f76 (w:List Vl.Data)(c':Ctor):Option (Bool):=
 (F.f70 c'.name)>>=fun v=>
 if v=true then
  if c'.args.length≤3 then
   (F.f68 c'.index 0 3)>>=fun v7=>
   if v7=true then
    (F.f75 c'.args w)>>=fun v11=>
    some (!v11)
   else
    some false
  else
   some false
 else
  some false
def F.f77 (w:List Vl.Data)(met4:List ByteArray)(i:Nat)(x:Vl.Data)(met26:List ByteArray)(i27:Nat):Option (Lo Bool (List ByteArray)):=
 if i27<x.ctors.length then
  (x.ctors[i27]?)>>=fun x31=>
  (F.f76 w x31)>>=fun v33=>
  if v33=true then
   if dec (x31.name∈met26)=true then
    some (.ret false)
   else
    F.f77 w met4 i x (msIns met26 x31.name) (i27+1)
  else
   some (.ret false)
 else
  some (.go met26)
 partial_fixpoint
def F.f78 (w:List Vl.Data)(met:List ByteArray)(met4:List ByteArray)(i:Nat):Option (Lo Bool ((List ByteArray)×(List ByteArray))):=
 if i<w.length then
  (w[i]?)>>=fun x=>
  if x.name.size=1 then
   if 0<x.name.size then
    if byteAt x.name 0<65 then
     some (.ret false)
    else
     if 90<byteAt x.name 0 then
      some (.ret false)
     else
      if x.name.toList=(⟨#[73]⟩:ByteArray).toList then
       some (.ret false)
      else
       if dec (x.name∈met4)=true then
        some (.ret false)
       else
        (F.f68 (x.ctors.length:Int) 1 4)>>=fun v=>
        if v=true then
         (F.f77 w met4 i x met 0)>>=fun o'=>
         match o' with
         | .ret r0=>some (.ret r0)
         | .go sx=>
          if i+1≤9223372036854775807 then
           F.f78 w sx (msIns met4 x.name) (i+1)
          else none
        else
         some (.ret false)
   else none
  else
   some (.ret false)
 else
  some (.go (met,met4))
 partial_fixpoint
def F.f79 (w:List Vl.Data):Option (Bool):=
 if 4<w.length then
  some false
 else
  (F.f78 w [] [] 0)>>=fun o'44=>
  match o'44 with
  | .ret r046=>some r046
  | .go sx45=>
   some true
def F.f80 (w:List Vl.Data)(t:Ty):Option (Bool):=
 if dec (eq2 (t.data,t.index) ((-1),0))=true then
  some true
 else
  (F.f68 t.data 0 (IntKind.i64.wrap ((w.length:Int) -1)))>>=fun v=>
  if v=true then
   (F.f68 t.index 0 3)>>=fun v6=>
   some v6
  else
   some false
def F.f81 (w:List Vl.Data)(t:Ty):Option (Bool):=
 (F.f79 w)>>=fun v=>
 if v=true then
  (F.f80 w t)>>=fun v4=>
  some v4
 else
  some false
def F.f82 (t:Ty)(x:Vl.Data)(i:Nat)(out:List Int):Option (List Int):=
 if i<x.ctors.length then
  (x.ctors[i]?)>>=fun x7=>
  if t.index=0 then
   if out.length+1≤67108864 then
    F.f82 t x (i+1) (out++[(i:Int)])
   else none
  else
   if x7.index=0 then
    if out.length+1≤67108864 then
     F.f82 t x (i+1) (out++[(i:Int)])
    else none
   else
    if x7.index=t.index then
     if out.length+1≤67108864 then
      F.f82 t x (i+1) (out++[(i:Int)])
     else none
    else
     F.f82 t x (i+1) out
 else
  some out
 partial_fixpoint
def F.f83 (w:List Vl.Data)(t:Ty):Option (List Int):=
 if t.data=(-1)then
  some []
 else
  (at? w t.data)>>=fun x=>
  (F.f82 t x 0 [])>>=fun o'=>
  some o'
def F.f84 (s:List Int)(v:Int)(i:Nat):Option (Lo Int Unit):=
 if i<s.length then
  (s[i]?)>>=fun x=>
  if v=x then
   some (.ret (i:Int))
  else
   F.f84 s v (i+1)
 else
  some (.go ())
 partial_fixpoint
def F.f85 (s:List Int)(v:Int):Option (Int):=
 (F.f84 s v 0)>>=fun o'=>
 match o' with
 | .ret r0=>some r0
 | .go sx=>
  some (-1)
def F.f86 (s:List Int)(v:Int):Option (Bool):=
 (F.f85 s v)>>=fun v1=>
 some (decide (0≤v1))
def F.f87 (t:Ty)(x2:Ctor)(i:Nat)(out:List Ty):Option (List Ty):=
 if i<x2.args.length then
  (x2.args[i]?)>>=fun x9=>
  if x9.index=(-1)then
   if out.length+1≤67108864 then
    F.f87 t x2 (i+1) (out++[(⟨x9.data,t.index⟩:Ty)])
   else none
  else
   if out.length+1≤67108864 then
    F.f87 t x2 (i+1) (out++[x9])
   else none
 else
  some out
 partial_fixpoint
def F.f88 (x2:Ctor)(i18:Nat)(out19:List Ty):Option (List Ty):=
 if i18<x2.args.length then
  (x2.args[i18]?)>>=fun x23=>
  if x23.index=(-1)then
   if out19.length+1≤67108864 then
    F.f88 x2 (i18+1) (out19++[(⟨x23.data,x2.index⟩:Ty)])
   else none
  else
   if out19.length+1≤67108864 then
    F.f88 x2 (i18+1) (out19++[x23])
   else none
 else
  some out19
 partial_fixpoint
def F.f89 (w:List Vl.Data)(t:Ty)(ctor:Int):Option (List Ty):=
 (at? w t.data)>>=fun x=>
 (at? x.ctors ctor)>>=fun x2=>
 if x2.index=0 then
  (F.f87 t x2 0 [])>>=fun o'=>
  some o'
 else
  (F.f88 x2 0 [])>>=fun o'32=>
  some o'32
mutual
def F.f90 (w:List Vl.Data)(t:Ty)(v:Vl.Value)(deep:Int)(holes:Bool)(count:Int):Option (Bool×Int):=
 if 60<IntKind.i64.wrap (count+1)then
  some (false,IntKind.i64.wrap (count+1))
 else
  if 10<deep then
   some (false,IntKind.i64.wrap (count+1))
  else
   if holes=true then
    if v.ctor=(-2)then
     if v.n=0 then
      some (decide (v.kids.length=0),IntKind.i64.wrap (count+1))
     else
      some (false,IntKind.i64.wrap (count+1))
    else
     if t.data=(-1)then
      if v.ctor=(-1)then
       (F.f68 v.n 0 9)>>=fun v15=>
       if v15=true then
        some (decide (v.kids.length=0),IntKind.i64.wrap (count+1))
       else
        some (false,IntKind.i64.wrap (count+1))
      else
       some (false,IntKind.i64.wrap (count+1))
     else
      if v.n=0 then
       (F.f83 w t)>>=fun v21=>
       (F.f86 v21 v.ctor)>>=fun v23=>
       if v23=true then
        (F.f89 w t v.ctor)>>=fun v27=>
        if v27.length=v.kids.length then
         (F.f91 w v deep holes v27 (IntKind.i64.wrap (count+1)) 0)>>=fun o'=>
         match o' with
         | .ret r0=>some r0
         | .go sx=>
          some (true,sx)
        else
         some (false,IntKind.i64.wrap (count+1))
       else
        some (false,IntKind.i64.wrap (count+1))
      else
       some (false,IntKind.i64.wrap (count+1))
   else
    if t.data=(-1)then
     if v.ctor=(-1)then
      (F.f68 v.n 0 9)>>=fun v48=>
      if v48=true then
       some (decide (v.kids.length=0),IntKind.i64.wrap (count+1))
      else
       some (false,IntKind.i64.wrap (count+1))
     else
      some (false,IntKind.i64.wrap (count+1))
    else
     if v.n=0 then
      (F.f83 w t)>>=fun v54=>
      (F.f86 v54 v.ctor)>>=fun v56=>
      if v56=true then
       (F.f89 w t v.ctor)>>=fun v60=>
       if v60.length=v.kids.length then
        (F.f92 w v deep holes v60 (IntKind.i64.wrap (count+1)) 0)>>=fun o'80=>
        match o'80 with
        | .ret r082=>some r082
        | .go sx81=>
         some (true,sx81)
       else
        some (false,IntKind.i64.wrap (count+1))
      else
       some (false,IntKind.i64.wrap (count+1))
     else
      some (false,IntKind.i64.wrap (count+1))
 partial_fixpoint
def F.f91 (w:List Vl.Data)(v:Vl.Value)(deep:Int)(holes:Bool)(v27:List Ty)(z:Int)(i:Nat):Option (Lo (Bool×Int) Int):=
 if i<v.kids.length then
  (v.kids[i]?)>>=fun x=>
  (v27[i]?)>>=fun x36=>
  (F.f90 w x36 x (IntKind.i64.wrap (deep+1)) holes z)>>=fun v38=>
  if v38.1=true then
   F.f91 w v deep holes v27 v38.2 (i+1)
  else
   some (.ret (false,v38.2))
 else
  some (.go z)
 partial_fixpoint
def F.f92 (w:List Vl.Data)(v:Vl.Value)(deep:Int)(holes:Bool)(v60:List Ty)(z65:Int)(i66:Nat):Option (Lo (Bool×Int) Int):=
 if i66<v.kids.length then
  (v.kids[i66]?)>>=fun x70=>
  (v60[i66]?)>>=fun x72=>
  (F.f90 w x72 x70 (IntKind.i64.wrap (deep+1)) holes z65)>>=fun v74=>
  if v74.1=true then
   F.f92 w v deep holes v60 v74.2 (i66+1)
  else
   some (.ret (false,v74.2))
 else
  some (.go z65)
 partial_fixpoint
end
def F.f93 (w:List Vl.Data)(t:Ty)(v:Vl.Value):Option (Bool):=
 (F.f90 w t v 1 false 0)>>=fun v1=>
 some v1.1
def F.f94 (w:List Vl.Data)(t:Ty)(v:Vl.Value):Option (Bool):=
 (F.f81 w t)>>=fun v1=>
 if v1=true then
  (F.f93 w t v)>>=fun v5=>
  some v5
 else
  some false
mutual
def F.f95 (v:Vl.Value):Option (Vl.Expr):=
 if v.ctor=(-1)then
  some (⟨1,v.n,0,[]⟩:Vl.Expr)
 else
  (F.f96 v [] 0)>>=fun o'=>
  some (⟨3,0,v.ctor,o'⟩:Vl.Expr)
 partial_fixpoint
def F.f96 (v:Vl.Value)(out:List Vl.Expr)(i:Nat):Option (List Vl.Expr):=
 if i<v.kids.length then
  (v.kids[i]?)>>=fun x=>
  (F.f95 x)>>=fun v7=>
  if out.length+1≤67108864 then
   F.f96 v (out++[v7]) (i+1)
  else none
 else
  some out
 partial_fixpoint
end
def F.f97 (w:List Vl.Data)(t:Ty)(v:Vl.Value):Option (Vl.Expr×Bool):=
 (F.f94 w t v)>>=fun v1=>
 if v1=true then
  (F.f95 v)>>=fun v5=>
  some (v5,true)
 else
  some ((⟨0,0,0,[]⟩:Vl.Expr),false)
def F.f98 (w:List Vl.Data)(t:Ty):Option (Bool):=
 (F.f15 (w.length:Int) t)>>=fun v=>
 if v=true then
  some (decide (0≤t.index))
 else
  some false
def F.f99 (w:List Vl.Data)(t:Ty):Option (Bool):=
 (F.f24 w)>>=fun v=>
 if v=true then
  (F.f98 w t)>>=fun v4=>
  some v4
 else
  some false
def F.f100 (list:List Int)(n:Int)(i:Nat):Option (Lo Bool Unit):=
 if i<list.length then
  (list[i]?)>>=fun x=>
  if x=n then
   some (.ret true)
  else
   F.f100 list n (i+1)
 else
  some (.go ())
 partial_fixpoint
def F.f101 (list:List Int)(n:Int):Option (Bool):=
 (F.f100 list n 0)>>=fun o'=>
 match o' with
 | .ret r0=>some r0
 | .go sx=>
  some false
mutual
def F.f102 (w:List Vl.Data)(t:Ty)(v:Vl.Value)(depth:Int):Option (Bool):=
 if depth<1 then
  some false
 else
  if t.data=(-1)then
   if v.ctor=(-1)then
    if 0≤v.n then
     if v.n≤9 then
      some (decide (v.kids.length=0))
     else
      some false
    else
     some false
   else
    some false
  else
   if v.n=0 then
    (F.f42 w t)>>=fun v13=>
    (F.f101 v13 v.ctor)>>=fun v15=>
    if v15=true then
     (F.f45 w t v.ctor)>>=fun v19=>
     if v.kids.length=v19.length then
      (F.f103 w v depth v19 0)>>=fun o'=>
      match o' with
      | .ret r0=>some r0
      | .go sx=>
       some true
     else
      some false
    else
     some false
   else
    some false
 partial_fixpoint
def F.f103 (w:List Vl.Data)(v:Vl.Value)(depth:Int)(v19:List Ty)(i:Nat):Option (Lo Bool Unit):=
 if i<v19.length then
  (v19[i]?)>>=fun x=>
  (v.kids[i]?)>>=fun x28=>
  (F.f102 w x x28 (IntKind.i64.wrap (depth-1)))>>=fun v30=>
  if v30=true then
   F.f103 w v depth v19 (i+1)
  else
   some (.ret false)
 else
  some (.go ())
 partial_fixpoint
end
mutual
def F.f104 (v:Vl.Value)(most:Int):Option (Int):=
 (F.f105 v most 1 0)>>=fun o'=>
 some o'
 partial_fixpoint
def F.f105 (v:Vl.Value)(most:Int)(n:Int)(i:Nat):Option (Int):=
 if i<v.kids.length then
  if n≤most then
   (v.kids[i]?)>>=fun x=>
   (F.f104 x (IntKind.i64.wrap (most-n)))>>=fun v7=>
   F.f105 v most (IntKind.i64.wrap (n+v7)) (i+1)
  else
   some n
 else
  some n
 partial_fixpoint
end
def F.f106 (w:List Vl.Data)(t:Ty)(v:Vl.Value):Option (Bool):=
 (F.f102 w t v 10)>>=fun v1=>
 if v1=true then
  (F.f104 v 60)>>=fun v5=>
  some (decide (v5≤60))
 else
  some false
def F.f107 (w:List Vl.Data)(t:Ty)(v:Vl.Value):Option (Bool):=
 (F.f99 w t)>>=fun v1=>
 if v1=true then
  (F.f106 w t v)>>=fun v5=>
  some v5
 else
  some false
mutual
def F.f108 (v:Vl.Value):Option (Vl.Expr):=
 if v.ctor=(-1)then
  some (⟨1,v.n,0,[]⟩:Vl.Expr)
 else
  (F.f109 v [] 0)>>=fun o'=>
  some (⟨3,0,v.ctor,o'⟩:Vl.Expr)
 partial_fixpoint
def F.f109 (v:Vl.Value)(out:List Vl.Expr)(i:Nat):Option (List Vl.Expr):=
 if i<v.kids.length then
  (v.kids[i]?)>>=fun x=>
  (F.f108 x)>>=fun v7=>
  if out.length+1≤67108864 then
   F.f109 v (out++[v7]) (i+1)
  else none
 else
  some out
 partial_fixpoint
end
def F.f110 (w:List Vl.Data)(t:Ty)(v:Vl.Value):Option (Vl.Expr×Bool):=
 (F.f107 w t v)>>=fun v1=>
 if v1=true then
  (F.f108 v)>>=fun v5=>
  some (v5,true)
 else
  some ((⟨0,0,0,[]⟩:Vl.Expr),false)
mutual
def F.f111 (a:Vl.Expr)(b:Vl.Expr):Option (Bool):=
 if a.op=b.op then
  if a.n=b.n then
   if a.ctor=b.ctor then
    (F.f112 a.kids b.kids)>>=fun v=>
    some v
   else
    some false
  else
   some false
 else
  some false
 partial_fixpoint
def F.f112 (s1:List Vl.Expr)(s2:List Vl.Expr):Option (Bool):=
 if s1.length=s2.length then
  (F.f113 s1 s2 0)>>=fun o'=>
  match o' with
  | .ret r0=>some r0
  | .go sx=>
   some true
 else
  some false
 partial_fixpoint
def F.f113 (s1:List Vl.Expr)(s2:List Vl.Expr)(i:Nat):Option (Lo Bool Unit):=
 if i<s1.length then
  (s1[i]?)>>=fun x=>
  (s2[i]?)>>=fun x8=>
  (F.f111 x x8)>>=fun v=>
  if v=true then
   F.f113 s1 s2 (i+1)
  else
   some (.ret false)
 else
  some (.go ())
 partial_fixpoint
end
def F.f114 (f:FunType)(a1:T_impl_scope):Option (Bool):=
 (F.f80 a1.f0 f.arg)>>=fun v=>
 if v=true then
  (F.f80 a1.f0 f.res)>>=fun v4=>
  some (!v4)
 else
  some true
def F.f115 (s:List FunType)(k0:T_impl_scope)(i:Nat):Option (Lo Int Unit):=
 if i<s.length then
  (s[i]?)>>=fun x=>
  (F.f114 x k0)>>=fun v=>
  if v=true then
   some (.ret (i:Int))
  else
   F.f115 s k0 (i+1)
 else
  some (.go ())
 partial_fixpoint
def F.f116 (s:List FunType)(k0:T_impl_scope):Option (Int):=
 (F.f115 s k0 0)>>=fun o'=>
 match o' with
 | .ret r0=>some r0
 | .go sx=>
  some (-1)
def F.f117 (s:List FunType)(k0:T_impl_scope):Option (Bool):=
 (F.f116 s k0)>>=fun v=>
 some (decide (0≤v))
def F.f118 (v:Int):Option (Bool):=
 (F.f68 v 0 5)>>=fun v1=>
 some v1
def F.f119 (s:T_impl_scope)(set':Nat→Bool)(i:Nat):Option (Lo Bool Unit):=
 if i<s.f2.length then
  (s.f2[i]?)>>=fun x=>
  (F.f118 x.var)>>=fun v11=>
  if v11=true then
   if 0≤x.var∧x.var.toNat<6 then
    if set' x.var.toNat=true then
     some (.ret false)
    else
     (F.f80 s.f0 x.type)>>=fun v18=>
     if v18=true then
      F.f119 s (updF set' x.var.toNat true) (i+1)
     else
      some (.ret false)
   else none
  else
   some (.ret false)
 else
  some (.go ())
 partial_fixpoint
def F.f120 (s:T_impl_scope):Option (Bool):=
 if 4<s.f1.length then
  some false
 else
  (F.f117 s.f1 s)>>=fun v=>
  if v=true then
   some false
  else
   (F.f119 s (fun _=>false) 0)>>=fun o'=>
   match o' with
   | .ret r0=>some r0
   | .go sx=>
    some true
def F.f121 (x:VarType)(a1:Int):Option (Bool):=
 some (decide (x.var=a1))
def F.f122 (s:List VarType)(k0:Int)(i:Nat):Option (Lo Int Unit):=
 if i<s.length then
  (s[i]?)>>=fun x=>
  (F.f121 x k0)>>=fun v=>
  if v=true then
   some (.ret (i:Int))
  else
   F.f122 s k0 (i+1)
 else
  some (.go ())
 partial_fixpoint
def F.f123 (s:List VarType)(k0:Int):Option (Int):=
 (F.f122 s k0 0)>>=fun o'=>
 match o' with
 | .ret r0=>some r0
 | .go sx=>
  some (-1)
def F.f124 (s:T_impl_scope)(v:Int):Option (Ty×Bool):=
 (F.f123 s.f2 v)>>=fun v1=>
 if v1<0 then
  some ((⟨0,0⟩:Ty),false)
 else
  (at? s.f2 v1)>>=fun x=>
  some (x.type,true)
def F.f125 (a:Ty)(b:Ty):Option (Bool):=
 if a.data=b.data then
  if b.index=0 then
   some true
  else
   some (decide (a.index=b.index))
 else
  some false
def F.f126 (s:T_impl_scope)(t:Ty)(e:Vl.Expr):Option ((List Ty)×Bool):=
 if e.op=1 then
  if t.data=(-1)then
   (F.f68 e.n 0 9)>>=fun v=>
   if v=true then
    some ([],decide (e.ctor=0))
   else
    some ([],false)
  else
   some ([],false)
 else
  if e.op=2 then
   (F.f124 s e.n)>>=fun v10=>
   if v10.2=true then
    (F.f125 v10.1 t)>>=fun v14=>
    if v14=true then
     some ([],decide (e.ctor=0))
    else
     some ([],false)
   else
    some ([],false)
  else
   if e.op=3 then
    if e.n=0 then
     (F.f83 s.f0 t)>>=fun v22=>
     (F.f86 v22 e.ctor)>>=fun v24=>
     if v24=true then
      (F.f89 s.f0 t e.ctor)>>=fun v28=>
      some (v28,true)
     else
      some ([],false)
    else
     some ([],false)
   else
    if e.op=4 then
     if t.data=(-1)then
      if e.n=0 then
       some ([t,t],decide (e.ctor=0))
      else
       some ([t,t],false)
     else
      some ([t,t],false)
    else
     if e.op=5 then
      (F.f68 e.n 0 (IntKind.i64.wrap ((s.f1.length:Int) -1)))>>=fun v38=>
      if v38=true then
       if e.ctor=0 then
        (at? s.f1 e.n)>>=fun x=>
        (F.f125 x.res t)>>=fun v45=>
        some ([x.arg],v45)
       else
        some ([],false)
      else
       some ([],false)
     else
      some ([],false)
mutual
def F.f127 (s:T_impl_scope)(t:Ty)(e:Vl.Expr)(deep:Int)(count:Int):Option (Bool×Int):=
 if 60<IntKind.i64.wrap (count+1)then
  some (false,IntKind.i64.wrap (count+1))
 else
  if 10<deep then
   some (false,IntKind.i64.wrap (count+1))
  else
   (F.f126 s t e)>>=fun v=>
   if v.2=true then
    if v.1.length=e.kids.length then
     (F.f128 s e deep v (IntKind.i64.wrap (count+1)) 0)>>=fun o'=>
     match o' with
     | .ret r0=>some r0
     | .go sx=>
      some (true,sx)
    else
     some (false,IntKind.i64.wrap (count+1))
   else
    some (false,IntKind.i64.wrap (count+1))
 partial_fixpoint
def F.f128 (s:T_impl_scope)(e:Vl.Expr)(deep:Int)(v:(List Ty)×Bool)(z:Int)(i:Nat):Option (Lo (Bool×Int) Int):=
 if i<e.kids.length then
  (e.kids[i]?)>>=fun x=>
  (v.1[i]?)>>=fun x15=>
  (F.f127 s x15 x (IntKind.i64.wrap (deep+1)) z)>>=fun v17=>
  if v17.1=true then
   F.f128 s e deep v v17.2 (i+1)
  else
   some (.ret (false,v17.2))
 else
  some (.go z)
 partial_fixpoint
end
def F.f129 (s:T_impl_scope)(t:Ty)(e:Vl.Expr):Option (Bool):=
 (F.f127 s t e 1 0)>>=fun v=>
 some v.1
def F.f130 (w:List Vl.Data)(funs:List FunType)(vars:List VarType)(t:Ty)(e:Vl.Expr):Option (Bool):=
 (F.f81 w t)>>=fun v=>
 if v=true then
  (F.f120 (⟨w,funs,vars⟩:T_impl_scope))>>=fun v4=>
  if v4=true then
   (F.f129 (⟨w,funs,vars⟩:T_impl_scope) t e)>>=fun v8=>
   some v8
  else
   some false
 else
  some false
mutual
def F.f131 (e:Vl.Expr)(set':Nat→Bool):Option (Nat→Bool):=
 if e.op=5 then
  (F.f68 e.n 0 3)>>=fun v=>
  if v=true then
   if 0≤e.n∧e.n.toNat<4 then
    (F.f132 e (updF set' e.n.toNat true) 0)>>=fun o'=>
    some o'
   else none
  else
   (F.f133 e set' 0)>>=fun o'27=>
   some o'27
 else
  (F.f134 e set' 0)>>=fun o'39=>
  some o'39
 partial_fixpoint
def F.f132 (e:Vl.Expr)(set'7:Nat→Bool)(i:Nat):Option (Nat→Bool):=
 if i<e.kids.length then
  (e.kids[i]?)>>=fun x=>
  (F.f131 x set'7)>>=fun v12=>
  F.f132 e v12 (i+1)
 else
  some set'7
 partial_fixpoint
def F.f133 (e:Vl.Expr)(set'16:Nat→Bool)(i17:Nat):Option (Nat→Bool):=
 if i17<e.kids.length then
  (e.kids[i17]?)>>=fun x21=>
  (F.f131 x21 set'16)>>=fun v23=>
  F.f133 e v23 (i17+1)
 else
  some set'16
 partial_fixpoint
def F.f134 (e:Vl.Expr)(set'28:Nat→Bool)(i29:Nat):Option (Nat→Bool):=
 if i29<e.kids.length then
  (e.kids[i29]?)>>=fun x33=>
  (F.f131 x33 set'28)>>=fun v35=>
  F.f134 e v35 (i29+1)
 else
  some set'28
 partial_fixpoint
end
def F.f135 (v:Nat→Bool)(i:Nat)(out:List Int):Option (List Int):=
 if i<4 then
  if v i=true then
   if out.length+1≤67108864 then
    if i+1≤9223372036854775807 then
     F.f135 v (i+1) (out++[(i:Int)])
    else none
   else none
  else
   if i+1≤9223372036854775807 then
    F.f135 v (i+1) out
   else none
 else
  some out
 partial_fixpoint
def F.f136 (e:Vl.Expr):Option (List Int):=
 (F.f131 e (fun _=>false))>>=fun v=>
 (F.f135 v 0 [])>>=fun o'=>
 some o'
def F.f137 (i:Int):Option (ByteArray):=
 if 0≤i∧i<100 then
  some (itoaB i)
 else none
def F.f138 (v:Int):Option (ByteArray):=
 some (strB [IntKind.u8.wrap (IntKind.i64.wrap (97+v))])
def F.f139 (elems:List ByteArray)(sep:ByteArray):Option (ByteArray):=
 if joinOk elems sep then
  some (joinB elems sep)
 else none
def F.f140 (list:List ByteArray):Option (ByteArray):=
 if list.length=0 then
  some ByteArray.empty
 else
  (F.f139 list (⟨#[44]⟩:ByteArray))>>=fun v=>
  if(⟨#[40]⟩:ByteArray).size+v.size≤9223372036854775807 then
   if((⟨#[40]⟩:ByteArray)++v).size+(⟨#[41]⟩:ByteArray).size≤9223372036854775807 then
    some (((⟨#[40]⟩:ByteArray)++v)++(⟨#[41]⟩:ByteArray))
   else none
  else none
mutual
def F.f141 (s:T_impl_scope)(t:Ty)(e:Vl.Expr):Option (ByteArray):=
 (F.f126 s t e)>>=fun v=>
 (F.f142 s t e v 0 [])>>=fun o'=>
 if e.op=1 then
  (F.f137 e.n)>>=fun v15=>
  some v15
 else
  if e.op=2 then
   (F.f138 e.n)>>=fun v19=>
   some v19
  else
   if e.op=3 then
    (at? s.f0 t.data)>>=fun x23=>
    (at? x23.ctors e.ctor)>>=fun x25=>
    (F.f140 o')>>=fun v27=>
    if x25.name.size+v27.size≤9223372036854775807 then
     some (x25.name++v27)
    else none
   else
    if e.op=4 then
     (F.f140 o')>>=fun v32=>
     if(⟨#[43]⟩:ByteArray).size+v32.size≤9223372036854775807 then
      some ((⟨#[43]⟩:ByteArray)++v32)
     else none
    else
     (F.f137 e.n)>>=fun v35=>
     if(⟨#[35]⟩:ByteArray).size+v35.size≤9223372036854775807 then
      (F.f140 o')>>=fun v38=>
      if((⟨#[35]⟩:ByteArray)++v35).size+v38.size≤9223372036854775807 then
       some (((⟨#[35]⟩:ByteArray)++v35)++v38)
      else none
     else none
 partial_fixpoint
def F.f142 (s:T_impl_scope)(t:Ty)(e:Vl.Expr)(v:(List Ty)×Bool)(i:Nat)(kids:List ByteArray):Option (List ByteArray):=
 if i<e.kids.length then
  (e.kids[i]?)>>=fun x=>
  (v.1[i]?)>>=fun x6=>
  (F.f141 s x6 x)>>=fun v8=>
  if kids.length+1≤67108864 then
   F.f142 s t e v (i+1) (kids++[v8])
  else none
 else
  some kids
 partial_fixpoint
end
def F.f143 (w:List Vl.Data)(funs:List FunType)(vars:List VarType)(t:Ty)(e:Vl.Expr):Option (ByteArray):=
 (F.f130 w funs vars t e)>>=fun v=>
 if v=true then
  (F.f141 (⟨w,funs,vars⟩:T_impl_scope) t e)>>=fun v4=>
  some v4
 else
  some ByteArray.empty
mutual
def F.f144 (w:List Vl.Data)(t:Ty)(v:Vl.Value):Option (ByteArray):=
 if v.ctor=(-1)then
  (F.f137 v.n)>>=fun v3=>
  some v3
 else
  (F.f89 w t v.ctor)>>=fun v5=>
  (F.f145 w t v v5 0 [])>>=fun o'=>
  (at? w t.data)>>=fun x18=>
  (at? x18.ctors v.ctor)>>=fun x20=>
  (F.f140 o')>>=fun v22=>
  if x20.name.size+v22.size≤9223372036854775807 then
   some (x20.name++v22)
  else none
 partial_fixpoint
def F.f145 (w:List Vl.Data)(t:Ty)(v:Vl.Value)(v5:List Ty)(i:Nat)(kids:List ByteArray):Option (List ByteArray):=
 if i<v.kids.length then
  (v.kids[i]?)>>=fun x=>
  (v5[i]?)>>=fun x11=>
  (F.f144 w x11 x)>>=fun v13=>
  if kids.length+1≤67108864 then
   F.f145 w t v v5 (i+1) (kids++[v13])
  else none
 else
  some kids
 partial_fixpoint
end
def F.f146 (w:List Vl.Data)(t:Ty)(v:Vl.Value):Option (ByteArray):=
 (F.f94 w t v)>>=fun v1=>
 if v1=true then
  (F.f144 w t v)>>=fun v5=>
  some v5
 else
  some ByteArray.empty
def F.f147 (code:List Int):Option (Bool):=
 if 1048576<code.length then
  some true
 else
  (F.f67 code)>>=fun v=>
  (F.f97 v.1 v.2.1 v.2.2)>>=fun v5=>
  (F.f110 v.1 v.2.1 v.2.2)>>=fun v7=>
  if v5.2=v7.2 then
   (F.f111 v5.1 v7.1)>>=fun v11=>
   if v11=true then
    if v5.2=true then
     (F.f130 v.1 [] [] v.2.1 v5.1)>>=fun v19=>
     if v19=true then
      (F.f136 v5.1)>>=fun v23=>
      if v23.length=0 then
       (F.f143 v.1 [] [] v.2.1 v5.1)>>=fun v28=>
       (F.f146 v.1 v.2.1 v.2.2)>>=fun v30=>
       some (decide (v28.toList=v30.toList))
      else
       some false
     else
      some false
    else
     (F.f111 v5.1 v7.1)>>=fun v17=>
     some v17
   else
    (F.f111 v5.1 v7.1)>>=fun v32=>
    some v32
  else
   some false
end
end Go.Vl
