/- Part. -/
import Derived.Test.YtodkbabdaoeooaaGreatDoorVlFa
import Derived.Test.YtodkbabdaoeooaaGreatDoorVlFloatP
import Derived.Test.YtodkbabdaoeooaaGreatDoorVlSwap
import Derived.Test.YtodkbabdaoeooaaGreatDoorVlText
set_option linter.all false
set_option synthInstance.maxSize 100000
set_option synthInstance.maxHeartbeats 4000000
set_option maxHeartbeats 4000000
open List renaming map->zA,take->zB
open ByteArray renaming empty->zC
namespace Go.Vl
open Go
open Go.IntKind renaming u8->zD
open Go.IntKind (i64)
noncomputable section
structure ZB where
 f0:List Int
 f1:Int
def ZB.c (x:ZB):List AV:=[.arr (zA cU x.f0),.lit (.int .i64 x.f1)]
@[simp] theorem ZB.c_eq (x:ZB):x.c=[.arr (zA cU x.f0),.lit (.int .i64 x.f1)]:=rfl
abbrev ZB.z :ZB:=⟨[],0⟩
@[simp] theorem ZJJ :Nice ZB.c:=⟨by simp,by simp,by simp⟩
@[simp] theorem ZJH :NiceLen ZB.c 2:=⟨by simp⟩
structure ZC where
 f0:List Int
 f1:Ty
def ZC.c (x:ZC):List AV:=[.arr (zA cI x.f0),.lit (.int .i64 x.f1.data),.lit (.int .i64 x.f1.index)]
@[simp] theorem ZC.c_eq (x:ZC):x.c=[.arr (zA cI x.f0),.lit (.int .i64 x.f1.data),.lit (.int .i64 x.f1.index)]:=rfl
abbrev ZC.z :ZC:=⟨[],Ty.z⟩
@[simp] theorem ZGl :Nice ZC.c:=⟨by simp,by simp,by simp⟩
@[simp] theorem ZGk :NiceLen ZC.c 3:=⟨by simp⟩
structure ZA where
 f0:Int
 f1:List Pattern
 f2:List PathBind
def ZA.c (x:ZA):List AV:=[.lit (.int .i64 x.f0),.arr (zA Pattern.c x.f1),.arr (zA PathBind.c x.f2)]
@[simp] theorem ZA.c_eq (x:ZA):x.c=[.lit (.int .i64 x.f0),.arr (zA Pattern.c x.f1),.arr (zA PathBind.c x.f2)]:=rfl
abbrev ZA.z :ZA:=⟨0,[],[]⟩
@[simp] theorem ZJI :Nice ZA.c:=⟨by simp,by simp,by simp⟩
@[simp] theorem ZJG :NiceLen ZA.c 3:=⟨by simp⟩
def F.f0  :Option (List ByteArray):=
 some [(⟨#[76,61,78,105,108,124,67,111,110,115,40,73,44,76,41]⟩:ByteArray),(⟨#[66,61,84,114,117,124,70,108,115,59,84,61,76,101,97,102,124,78,111,100,101,40,84,44,66,44,84,41]⟩:ByteArray),(⟨#[69,61,78,117,109,40,73,41,58,49,124,66,111,108,40,66,41,58,50,124,65,100,100,40,69,49,44,69,49,41,58,49,124,73,102,40,69,50,44,69,42,44,69,42,41,59,66,61,84,114,117,124,70,108,115]⟩:ByteArray),(⟨#[79,61,78,111,110,124,83,111,109,40,73,41,59,80,61,80,97,105,114,40,79,44,79,41]⟩:ByteArray),(⟨#[86,61,69,110,100,58,49,124,83,111,109,101,40,73,44,86,49,41,58,50,124,84,119,111,40,86,42,41]⟩:ByteArray),(⟨#[78,61,78,101,118,101,114,40,78,41,59,66,61,84,114,117,124,70,108,115,124,77,97,121,40,78,41]⟩:ByteArray),(⟨#[83,61,82,101,100,124,71,114,101,101,110,124,66,108,117,101,124,77,105,120,40,83,44,83,41]⟩:ByteArray),zC]
def F.f1 (r':ZB)(n:Int):Option (Int×ZB):=
 if n<1 then
  some (0,(⟨r'.f0,i64.wrap (r'.f1+1)⟩:ZB))
 else
  if r'.f0.length=0 then
   some (0,(⟨r'.f0,i64.wrap (r'.f1+1)⟩:ZB))
  else
   if i64.wrap (i64.wrap (r'.f1+1) -1)<(r'.f0.length:Int)then
    at? r'.f0 (i64.wrap (i64.wrap (r'.f1+1) -1))>>=fun x=>
    if n≠0 then
     some ((i64.wrap x).tmod n,(⟨r'.f0,i64.wrap (r'.f1+1)⟩:ZB))
    else none
   else
    if(r'.f0.length:Int)≠0 then
     at? r'.f0 ((i64.wrap (i64.wrap (r'.f1+1) -1)).tmod (r'.f0.length:Int))>>=fun x11=>
     at? r'.f0 ((i64.wrap (i64.wrap (i64.wrap (i64.wrap (r'.f1+1) -1)*7)+3)).tmod (r'.f0.length:Int))>>=fun x13=>
     if n≠0 then
      some ((ZO9 .i64 (i64.wrap (i64.wrap (i64.wrap (i64.wrap (i64.wrap x11*131)+i64.wrap (i64.wrap x13*1117))+i64.wrap (i64.wrap (i64.wrap (r'.f1+1) -1)*29))+i64.wrap (i64.wrap ((i64.wrap (i64.wrap (r'.f1+1) -1)).tdiv (r'.f0.length:Int))*53))) (i64.wrap ((i64.wrap (i64.wrap (i64.wrap (i64.wrap (i64.wrap x11*131)+i64.wrap (i64.wrap x13*1117))+i64.wrap (i64.wrap (i64.wrap (r'.f1+1) -1)*29))+i64.wrap (i64.wrap ((i64.wrap (i64.wrap (r'.f1+1) -1)).tdiv (r'.f0.length:Int))*53))).tdiv 64))).tmod n,(⟨r'.f0,i64.wrap (r'.f1+1)⟩:ZB))
     else none
    else none
def F.f2 (s:ByteArray)(c':Int)(out:List ByteArray)(from':Nat)(i:Nat):Option (List ByteArray):=
 if i<=s.size then
  if i=s.size then
   if from'<=i/\i<=s.size then
    if out.length+1<=67108864 then
     if i+1<=9223372036854775807 then
      F.f2 s c' (out++[s.extract from' i]) (i+1) (i+1)
     else none
    else none
   else none
  else
   if i<s.size then
    if((byteAt s i:Nat):Int)=c' then
     if from'<=i/\i<=s.size then
      if out.length+1<=67108864 then
       if i+1<=9223372036854775807 then
        F.f2 s c' (out++[s.extract from' i]) (i+1) (i+1)
       else none
      else none
     else none
    else
     if i+1<=9223372036854775807 then
      F.f2 s c' out from' (i+1)
     else none
   else none
 else
  some out
 partial_fixpoint
def F.f3 (s:ByteArray)(c':Int):Option (List ByteArray):=
 F.f2 s c' [] 0 0>>=fun o'=>
 some o'
def F.f4 (names:List ByteArray)(s:ByteArray)(i:Nat):Option (Lo Int Unit):=
 if i<names.length then
  names[i]?>>=fun x=>
  if x.toList=s.toList then
   some (.ret (i:Int))
  else
   F.f4 names s (i+1)
 else
  some (.go ())
 partial_fixpoint
def F.f5 (names:List ByteArray)(s:ByteArray):Option (Int):=
 if s.toList=(⟨#[73]⟩:ByteArray).toList then
  some (-1)
 else
  F.f4 names s 0>>=fun o'=>
  match o' with
  | .ret r0=>some r0
  | .go sx=>
   some (-2)
def F.f6 (names:List ByteArray)(s:ByteArray):Option (Ty):=
 if s.toList=zC.toList then
  some (⟨(-2),0⟩:Ty)
 else
  if 1<=s.size then
   F.f5 names (s.extract 0 1)>>=fun v=>
   if(s.extract 1 s.size).toList=(⟨#[42]⟩:ByteArray).toList then
    some (⟨v,(-1)⟩:Ty)
   else
    if s.size=2 then
     if 1<s.size then
      if 48<=byteAt s 1 then
       if byteAt s 1<=57 then
        some (⟨v,i64.wrap (zD.wrap (((byteAt s 1:Nat):Int) -48))⟩:Ty)
       else
        some (⟨v,0⟩:Ty)
      else
       some (⟨v,0⟩:Ty)
     else none
    else
     some (⟨v,0⟩:Ty)
  else none
def F.f7 (names:List ByteArray)(s:ByteArray)(x:ByteArray)(v21:List ByteArray)(out:List Ty)(i:Nat):Option (List Ty):=
 if i<v21.length then
  if i<=3 then
   v21[i]?>>=fun x29=>
   F.f6 names x29>>=fun v31=>
   if out.length+1<=67108864 then
    F.f7 names s x v21 (out++[v31]) (i+1)
   else none
  else
   some out
 else
  some out
 partial_fixpoint
def F.f8 (names:List ByteArray)(x38:ByteArray)(v49:List ByteArray)(out51:List Ty)(i52:Nat):Option (List Ty):=
 if i52<v49.length then
  if i52<=3 then
   v49[i52]?>>=fun x59=>
   F.f6 names x59>>=fun v61=>
   if out51.length+1<=67108864 then
    F.f8 names x38 v49 (out51++[v61]) (i52+1)
   else none
  else
   some out51
 else
  some out51
 partial_fixpoint
def F.f9 (names:List ByteArray)(x69:ByteArray)(v80:List ByteArray)(out82:List Ty)(i83:Nat):Option (List Ty):=
 if i83<v80.length then
  if i83<=3 then
   v80[i83]?>>=fun x90=>
   F.f6 names x90>>=fun v92=>
   if out82.length+1<=67108864 then
    F.f9 names x69 v80 (out82++[v92]) (i83+1)
   else none
  else
   some out82
 else
  some out82
 partial_fixpoint
def F.f10 (names:List ByteArray)(s:ByteArray):Option (Ctor):=
 if 2<s.size then
  if 0<=i64.wrap ((s.size:Int) -2)/\(i64.wrap ((s.size:Int) -2)).toNat<s.size then
   if byteAt s ((i64.wrap ((s.size:Int) -2)).toNat)=58 then
    if 0<=i64.wrap ((s.size:Int) -1)/\(i64.wrap ((s.size:Int) -1)).toNat<s.size then
     if 0<=i64.wrap ((s.size:Int) -2)/\(i64.wrap ((s.size:Int) -2)).toNat<=s.size then
      F.f3 (s.extract 0 ((i64.wrap ((s.size:Int) -2)).toNat)) 40>>=fun v=>
      v[0]?>>=fun x=>
      if v.length<2 then
       some (⟨x,[],i64.wrap (i64.wrap ((byteAt s ((i64.wrap ((s.size:Int) -1)).toNat):Nat):Int) -48)⟩:Ctor)
      else
       v[1]?>>=fun x15=>
       if x15.size=0 then
        some (⟨x,[],i64.wrap (i64.wrap ((byteAt s ((i64.wrap ((s.size:Int) -1)).toNat):Nat):Int) -48)⟩:Ctor)
       else
        if 0<=i64.wrap ((x15.size:Int) -1)/\(i64.wrap ((x15.size:Int) -1)).toNat<=x15.size then
         F.f3 (x15.extract 0 ((i64.wrap ((x15.size:Int) -1)).toNat)) 44>>=fun v21=>
         F.f7 names s x v21 [] 0>>=fun o'=>
         some (⟨x,o',i64.wrap (i64.wrap ((byteAt s ((i64.wrap ((s.size:Int) -1)).toNat):Nat):Int) -48)⟩:Ctor)
        else none
     else none
    else none
   else
    F.f3 s 40>>=fun v36=>
    v36[0]?>>=fun x38=>
    if v36.length<2 then
     some (⟨x38,[],0⟩:Ctor)
    else
     v36[1]?>>=fun x43=>
     if x43.size=0 then
      some (⟨x38,[],0⟩:Ctor)
     else
      if 0<=i64.wrap ((x43.size:Int) -1)/\(i64.wrap ((x43.size:Int) -1)).toNat<=x43.size then
       F.f3 (x43.extract 0 ((i64.wrap ((x43.size:Int) -1)).toNat)) 44>>=fun v49=>
       F.f8 names x38 v49 [] 0>>=fun o'66=>
       some (⟨x38,o'66,0⟩:Ctor)
      else none
  else none
 else
  F.f3 s 40>>=fun v67=>
  v67[0]?>>=fun x69=>
  if v67.length<2 then
   some (⟨x69,[],0⟩:Ctor)
  else
   v67[1]?>>=fun x74=>
   if x74.size=0 then
    some (⟨x69,[],0⟩:Ctor)
   else
    if 0<=i64.wrap ((x74.size:Int) -1)/\(i64.wrap ((x74.size:Int) -1)).toNat<=x74.size then
     F.f3 (x74.extract 0 ((i64.wrap ((x74.size:Int) -1)).toNat)) 44>>=fun v80=>
     F.f9 names x69 v80 [] 0>>=fun o'97=>
     some (⟨x69,o'97,0⟩:Ctor)
    else none
def F.f11 (c':Int):Option (Bool):=
 if 65<=c' then
  some (decide (c'<=90))
 else
  some false
def F.f12 (s:ByteArray):Option (Bool):=
 if s.size=1 then
  if 0<s.size then
   F.f11 ((byteAt s 0:Nat):Int)>>=fun v=>
   if v=true then
    some (decide (¬(s.toList=(⟨#[73]⟩:ByteArray).toList)))
   else
    some false
  else none
 else
  some false
def F.f13 (s:ByteArray)(i:Nat):Option (Lo Bool Unit):=
 if i<s.size then
  if byteAt s i<97 then
   some (.ret false)
  else
   if 122<byteAt s i then
    some (.ret false)
   else
    if i+1<=9223372036854775807 then
     F.f13 s (i+1)
    else none
 else
  some (.go ())
 partial_fixpoint
def F.f14 (s:ByteArray):Option (Bool):=
 if s.size=0 then
  some false
 else
  if 5<s.size then
   some false
  else
   if 0<s.size then
    F.f11 ((byteAt s 0:Nat):Int)>>=fun v=>
    if v=true then
     F.f13 s 1>>=fun o'=>
     match o' with
     | .ret r0=>some r0
     | .go sx=>
      some true
    else
     some false
   else none
def F.f15 (n:Int)(t:Ty):Option (Bool):=
 if t.data=(-1)then
  some (decide (t.index=0))
 else
  if 0<=t.data then
   if t.data<n then
    if(-1)<=t.index then
     some (decide (t.index<=3))
    else
     some false
   else
    some false
  else
   some false
def F.f16 (n:Int)(c':Ctor)(i:Nat):Option (Lo Bool Unit):=
 if i<c'.args.length then
  c'.args[i]?>>=fun x=>
  F.f15 n x>>=fun v15=>
  if v15=true then
   F.f16 n c' (i+1)
  else
   some (.ret false)
 else
  some (.go ())
 partial_fixpoint
def F.f17 (n:Int)(c':Ctor):Option (Bool):=
 F.f14 c'.name>>=fun v=>
 if v=true then
  if 3<c'.args.length then
   some false
  else
   if c'.index<0 then
    some false
   else
    if 3<c'.index then
     some false
    else
     F.f16 n c' 0>>=fun o'=>
     match o' with
     | .ret r0=>some r0
     | .go sx=>
      some true
 else
  some false
def F.f18 (w:List Vl.Data)(d:Int)(k:Int)(i:Nat)(j:Nat):Option (Lo Bool Unit):=
 w[i]?>>=fun x10=>
 if j<x10.ctors.length then
  if(i:Int)<d then
   at? w d>>=fun x33=>
   if k<(x33.ctors.length:Int)then
    x10.ctors[j]?>>=fun x37=>
    at? x33.ctors k>>=fun x39=>
    if x37.name.toList=x39.name.toList then
     some (.ret true)
    else
     if j+1<=9223372036854775807 then
      F.f18 w d k i (j+1)
     else none
   else
    if j+1<=9223372036854775807 then
     F.f18 w d k i (j+1)
    else none
  else
   if(j:Int)<k then
    at? w d>>=fun x19=>
    if k<(x19.ctors.length:Int)then
     x10.ctors[j]?>>=fun x23=>
     at? x19.ctors k>>=fun x25=>
     if x23.name.toList=x25.name.toList then
      some (.ret true)
     else
      if j+1<=9223372036854775807 then
       F.f18 w d k i (j+1)
      else none
    else
     if j+1<=9223372036854775807 then
      F.f18 w d k i (j+1)
     else none
   else
    some (.go ())
 else
  some (.go ())
 partial_fixpoint
def F.f19 (w:List Vl.Data)(d:Int)(k:Int)(i:Nat)(j50:Nat):Option (Lo Bool Unit):=
 w[i]?>>=fun x51=>
 if j50<x51.ctors.length then
  if(i:Int)<d then
   at? w d>>=fun x74=>
   if k<(x74.ctors.length:Int)then
    x51.ctors[j50]?>>=fun x78=>
    at? x74.ctors k>>=fun x80=>
    if x78.name.toList=x80.name.toList then
     some (.ret true)
    else
     if j50+1<=9223372036854775807 then
      F.f19 w d k i (j50+1)
     else none
   else
    if j50+1<=9223372036854775807 then
     F.f19 w d k i (j50+1)
    else none
  else
   if(j50:Int)<k then
    at? w d>>=fun x60=>
    if k<(x60.ctors.length:Int)then
     x51.ctors[j50]?>>=fun x64=>
     at? x60.ctors k>>=fun x66=>
     if x64.name.toList=x66.name.toList then
      some (.ret true)
     else
      if j50+1<=9223372036854775807 then
       F.f19 w d k i (j50+1)
      else none
    else
     if j50+1<=9223372036854775807 then
      F.f19 w d k i (j50+1)
     else none
   else
    some (.go ())
 else
  some (.go ())
 partial_fixpoint
def F.f20 (w:List Vl.Data)(d:Int)(k:Int)(i:Nat):Option (Lo Bool Unit):=
 if(i:Int)<=d then
  if(i:Int)<d then
   w[i]?>>=fun x=>
   at? w d>>=fun x6=>
   if x.name.toList=x6.name.toList then
    some (.ret true)
   else
    F.f18 w d k i 0>>=fun o'=>
    match o' with
    | .ret r0=>some (.ret r0)
    | .go sx=>
     if i+1<=9223372036854775807 then
      F.f20 w d k (i+1)
     else none
  else
   F.f19 w d k i 0>>=fun o'89=>
   match o'89 with
   | .ret r093=>some (.ret r093)
   | .go sx90=>
    if i+1<=9223372036854775807 then
     F.f20 w d k (i+1)
    else none
 else
  some (.go ())
 partial_fixpoint
def F.f21 (w:List Vl.Data)(d:Int)(k:Int):Option (Bool):=
 F.f20 w d k 0>>=fun o'95=>
 match o'95 with
 | .ret r097=>some r097
 | .go sx96=>
  some false
def F.f22 (w:List Vl.Data)(d:Nat)(k:Nat):Option (Lo Bool Unit):=
 w[d]?>>=fun x17=>
 if k<x17.ctors.length then
  x17.ctors[k]?>>=fun x22=>
  F.f17 (w.length:Int) x22>>=fun v24=>
  if v24=true then
   F.f21 w (d:Int) (k:Int)>>=fun v28=>
   if v28=true then
    some (.ret false)
   else
    if k+1<=9223372036854775807 then
     F.f22 w d (k+1)
    else none
  else
   some (.ret false)
 else
  some (.go ())
 partial_fixpoint
def F.f23 (w:List Vl.Data)(d:Nat):Option (Lo Bool Unit):=
 if d<w.length then
  w[d]?>>=fun x=>
  F.f12 x.name>>=fun v=>
  if v=true then
   if x.ctors.length=0 then
    some (.ret false)
   else
    if 4<x.ctors.length then
     some (.ret false)
    else
     F.f22 w d 0>>=fun o'=>
     match o' with
     | .ret r0=>some (.ret r0)
     | .go sx=>
      if d+1<=9223372036854775807 then
       F.f23 w (d+1)
      else none
  else
   some (.ret false)
 else
  some (.go ())
 partial_fixpoint
def F.f24 (w:List Vl.Data):Option (Bool):=
 if 4<w.length then
  some false
 else
  F.f23 w 0>>=fun o'38=>
  match o'38 with
  | .ret r040=>some r040
  | .go sx39=>
   some true
def F.f25 (n7:Int)(out:ByteArray):Option (Int×ByteArray):=
 if 9<n7 then
  if(ZDE [zD.wrap (i64.wrap (48+n7.tmod 10))]).size+out.size<=9223372036854775807 then
   F.f25 (i64.wrap (n7.tdiv 10)) ((ZDE [zD.wrap (i64.wrap (48+n7.tmod 10))])++out)
  else none
 else
  some (n7,out)
 partial_fixpoint
def F.f26 (n:Int):Option (ByteArray):=
 if n<(-9223372036854775807)then
  some (⟨#[45,57,50,50,51,51,55,50,48,51,54,56,53,52,55,55,53,56,48,56]⟩:ByteArray)
 else
  if n<0 then
   F.f26 (i64.wrap (0-n))>>=fun v=>
   if(⟨#[45]⟩:ByteArray).size+v.size<=9223372036854775807 then
    some ((⟨#[45]⟩:ByteArray)++v)
   else none
  else
   F.f25 n zC>>=fun o'=>
   if(ZDE [zD.wrap (i64.wrap (48+o'.1))]).size+o'.2.size<=9223372036854775807 then
    some ((ZDE [zD.wrap (i64.wrap (48+o'.1))])++o'.2)
   else none
 partial_fixpoint
def F.f27 (n:Int):Option (ByteArray):=
 if n=0 then
  some zC
 else
  if n=(-1)then
   some (⟨#[42]⟩:ByteArray)
  else
   F.f26 n>>=fun v=>
   some v
def F.f28 (w:List Vl.Data)(t:Ty):Option (ByteArray):=
 if t.data=(-1)then
  some (⟨#[73]⟩:ByteArray)
 else
  at? w t.data>>=fun x=>
  F.f27 t.index>>=fun v=>
  if x.name.size+v.size<=9223372036854775807 then
   some (x.name++v)
  else none
def F.f29 (w:List Vl.Data)(c':Ctor)(out:ByteArray)(i:Nat):Option (ByteArray):=
 if i<c'.args.length then
  if i=0 then
   if out.size+(⟨#[40]⟩:ByteArray).size<=9223372036854775807 then
    c'.args[i]?>>=fun x=>
    F.f28 w x>>=fun v=>
    if(out++(⟨#[40]⟩:ByteArray)).size+v.size<=9223372036854775807 then
     F.f29 w c' ((out++(⟨#[40]⟩:ByteArray))++v) (i+1)
    else none
   else none
  else
   if out.size+(⟨#[44]⟩:ByteArray).size<=9223372036854775807 then
    c'.args[i]?>>=fun x13=>
    F.f28 w x13>>=fun v15=>
    if(out++(⟨#[44]⟩:ByteArray)).size+v15.size<=9223372036854775807 then
     F.f29 w c' ((out++(⟨#[44]⟩:ByteArray))++v15) (i+1)
    else none
   else none
 else
  some out
 partial_fixpoint
def F.f30 (w:List Vl.Data)(c':Ctor):Option (ByteArray):=
 F.f29 w c' c'.name 0>>=fun o'=>
 if 0<c'.args.length then
  if o'.size+(⟨#[41]⟩:ByteArray).size<=9223372036854775807 then
   if 0<c'.index then
    if(o'++(⟨#[41]⟩:ByteArray)).size+(⟨#[58]⟩:ByteArray).size<=9223372036854775807 then
     F.f26 c'.index>>=fun v27=>
     if((o'++(⟨#[41]⟩:ByteArray))++(⟨#[58]⟩:ByteArray)).size+v27.size<=9223372036854775807 then
      some (((o'++(⟨#[41]⟩:ByteArray))++(⟨#[58]⟩:ByteArray))++v27)
     else none
    else none
   else
    some (o'++(⟨#[41]⟩:ByteArray))
  else none
 else
  if 0<c'.index then
   if o'.size+(⟨#[58]⟩:ByteArray).size<=9223372036854775807 then
    F.f26 c'.index>>=fun v33=>
    if(o'++(⟨#[58]⟩:ByteArray)).size+v33.size<=9223372036854775807 then
     some ((o'++(⟨#[58]⟩:ByteArray))++v33)
    else none
   else none
  else
   some o'
def F.f31 (w:List Vl.Data)(d:Nat)(out11:ByteArray)(k:Nat):Option (ByteArray):=
 w[d]?>>=fun x12=>
 if k<x12.ctors.length then
  if 0<k then
   if out11.size+(⟨#[124]⟩:ByteArray).size<=9223372036854775807 then
    x12.ctors[k]?>>=fun x21=>
    F.f30 w x21>>=fun v=>
    if(out11++(⟨#[124]⟩:ByteArray)).size+v.size<=9223372036854775807 then
     if k+1<=9223372036854775807 then
      F.f31 w d ((out11++(⟨#[124]⟩:ByteArray))++v) (k+1)
     else none
    else none
   else none
  else
   x12.ctors[k]?>>=fun x27=>
   F.f30 w x27>>=fun v29=>
   if out11.size+v29.size<=9223372036854775807 then
    if k+1<=9223372036854775807 then
     F.f31 w d (out11++v29) (k+1)
    else none
   else none
 else
  some out11
 partial_fixpoint
def F.f32 (w:List Vl.Data)(d:Nat)(out41:ByteArray)(k42:Nat):Option (ByteArray):=
 w[d]?>>=fun x43=>
 if k42<x43.ctors.length then
  if 0<k42 then
   if out41.size+(⟨#[124]⟩:ByteArray).size<=9223372036854775807 then
    x43.ctors[k42]?>>=fun x52=>
    F.f30 w x52>>=fun v54=>
    if(out41++(⟨#[124]⟩:ByteArray)).size+v54.size<=9223372036854775807 then
     if k42+1<=9223372036854775807 then
      F.f32 w d ((out41++(⟨#[124]⟩:ByteArray))++v54) (k42+1)
     else none
    else none
   else none
  else
   x43.ctors[k42]?>>=fun x59=>
   F.f30 w x59>>=fun v61=>
   if out41.size+v61.size<=9223372036854775807 then
    if k42+1<=9223372036854775807 then
     F.f32 w d (out41++v61) (k42+1)
    else none
   else none
 else
  some out41
 partial_fixpoint
def F.f33 (w:List Vl.Data)(out:ByteArray)(d:Nat):Option (ByteArray):=
 if d<w.length then
  if 0<d then
   if out.size+(⟨#[59]⟩:ByteArray).size<=9223372036854775807 then
    w[d]?>>=fun x=>
    if(out++(⟨#[59]⟩:ByteArray)).size+x.name.size<=9223372036854775807 then
     if((out++(⟨#[59]⟩:ByteArray))++x.name).size+(⟨#[61]⟩:ByteArray).size<=9223372036854775807 then
      F.f31 w d (((out++(⟨#[59]⟩:ByteArray))++x.name)++(⟨#[61]⟩:ByteArray)) 0>>=fun o'=>
      if d+1<=9223372036854775807 then
       F.f33 w o' (d+1)
      else none
     else none
    else none
   else none
  else
   w[d]?>>=fun x37=>
   if out.size+x37.name.size<=9223372036854775807 then
    if(out++x37.name).size+(⟨#[61]⟩:ByteArray).size<=9223372036854775807 then
     F.f32 w d ((out++x37.name)++(⟨#[61]⟩:ByteArray)) 0>>=fun o'67=>
     if d+1<=9223372036854775807 then
      F.f33 w o'67 (d+1)
     else none
    else none
   else none
 else
  some out
 partial_fixpoint
def F.f34 (w:List Vl.Data):Option (ByteArray):=
 F.f33 w zC 0>>=fun o'71=>
 some o'71
def F.f35 (text:ByteArray)(v:List ByteArray)(names:List ByteArray)(i:Nat):Option (Lo ((List Vl.Data)×Bool) (List ByteArray)):=
 if i<v.length then
  if i<=4 then
   if text.toList=zC.toList then
    some (.go names)
   else
    v[i]?>>=fun x=>
    F.f3 x 61>>=fun v11=>
    if v11.length=2 then
     v11[0]?>>=fun x16=>
     if names.length+1<=67108864 then
      F.f35 text v (names++[x16]) (i+1)
     else none
    else
     some (.ret ([],false))
  else
   some (.go names)
 else
  some (.go names)
 partial_fixpoint
def F.f36 (text:ByteArray)(v:List ByteArray)(out:List Vl.Data)(names21:List ByteArray)(i22:Nat)(v32:List ByteArray)(x34:ByteArray)(out36:List Ctor)(k:Nat):Option (List Ctor):=
 if k<v32.length then
  if k<=4 then
   v32[k]?>>=fun x43=>
   F.f10 names21 x43>>=fun v45=>
   if out36.length+1<=67108864 then
    F.f36 text v out names21 i22 v32 x34 (out36++[v45]) (k+1)
   else none
  else
   some out36
 else
  some out36
 partial_fixpoint
def F.f37 (text:ByteArray)(v:List ByteArray)(out:List Vl.Data)(names21:List ByteArray)(i22:Nat):Option (List Vl.Data):=
 if i22<names21.length then
  v[i22]?>>=fun x26=>
  F.f3 x26 61>>=fun v28=>
  v28[1]?>>=fun x30=>
  F.f3 x30 124>>=fun v32=>
  names21[i22]?>>=fun x34=>
  F.f36 text v out names21 i22 v32 x34 [] 0>>=fun o'50=>
  if out.length+1<=67108864 then
   if i22+1<=9223372036854775807 then
    F.f37 text v (out++[(⟨x34,o'50⟩:Vl.Data)]) names21 (i22+1)
   else none
  else none
 else
  some out
 partial_fixpoint
def F.f38 (text:ByteArray):Option ((List Vl.Data)×Bool):=
 F.f3 text 59>>=fun v=>
 F.f35 text v [] 0>>=fun o'=>
 match o' with
 | .ret r0=>some r0
 | .go sx=>
  F.f37 text v [] sx 0>>=fun o'55=>
  F.f24 o'55>>=fun v56=>
  if v56=true then
   F.f34 o'55>>=fun v60=>
   if v60.toList=text.toList then
    some (o'55,true)
   else
    some ([],false)
  else
   some ([],false)
def F.f39 (r':ZB):Option ((List Vl.Data)×ZB):=
 F.f0>>=fun v=>
 F.f1 r' (i64.wrap ((v.length:Int) -1))>>=fun v2=>
 at? v v2.1>>=fun x=>
 F.f38 x>>=fun v5=>
 some (v5.1,v2.2)
def F.f40 (c':Ctor)(index':Int):Option (Bool):=
 if c'.index=0 then
  some true
 else
  if index'=0 then
   some true
  else
   some (decide (c'.index=index'))
def F.f41 (w:List Vl.Data)(t:Ty)(out:List Int)(k:Nat):Option (List Int):=
 at? w t.data>>=fun x=>
 if k<x.ctors.length then
  x.ctors[k]?>>=fun x7=>
  F.f40 x7 t.index>>=fun v=>
  if v=true then
   if out.length+1<=67108864 then
    if k+1<=9223372036854775807 then
     F.f41 w t (out++[(k:Int)]) (k+1)
    else none
   else none
  else
   if k+1<=9223372036854775807 then
    F.f41 w t out (k+1)
   else none
 else
  some out
 partial_fixpoint
def F.f42 (w:List Vl.Data)(t:Ty):Option (List Int):=
 if t.data=(-1)then
  some []
 else
  F.f41 w t [] 0>>=fun o'=>
  some o'
def F.f43 (c':Ctor)(index':Int):Option (Int):=
 if c'.index=0 then
  some index'
 else
  some c'.index
def F.f44 (t:Ty)(x2:Ctor)(out:List Ty)(i:Nat):Option (List Ty):=
 if i<x2.args.length then
  x2.args[i]?>>=fun x7=>
  if x7.index=(-1)then
   F.f43 x2 t.index>>=fun v=>
   if out.length+1<=67108864 then
    F.f44 t x2 (out++[(⟨x7.data,v⟩:Ty)]) (i+1)
   else none
  else
   if out.length+1<=67108864 then
    F.f44 t x2 (out++[x7]) (i+1)
   else none
 else
  some out
 partial_fixpoint
def F.f45 (w:List Vl.Data)(t:Ty)(ctor:Int):Option (List Ty):=
 at? w t.data>>=fun x=>
 at? x.ctors ctor>>=fun x2=>
 F.f44 t x2 [] 0>>=fun o'=>
 some o'
def F.f46 (t:Ty):Option (Int):=
 some (i64.wrap (i64.wrap (t.data*4)+t.index))
def F.f47 (table:List Int)(t:Ty):Option (Int):=
 if t.data=(-1)then
  some 1
 else
  F.f46 t>>=fun v=>
  at? table v>>=fun x=>
  some x
def F.f48 (table:List Int)(v:List Ty)(most:Int)(i:Nat):Option (Lo Int Int):=
 if i<v.length then
  v[i]?>>=fun x=>
  F.f47 table x>>=fun v6=>
  if v6=0 then
   some (.ret 0)
  else
   if most<v6 then
    F.f48 table v v6 (i+1)
   else
    F.f48 table v most (i+1)
 else
  some (.go most)
 partial_fixpoint
def F.f49 (w:List Vl.Data)(table:List Int)(t:Ty)(ctor:Int):Option (Int):=
 F.f45 w t ctor>>=fun v=>
 F.f48 table v 0 0>>=fun o'=>
 match o' with
 | .ret r0=>some r0
 | .go sx=>
  some (i64.wrap (sx+1))
def F.f50 (w:List Vl.Data)(n:Nat)(s:Nat)(v:List Int)(table10:List Int)(i:Nat):Option (List Int):=
 if i<v.length then
  v[i]?>>=fun x=>
  F.f49 w table10 (⟨i64.wrap ((s:Int).tdiv 4),(s:Int).tmod 4⟩:Ty) x>>=fun v15=>
  if 0<v15 then
   table10[s]?>>=fun x19=>
   if x19=0 then
    F.f50 w n s v (table10.set s v15) (i+1)
   else
    if v15<x19 then
     F.f50 w n s v (table10.set s v15) (i+1)
    else
     F.f50 w n s v table10 (i+1)
  else
   F.f50 w n s v table10 (i+1)
 else
  some table10
 partial_fixpoint
def F.f51 (w:List Vl.Data)(n:Nat)(table5:List Int)(s:Nat):Option (List Int):=
 if s<table5.length then
  F.f42 w (⟨i64.wrap ((s:Int).tdiv 4),(s:Int).tmod 4⟩:Ty)>>=fun v=>
  F.f50 w n s v table5 0>>=fun o'=>
  if s+1<=9223372036854775807 then
   F.f51 w n o' (s+1)
  else none
 else
  some table5
 partial_fixpoint
def F.f52 (w:List Vl.Data)(table:List Int)(n:Nat):Option (List Int):=
 if n<=table.length then
  F.f51 w n table 0>>=fun o'33=>
  if n+1<=9223372036854775807 then
   F.f52 w o'33 (n+1)
  else none
 else
  some table
 partial_fixpoint
def F.f53 (w:List Vl.Data):Option (List Int):=
 if 0<=i64.wrap ((w.length:Int)*4)/\(i64.wrap ((w.length:Int)*4)).toNat<=67108864 then
  F.f52 w (List.replicate ((i64.wrap ((w.length:Int)*4)).toNat) 0) 0>>=fun o'37=>
  some o'37
 else none
def F.f54 (r':ZB)(list:List Int):Option (Int×ZB):=
 F.f1 r' (list.length:Int)>>=fun v=>
 at? list v.1>>=fun x=>
 some (x,v.2)
def F.f55 (r':ZB)(w:List Vl.Data)(table:List Int)(t:Ty)(depth:Int)(v4:List Int)(fine:List Int)(i:Nat):Option (List Int):=
 if i<v4.length then
  v4[i]?>>=fun x=>
  F.f49 w table t x>>=fun v10=>
  if 0<v10 then
   if v10<=depth then
    if fine.length+1<=67108864 then
     F.f55 r' w table t depth v4 (fine++[x]) (i+1)
    else none
   else
    F.f47 table t>>=fun v16=>
    if v10=v16 then
     if fine.length+1<=67108864 then
      F.f55 r' w table t depth v4 (fine++[x]) (i+1)
     else none
    else
     F.f55 r' w table t depth v4 fine (i+1)
  else
   F.f55 r' w table t depth v4 fine (i+1)
 else
  some fine
 partial_fixpoint
mutual
def F.f56 (r':ZB)(w:List Vl.Data)(table:List Int)(t:Ty)(depth:Int):Option (Vl.Value×ZB):=
 if t.data=(-1)then
  F.f1 r' 10>>=fun v=>
  some ((⟨(-1),v.1,[]⟩:Vl.Value),v.2)
 else
  F.f42 w t>>=fun v4=>
  F.f55 r' w table t depth v4 [] 0>>=fun o'=>
  F.f1 r' (o'.length:Int)>>=fun v27=>
  at? o' v27.1>>=fun x29=>
  F.f45 w t x29>>=fun v31=>
  F.f57 w table depth x29 v31 v27.2.f0 v27.2.f1 [] 0>>=fun o'45=>
  some ((⟨x29,0,o'45.2.2⟩:Vl.Value),(⟨o'45.1,o'45.2.1⟩:ZB))
 partial_fixpoint
def F.f57 (w:List Vl.Data)(table:List Int)(depth:Int)(x29:Int)(v31:List Ty)(z:List Int)(z33:Int)(out:List Vl.Value)(i34:Nat):Option ((List Int)×Int×(List Vl.Value)):=
 if i34<v31.length then
  v31[i34]?>>=fun x38=>
  F.f56 (⟨z,z33⟩:ZB) w table x38 (i64.wrap (depth-1))>>=fun v40=>
  if out.length+1<=67108864 then
   F.f57 w table depth x29 v31 v40.2.f0 v40.2.f1 (out++[v40.1]) (i34+1)
  else none
 else
  some (z,z33,out)
 partial_fixpoint
end
def F.f58 (r':ZB):Option ((List Vl.Data)×Ty×Vl.Value×ZB):=
 F.f39 r'>>=fun v=>
 F.f53 v.1>>=fun v2=>
 F.f1 v.2 (v.1.length:Int)>>=fun v4=>
 F.f54 v4.2 [0,0,1,2]>>=fun v6=>
 F.f47 v2 (⟨v4.1,v6.1⟩:Ty)>>=fun v8=>
 if v8=0 then
  F.f54 v6.2 [3,2,4,1]>>=fun v12=>
  F.f56 v12.2 v.1 v2 (⟨(-1),0⟩:Ty) v12.1>>=fun v14=>
  some (v.1,(⟨(-1),0⟩:Ty),v14.1,v14.2)
 else
  F.f54 v6.2 [3,2,4,1]>>=fun v16=>
  F.f56 v16.2 v.1 v2 (⟨v4.1,v6.1⟩:Ty) v16.1>>=fun v18=>
  some (v.1,(⟨v4.1,v6.1⟩:Ty),v18.1,v18.2)
mutual
def F.f59 (r':ZB)(w:List Vl.Data)(t:Ty)(depth:Int):Option (Pattern×ZB):=
 if depth<2 then
  some ((⟨1,0,0,0,0,[]⟩:Pattern),r')
 else
  F.f1 r' 4>>=fun v=>
  if v.1=0 then
   some ((⟨1,0,0,0,0,[]⟩:Pattern),v.2)
  else
   F.f1 v.2 6>>=fun v6=>
   if v6.1=0 then
    F.f59 v6.2 w t (i64.wrap (depth-1))>>=fun v10=>
    F.f59 v10.2 w t (i64.wrap (depth-1))>>=fun v12=>
    some ((⟨5,0,0,0,0,[v10.1,v12.1]⟩:Pattern),v12.2)
   else
    if t.data=(-1)then
     F.f1 v6.2 10>>=fun v16=>
     F.f1 v16.2 (i64.wrap (10-v16.1))>>=fun v18=>
     F.f1 v18.2 2>>=fun v20=>
     some ((⟨3,0,v16.1,i64.wrap (v16.1+i64.wrap (v18.1*v20.1)),0,[]⟩:Pattern),v20.2)
    else
     F.f42 w t>>=fun v22=>
     if v22.length=0 then
      some ((⟨1,0,0,0,0,[]⟩:Pattern),v6.2)
     else
      F.f1 v6.2 (v22.length:Int)>>=fun v27=>
      at? v22 v27.1>>=fun x=>
      F.f45 w t x>>=fun v30=>
      F.f60 w depth x v30 v27.2.f0 v27.2.f1 [] 0>>=fun o'=>
      some ((⟨4,x,0,0,0,o'.2.2⟩:Pattern),(⟨o'.1,o'.2.1⟩:ZB))
 partial_fixpoint
def F.f60 (w:List Vl.Data)(depth:Int)(x:Int)(v30:List Ty)(z:List Int)(z32:Int)(out:List Pattern)(i:Nat):Option ((List Int)×Int×(List Pattern)):=
 if i<v30.length then
  v30[i]?>>=fun x36=>
  F.f59 (⟨z,z32⟩:ZB) w x36 (i64.wrap (depth-1))>>=fun v38=>
  if out.length+1<=67108864 then
   F.f60 w depth x v30 v38.2.f0 v38.2.f1 (out++[v38.1]) (i+1)
  else none
 else
  some (z,z32,out)
 partial_fixpoint
end
mutual
def F.f61 (r':ZB)(p:Pattern)(n:Int):Option (Pattern×Int×ZB):=
 if 5<n then
  some (p,n,r')
 else
  if p.op=5 then
   some (p,n,r')
  else
   if p.op=3 then
    some (p,n,r')
   else
    if p.op=1 then
     F.f1 r' 2>>=fun v=>
     if v.1=0 then
      some ((⟨2,0,0,0,n,[]⟩:Pattern),i64.wrap (n+1),v.2)
     else
      F.f62 p n v.2.f0 v.2.f1 [] 0 n>>=fun o'=>
      if o'.2.2.2<=5 then
       F.f1 (⟨o'.1,o'.2.1⟩:ZB) 6>>=fun v24=>
       if v24.1=0 then
        some ((⟨6,0,0,0,o'.2.2.2,[(⟨p.op,p.ctor,p.n,p.m,p.var,o'.2.2.1⟩:Pattern)]⟩:Pattern),i64.wrap (o'.2.2.2+1),v24.2)
       else
        some ((⟨p.op,p.ctor,p.n,p.m,p.var,o'.2.2.1⟩:Pattern),o'.2.2.2,v24.2)
      else
       some ((⟨p.op,p.ctor,p.n,p.m,p.var,o'.2.2.1⟩:Pattern),o'.2.2.2,(⟨o'.1,o'.2.1⟩:ZB))
    else
     F.f63 p n r'.f0 r'.f1 [] 0 n>>=fun o'43=>
     if o'43.2.2.2<=5 then
      F.f1 (⟨o'43.1,o'43.2.1⟩:ZB) 6>>=fun v46=>
      if v46.1=0 then
       some ((⟨6,0,0,0,o'43.2.2.2,[(⟨p.op,p.ctor,p.n,p.m,p.var,o'43.2.2.1⟩:Pattern)]⟩:Pattern),i64.wrap (o'43.2.2.2+1),v46.2)
      else
       some ((⟨p.op,p.ctor,p.n,p.m,p.var,o'43.2.2.1⟩:Pattern),o'43.2.2.2,v46.2)
     else
      some ((⟨p.op,p.ctor,p.n,p.m,p.var,o'43.2.2.1⟩:Pattern),o'43.2.2.2,(⟨o'43.1,o'43.2.1⟩:ZB))
 partial_fixpoint
def F.f62 (p:Pattern)(n:Int)(z:List Int)(z12:Int)(out:List Pattern)(i:Nat)(next:Int):Option ((List Int)×Int×(List Pattern)×Int):=
 if i<p.kids.length then
  p.kids[i]?>>=fun x=>
  F.f61 (⟨z,z12⟩:ZB) x next>>=fun v17=>
  if out.length+1<=67108864 then
   F.f62 p n v17.2.2.f0 v17.2.2.f1 (out++[v17.1]) (i+1) v17.2.1
  else none
 else
  some (z,z12,out,next)
 partial_fixpoint
def F.f63 (p:Pattern)(n:Int)(z28:List Int)(z29:Int)(out30:List Pattern)(i31:Nat)(next32:Int):Option ((List Int)×Int×(List Pattern)×Int):=
 if i31<p.kids.length then
  p.kids[i31]?>>=fun x36=>
  F.f61 (⟨z28,z29⟩:ZB) x36 next32>>=fun v38=>
  if out30.length+1<=67108864 then
   F.f63 p n v38.2.2.f0 v38.2.2.f1 (out30++[v38.1]) (i31+1) v38.2.1
  else none
 else
  some (z28,z29,out30,next32)
 partial_fixpoint
end
def F.f64 (list:List Int)(n:Int)(i:Nat):Option (Lo Bool Unit):=
 if i<list.length then
  list[i]?>>=fun x=>
  if x=n then
   some (.ret true)
  else
   F.f64 list n (i+1)
 else
  some (.go ())
 partial_fixpoint
def F.f65 (list:List Int)(n:Int):Option (Bool):=
 F.f64 list n 0>>=fun o'=>
 match o' with
 | .ret r0=>some r0
 | .go sx=>
  some false
def F.f66 (w:List Vl.Data)(t:Ty)(p:Pattern):Option (Bool):=
 if p.op=2 then
  if p.var<0 then
   some false
  else
   if 5<p.var then
    some false
   else
    if p.n=0 then
     if p.m=0 then
      if p.ctor=0 then
       some true
      else
       some false
     else
      some false
    else
     some false
 else
  if p.op=6 then
   if p.var<0 then
    some false
   else
    if 5<p.var then
     some false
    else
     if p.n=0 then
      if p.m=0 then
       if p.ctor=0 then
        some true
       else
        some false
      else
       some false
     else
      some false
  else
   if p.var=0 then
    if p.op=3 then
     if p.ctor=0 then
      if t.data=(-1)then
       if 0<=p.n then
        if p.n<=p.m then
         some (decide (p.m<=9))
        else
         some false
       else
        some false
      else
       some false
     else
      some false
    else
     if p.n=0 then
      if p.m=0 then
       if p.op=4 then
        F.f42 w t>>=fun v=>
        F.f65 v p.ctor>>=fun v38=>
        some v38
       else
        if p.ctor=0 then
         if p.op=1 then
          some true
         else
          if p.op=5 then
           some true
          else
           some false
        else
         some false
      else
       some false
     else
      some false
   else
    some false
def F.f67 (op:Int):Option (Int):=
 if op=5 then
  some 2
 else
  if op=6 then
   some 1
  else
   if op=4 then
    some (-1)
   else
    some 0
def F.f68 (t:Ty)(p:Pattern)(out:List Ty)(i:Nat):Option (List Ty):=
 F.f67 p.op>>=fun v4=>
 if(i:Int)<v4 then
  if out.length+1<=67108864 then
   if i+1<=9223372036854775807 then
    F.f68 t p (out++[t]) (i+1)
   else none
  else none
 else
  some out
 partial_fixpoint
def F.f69 (w:List Vl.Data)(t:Ty)(p:Pattern):Option (List Ty):=
 if p.op=4 then
  F.f45 w t p.ctor>>=fun v=>
  some v
 else
  F.f68 t p [] 0>>=fun o'=>
  some o'
mutual
def F.f70 (w:List Vl.Data)(t:Ty)(p:Pattern)(depth:Int):Option (Bool):=
 if depth<1 then
  some false
 else
  F.f66 w t p>>=fun v=>
  if v=true then
   F.f69 w t p>>=fun v6=>
   if p.kids.length=v6.length then
    F.f71 w p depth v6 0>>=fun o'=>
    match o' with
    | .ret r0=>some r0
    | .go sx=>
     some true
   else
    some false
  else
   some false
 partial_fixpoint
def F.f71 (w:List Vl.Data)(p:Pattern)(depth:Int)(v6:List Ty)(i:Nat):Option (Lo Bool Unit):=
 if i<v6.length then
  v6[i]?>>=fun x=>
  p.kids[i]?>>=fun x15=>
  F.f70 w x x15 (i64.wrap (depth-1))>>=fun v17=>
  if v17=true then
   F.f71 w p depth v6 (i+1)
  else
   some (.ret false)
 else
  some (.go ())
 partial_fixpoint
end
mutual
def F.f72 (p:Pattern)(most:Int):Option (Int):=
 F.f73 p most 1 0>>=fun o'=>
 some o'
 partial_fixpoint
def F.f73 (p:Pattern)(most:Int)(n:Int)(i:Nat):Option (Int):=
 if i<p.kids.length then
  if n<=most then
   p.kids[i]?>>=fun x=>
   F.f72 x (i64.wrap (most-n))>>=fun v=>
   F.f73 p most (i64.wrap (n+v)) (i+1)
  else
   some n
 else
  some n
 partial_fixpoint
end
mutual
def F.f74 (out:List VarType)(w:List Vl.Data)(t:Ty)(p:Pattern):Option (List VarType):=
 if p.op=2 then
  if out.length+1<=67108864 then
   F.f69 w t p>>=fun v59=>
   F.f77 w p v59 (out++[(⟨p.var,t⟩:VarType)]) 0>>=fun o'86=>
   some o'86
  else none
 else
  if p.op=6 then
   if out.length+1<=67108864 then
    F.f69 w t p>>=fun v=>
    F.f75 w p v (out++[(⟨p.var,t⟩:VarType)]) 0>>=fun o'=>
    some o'
   else none
  else
   F.f69 w t p>>=fun v30=>
   F.f76 w p v30 out 0>>=fun o'57=>
   some o'57
 partial_fixpoint
def F.f75 (w:List Vl.Data)(p:Pattern)(v:List Ty)(out7:List VarType)(i:Nat):Option (List VarType):=
 if i<v.length then
  if i=0 then
   v[i]?>>=fun x22=>
   p.kids[i]?>>=fun x24=>
   F.f74 out7 w x22 x24>>=fun v26=>
   F.f75 w p v v26 (i+1)
  else
   if p.op=5 then
    some out7
   else
    v[i]?>>=fun x=>
    p.kids[i]?>>=fun x17=>
    F.f74 out7 w x x17>>=fun v19=>
    F.f75 w p v v19 (i+1)
 else
  some out7
 partial_fixpoint
def F.f76 (w:List Vl.Data)(p:Pattern)(v30:List Ty)(out32:List VarType)(i33:Nat):Option (List VarType):=
 if i33<v30.length then
  if i33=0 then
   v30[i33]?>>=fun x49=>
   p.kids[i33]?>>=fun x51=>
   F.f74 out32 w x49 x51>>=fun v53=>
   F.f76 w p v30 v53 (i33+1)
  else
   if p.op=5 then
    some out32
   else
    v30[i33]?>>=fun x42=>
    p.kids[i33]?>>=fun x44=>
    F.f74 out32 w x42 x44>>=fun v46=>
    F.f76 w p v30 v46 (i33+1)
 else
  some out32
 partial_fixpoint
def F.f77 (w:List Vl.Data)(p:Pattern)(v59:List Ty)(out61:List VarType)(i62:Nat):Option (List VarType):=
 if i62<v59.length then
  if i62=0 then
   v59[i62]?>>=fun x78=>
   p.kids[i62]?>>=fun x80=>
   F.f74 out61 w x78 x80>>=fun v82=>
   F.f77 w p v59 v82 (i62+1)
  else
   if p.op=5 then
    some out61
   else
    v59[i62]?>>=fun x71=>
    p.kids[i62]?>>=fun x73=>
    F.f74 out61 w x71 x73>>=fun v75=>
    F.f77 w p v59 v75 (i62+1)
 else
  some out61
 partial_fixpoint
end
def F.f78 (list:List VarType)(n:Int)(i:Nat):Option (Lo Int Unit):=
 if i<list.length then
  list[i]?>>=fun x=>
  if x.var=n then
   some (.ret (i:Int))
  else
   F.f78 list n (i+1)
 else
  some (.go ())
 partial_fixpoint
def F.f79 (list:List VarType)(n:Int):Option (Int):=
 F.f78 list n 0>>=fun o'=>
 match o' with
 | .ret r0=>some r0
 | .go sx=>
  some (-1)
def F.f80 (a:List VarType)(b:List VarType)(i:Nat):Option (Lo Bool Unit):=
 if i<a.length then
  a[i]?>>=fun x=>
  F.f79 b x.var>>=fun v=>
  if v<0 then
   some (.ret false)
  else
   at? b v>>=fun x8=>
   if dec (eq2 (x8.type.data,x8.type.index) (x.type.data,x.type.index))=true then
    F.f80 a b (i+1)
   else
    some (.ret false)
 else
  some (.go ())
 partial_fixpoint
def F.f81 (a:List VarType)(b:List VarType):Option (Bool):=
 F.f80 a b 0>>=fun o'=>
 match o' with
 | .ret r0=>some r0
 | .go sx=>
  some (decide (a.length=b.length))
def F.f82 (v26:List VarType)(i28:Nat):Option (Lo Bool Unit):=
 if i28<v26.length then
  v26[i28]?>>=fun x32=>
  F.f79 v26 x32.var>>=fun v34=>
  if v34=(i28:Int)then
   F.f82 v26 (i28+1)
  else
   some (.ret false)
 else
  some (.go ())
 partial_fixpoint
mutual
def F.f83 (w:List Vl.Data)(t:Ty)(p:Pattern):Option (Bool):=
 F.f69 w t p>>=fun v=>
 F.f84 w t p v 0>>=fun o'=>
 match o' with
 | .ret r042=>some r042
 | .go sx=>
  if p.op=5 then
   p.kids[0]?>>=fun x16=>
   F.f74 [] w t x16>>=fun v18=>
   p.kids[1]?>>=fun x20=>
   F.f74 [] w t x20>>=fun v22=>
   F.f81 v18 v22>>=fun v24=>
   some v24
  else
   F.f74 [] w t p>>=fun v26=>
   F.f82 v26 0>>=fun o'40=>
   match o'40 with
   | .ret r0=>some r0
   | .go sx41=>
    some true
 partial_fixpoint
def F.f84 (w:List Vl.Data)(t:Ty)(p:Pattern)(v:List Ty)(i:Nat):Option (Lo Bool Unit):=
 if i<v.length then
  v[i]?>>=fun x=>
  p.kids[i]?>>=fun x6=>
  F.f83 w x x6>>=fun v8=>
  if v8=true then
   F.f84 w t p v (i+1)
  else
   some (.ret false)
 else
  some (.go ())
 partial_fixpoint
end
def F.f85 (w:List Vl.Data)(t:Ty)(p:Pattern):Option (Bool):=
 F.f70 w t p 10>>=fun v=>
 if v=true then
  F.f72 p 60>>=fun v4=>
  if v4<=60 then
   F.f83 w t p>>=fun v8=>
   some v8
  else
   some false
 else
  some false
def F.f86 (r':ZB)(w:List Vl.Data)(t:Ty):Option (Pattern×ZB):=
 F.f54 r' [3,2,4,1]>>=fun v=>
 F.f59 v.2 w t v.1>>=fun v2=>
 F.f61 v2.2 v2.1 0>>=fun v4=>
 F.f85 w t v4.1>>=fun v6=>
 if v6=true then
  some (v4.1,v4.2.2)
 else
  some ((⟨1,0,0,0,0,[]⟩:Pattern),v4.2.2)
def F.f87 (v:Pattern×ZB)(z:List Int)(z4:Int)(z5:Int)(z6:Int)(z7:Int)(vars:List VarType)(i:Nat):Option ((List Int)×Int×Int×Int×Int):=
 if i<vars.length then
  vars[i]?>>=fun x=>
  if x.type.data=(-1)then
   F.f1 (⟨z,z4⟩:ZB) 2>>=fun v14=>
   if v14.1=0 then
    F.f1 v14.2 2>>=fun v18=>
    F.f1 v18.2 10>>=fun v20=>
    F.f87 v v20.2.f0 v20.2.f1 (i64.wrap (1+v18.1)) x.var v20.1 vars (i+1)
   else
    F.f87 v v14.2.f0 v14.2.f1 z5 z6 z7 vars (i+1)
  else
   F.f87 v z z4 z5 z6 z7 vars (i+1)
 else
  some (z,z4,z5,z6,z7)
 partial_fixpoint
def F.f88 (r':ZB)(w:List Vl.Data)(t:Ty):Option (Clause×ZB):=
 F.f86 r' w t>>=fun v=>
 F.f74 [] w t v.1>>=fun v2=>
 F.f87 v v.2.f0 v.2.f1 0 0 0 v2 0>>=fun o'=>
 some ((⟨v.1,(⟨o'.2.2.1,o'.2.2.2.1,o'.2.2.2.2⟩:Guard)⟩:Clause),(⟨o'.1,o'.2.1⟩:ZB))
def F.f89 (w:List Vl.Data)(t:Ty)(z:List Int)(z2:Int)(out:List Clause)(i:Int):Option ((List Int)×Int×(List Clause)):=
 if 0<i then
  F.f88 (⟨z,z2⟩:ZB) w t>>=fun v5=>
  if out.length+1<=67108864 then
   F.f89 w t v5.2.f0 v5.2.f1 (out++[v5.1]) (i64.wrap (i-1))
  else none
 else
  some (z,z2,out)
 partial_fixpoint
def F.f90 (r':ZB)(w:List Vl.Data)(t:Ty):Option ((List Clause)×ZB):=
 F.f54 r' [3,2,4,5,1,0]>>=fun v=>
 F.f89 w t v.2.f0 v.2.f1 [] v.1>>=fun o'=>
 some (o'.2.2,(⟨o'.1,o'.2.1⟩:ZB))
def F.f91 (r':ZB):Option ((List Vl.Data)×Ty×(List Clause)×Vl.Value×ZB):=
 F.f58 r'>>=fun v=>
 F.f90 v.2.2.2 v.1 v.2.1>>=fun v2=>
 some (v.1,v.2.1,v2.1,v.2.2.1,v2.2)
def F.f92  :Option (Pattern):=
 some (⟨1,0,0,0,0,[]⟩:Pattern)
def F.f93 (r':ZB)(p:Pattern):Option (Pattern×ZB):=
 if p.kids.length<=67108864 then
  F.f1 r' 30>>=fun v=>
  if v.1=0 then
   F.f54 v.2 [0,7,1,2,5]>>=fun v5=>
   some ((⟨v5.1,p.ctor,p.n,p.m,p.var,p.kids⟩:Pattern),v5.2)
  else
   if v.1=1 then
    F.f54 v.2 [6,(-1),1]>>=fun v9=>
    some ((⟨p.op,p.ctor,p.n,p.m,v9.1,p.kids⟩:Pattern),v9.2)
   else
    if v.1=2 then
     F.f54 v.2 [9,(-1),1]>>=fun v13=>
     some ((⟨p.op,v13.1,p.n,p.m,p.var,p.kids⟩:Pattern),v13.2)
    else
     if v.1=3 then
      if p.kids.length+1<=67108864 then
       some ((⟨p.op,p.ctor,p.n,p.m,p.var,p.kids++[(⟨2,0,0,0,0,[]⟩:Pattern)]⟩:Pattern),v.2)
      else none
     else
      if v.1=4 then
       if 0<p.kids.length then
        p.kids[0]?>>=fun x=>
        some ((⟨p.op,p.ctor,p.n,p.m,p.var,p.kids.set 0 (⟨2,0,0,0,0,[]⟩:Pattern)⟩:Pattern),v.2)
       else
        some (p,v.2)
      else
       if v.1=5 then
        F.f54 v.2 [10,(-1),5]>>=fun v26=>
        some ((⟨p.op,p.ctor,v26.1,p.m,p.var,p.kids⟩:Pattern),v26.2)
       else
        some (p,v.2)
 else none
def F.f94 (v:Int×ZB)(out:List Clause):Option (List Clause):=
 if out.length<=8 then
  if out.length+1<=67108864 then
   F.f94 v (out++[(⟨(⟨1,0,0,0,0,[]⟩:Pattern),(⟨0,0,0⟩:Guard)⟩:Clause)])
  else none
 else
  some out
 partial_fixpoint
def F.f95 (r':ZB)(list:List Clause):Option ((List Clause)×ZB):=
 if list.length<=67108864 then
  F.f1 r' 24>>=fun v=>
  if v.1=0 then
   if 0<list.length then
    F.f54 v.2 [1,2,3,(-1)]>>=fun v8=>
    F.f54 v8.2 [0,5,9]>>=fun v10=>
    F.f54 v10.2 [3,10,(-1)]>>=fun v12=>
    list[0]?>>=fun x=>
    some (list.set 0 (⟨x.pat,(⟨v8.1,v10.1,v12.1⟩:Guard)⟩:Clause),v12.2)
   else
    some (list,v.2)
  else
   if v.1=1 then
    if 0<list.length then
     list[0]?>>=fun x20=>
     F.f93 v.2 x20.pat>>=fun v22=>
     F.f93 v22.2 v22.1>>=fun v24=>
     some (list.set 0 (⟨v24.1,x20.guard⟩:Clause),v24.2)
    else
     some (list,v.2)
   else
    if v.1=2 then
     F.f94 v list>>=fun o'=>
     some (o',v.2)
    else
     some (list,v.2)
 else none
def F.f96 (code:List Int):Option ((List Vl.Data)×Ty×(List Clause)):=
 if 2000<code.length then
  if 2000<=code.length then
   F.f91 (⟨(code.drop 0).take (2000-0),0⟩:ZB)>>=fun v=>
   if 0<v.2.2.1.length then
    F.f1 v.2.2.2.2 4>>=fun v9=>
    if v9.1=0 then
     F.f92>>=fun v13=>
     if v.2.2.1.length+1<=67108864 then
      F.f95 v9.2 (v.2.2.1++[(⟨v13,(⟨0,0,0⟩:Guard)⟩:Clause)])>>=fun v16=>
      some (v.1,v.2.1,v16.1)
     else none
    else
     F.f95 v9.2 v.2.2.1>>=fun v18=>
     some (v.1,v.2.1,v18.1)
   else
    F.f95 v.2.2.2.2 v.2.2.1>>=fun v20=>
    some (v.1,v.2.1,v20.1)
  else none
 else
  F.f91 (⟨code,0⟩:ZB)>>=fun v22=>
  if 0<v22.2.2.1.length then
   F.f1 v22.2.2.2.2 4>>=fun v27=>
   if v27.1=0 then
    F.f92>>=fun v31=>
    if v22.2.2.1.length+1<=67108864 then
     F.f95 v27.2 (v22.2.2.1++[(⟨v31,(⟨0,0,0⟩:Guard)⟩:Clause)])>>=fun v34=>
     some (v22.1,v22.2.1,v34.1)
    else none
   else
    F.f95 v27.2 v22.2.2.1>>=fun v36=>
    some (v22.1,v22.2.1,v36.1)
  else
   F.f95 v22.2.2.2.2 v22.2.2.1>>=fun v38=>
   some (v22.1,v22.2.1,v38.1)
def F.f97 (code:List Int):Option ((List Vl.Data)×Ty×(List Clause)):=
 if 2000<code.length then
  if 2000<=code.length then
   F.f96 code>>=fun v=>
   if 0<v.2.2.length then
    if v.2.2.length<8 then
     F.f1 (⟨(code.drop 0).take (2000-0),0⟩:ZB) 2>>=fun v12=>
     if v12.1=0 then
      F.f1 v12.2 (v.2.2.length:Int)>>=fun v16=>
      at? v.2.2 v16.1>>=fun x=>
      if v.2.2.length+1<=67108864 then
       some (v.1,v.2.1,v.2.2++[x])
      else none
     else
      some (v.1,v.2.1,v.2.2)
    else
     some (v.1,v.2.1,v.2.2)
   else
    some (v.1,v.2.1,v.2.2)
  else none
 else
  F.f96 code>>=fun v20=>
  if 0<v20.2.2.length then
   if v20.2.2.length<8 then
    F.f1 (⟨code,0⟩:ZB) 2>>=fun v28=>
    if v28.1=0 then
     F.f1 v28.2 (v20.2.2.length:Int)>>=fun v32=>
     at? v20.2.2 v32.1>>=fun x34=>
     if v20.2.2.length+1<=67108864 then
      some (v20.1,v20.2.1,v20.2.2++[x34])
     else none
    else
     some (v20.1,v20.2.1,v20.2.2)
   else
    some (v20.1,v20.2.1,v20.2.2)
  else
   some (v20.1,v20.2.1,v20.2.2)
def F.f98 (code:List Int):Option (ZB):=
 if 2000<code.length then
  if 2000<=code.length then
   some (⟨(code.drop 0).take (2000-0),0⟩:ZB)
  else none
 else
  some (⟨code,0⟩:ZB)
def F.f99 (code:List Int):Option ((List Vl.Data)×Ty×(List Clause)×Int):=
 F.f97 code>>=fun v=>
 F.f98 code>>=fun v2=>
 F.f54 v2 [0,1,2,0,1,2,3,(-1)]>>=fun v4=>
 some (v.1,v.2.1,v.2.2,v4.1)
def F.f100 (w:List Vl.Data)(t:Ty):Option (Bool):=
 F.f15 (w.length:Int) t>>=fun v=>
 if v=true then
  some (decide (0<=t.index))
 else
  some false
def F.f101 (w:List Vl.Data)(t:Ty):Option (Bool):=
 F.f24 w>>=fun v=>
 if v=true then
  F.f100 w t>>=fun v4=>
  some v4
 else
  some false
def F.f102 (g:Guard)(vars:List VarType):Option (Bool):=
 if g.op=0 then
  if g.var=0 then
   some (decide (g.n=0))
  else
   some false
 else
  if g.op=1 then
   if g.n<0 then
    some false
   else
    if 9<g.n then
     some false
    else
     F.f79 vars g.var>>=fun v21=>
     if 0<=v21 then
      at? vars v21>>=fun x25=>
      some (decide (x25.type.data=(-1)))
     else
      some false
  else
   if g.op=2 then
    if g.n<0 then
     some false
    else
     if 9<g.n then
      some false
     else
      F.f79 vars g.var>>=fun v=>
      if 0<=v then
       at? vars v>>=fun x=>
       some (decide (x.type.data=(-1)))
      else
       some false
   else
    some false
def F.f103 (w:List Vl.Data)(t:Ty)(c':Clause):Option (Bool):=
 F.f85 w t c'.pat>>=fun v=>
 if v=true then
  F.f74 [] w t c'.pat>>=fun v4=>
  F.f102 c'.guard v4>>=fun v6=>
  some v6
 else
  some false
def F.f104 (w:List Vl.Data)(t:Ty)(list:List Clause)(i:Nat):Option (Lo Bool Unit):=
 if i<list.length then
  list[i]?>>=fun x=>
  F.f103 w t x>>=fun v11=>
  if v11=true then
   F.f104 w t list (i+1)
  else
   some (.ret false)
 else
  some (.go ())
 partial_fixpoint
def F.f105 (w:List Vl.Data)(t:Ty)(list:List Clause):Option (Bool):=
 F.f101 w t>>=fun v=>
 if v=true then
  if 8<list.length then
   some false
  else
   F.f104 w t list 0>>=fun o'=>
   match o' with
   | .ret r0=>some r0
   | .go sx=>
    some true
 else
  some false
def F.f106 (lists:List (List Pattern))(out:List (List Pattern))(i:Nat)(k:Nat)(next10:List (List Pattern))(j:Nat):Option (List (List Pattern)):=
 lists[i]?>>=fun x=>
 if j<x.length then
  if next10.length<=400 then
   out[k]?>>=fun x18=>
   if x18.length<=67108864 then
    x[j]?>>=fun x21=>
    if x18.length+1<=67108864 then
     if next10.length+1<=67108864 then
      if j+1<=9223372036854775807 then
       F.f106 lists out i k (next10++[x18++[x21]]) (j+1)
      else none
     else none
    else none
   else none
  else
   some next10
 else
  some next10
 partial_fixpoint
def F.f107 (lists:List (List Pattern))(out:List (List Pattern))(i:Nat)(next:List (List Pattern))(k:Nat):Option (List (List Pattern)):=
 if k<out.length then
  if next.length<=400 then
   F.f106 lists out i k next 0>>=fun o'=>
   if k+1<=9223372036854775807 then
    F.f107 lists out i o' (k+1)
   else none
  else
   some next
 else
  some next
 partial_fixpoint
def F.f108 (lists:List (List Pattern))(out:List (List Pattern))(i:Nat):Option (List (List Pattern)):=
 if i<lists.length then
  F.f107 lists out i [] 0>>=fun o'31=>
  if i+1<=9223372036854775807 then
   F.f108 lists o'31 (i+1)
  else none
 else
  some out
 partial_fixpoint
def F.f109 (lists:List (List Pattern)):Option (List (List Pattern)):=
 F.f108 lists [[]] 0>>=fun o'35=>
 some o'35
def F.f110 (p:Pattern)(v24:List (List Pattern))(out:List Pattern)(i26:Nat):Option (List Pattern):=
 if i26<v24.length then
  v24[i26]?>>=fun x30=>
  if out.length+1<=67108864 then
   F.f110 p v24 (out++[(⟨p.op,p.ctor,p.n,p.m,p.var,x30⟩:Pattern)]) (i26+1)
  else none
 else
  some out
 partial_fixpoint
mutual
def F.f111 (p:Pattern):Option (List Pattern):=
 if p.op=5 then
  p.kids[0]?>>=fun x=>
  F.f111 x>>=fun v=>
  p.kids[1]?>>=fun x5=>
  F.f111 x5>>=fun v7=>
  if v.length+v7.length<=67108864 then
   if 401<(v++v7).length then
    if 401<=(v++v7).length then
     some (zB 401 (v++v7))
    else none
   else
    some (v++v7)
  else none
 else
  F.f112 p [] 0>>=fun o'=>
  F.f109 o'>>=fun v24=>
  F.f110 p v24 [] 0>>=fun o'35=>
  some o'35
 partial_fixpoint
def F.f112 (p:Pattern)(lists:List (List Pattern))(i:Nat):Option (List (List Pattern)):=
 if i<p.kids.length then
  p.kids[i]?>>=fun x17=>
  F.f111 x17>>=fun v19=>
  if lists.length+1<=67108864 then
   F.f112 p (lists++[v19]) (i+1)
  else none
 else
  some lists
 partial_fixpoint
end
def F.f113 (row:ZA)(path:List Int)(z:List PathBind)(z1:Int)(z2:Int)(z3:Int)(z4:Int)(z5:Int)(z6:List Pattern):Option ((List PathBind)×Int×Int×Int×Int×Int×(List Pattern)):=
 if z1=6 then
  if z.length<=67108864 then
   if path.length<=67108864 then
    if z.length+1<=67108864 then
     z6[0]?>>=fun x=>
     F.f113 row path (z++[(⟨z5,path⟩:PathBind)]) x.op x.ctor x.n x.m x.var x.kids
    else none
   else none
  else none
 else
  some (z,z1,z2,z3,z4,z5,z6)
 partial_fixpoint
def F.f114 (row:ZA)(p:Pattern)(path:List Int):Option (ZA×Pattern):=
 F.f113 row path row.f2 p.op p.ctor p.n p.m p.var p.kids>>=fun o'=>
 if o'.2.1=2 then
  if o'.1.length<=67108864 then
   if path.length<=67108864 then
    if o'.1.length+1<=67108864 then
     F.f92>>=fun v=>
     some ((⟨row.f0,row.f1,o'.1++[(⟨o'.2.2.2.2.2.1,path⟩:PathBind)]⟩:ZA),v)
    else none
   else none
  else none
 else
  some ((⟨row.f0,row.f1,o'.1⟩:ZA),(⟨o'.2.1,o'.2.2.1,o'.2.2.2.1,o'.2.2.2.2.1,o'.2.2.2.2.2.1,o'.2.2.2.2.2.2⟩:Pattern))
def F.f115 (list:List Clause)(i:Nat)(v:List Pattern)(out6:List ZA)(k:Nat):Option (List ZA):=
 if k<v.length then
  v[k]?>>=fun x10=>
  F.f114 (⟨(i:Int),[],[]⟩:ZA) x10 []>>=fun v12=>
  if out6.length+1<=67108864 then
   F.f115 list i v (out6++[(⟨v12.1.f0,[v12.2],v12.1.f2⟩:ZA)]) (k+1)
  else none
 else
  some out6
 partial_fixpoint
def F.f116 (list:List Clause)(out:List ZA)(i:Nat):Option (List ZA):=
 if i<list.length then
  list[i]?>>=fun x=>
  F.f111 x.pat>>=fun v=>
  F.f115 list i v out 0>>=fun o'=>
  if i+1<=9223372036854775807 then
   F.f116 list o' (i+1)
  else none
 else
  some out
 partial_fixpoint
def F.f117 (list:List Clause):Option (List ZA):=
 F.f116 list [] 0>>=fun o'20=>
 some o'20
def F.f118 (row:ZA)(i:Nat):Option (Lo Int Unit):=
 if i<row.f1.length then
  row.f1[i]?>>=fun x=>
  if x.op=1 then
   F.f118 row (i+1)
  else
   some (.ret (i:Int))
 else
  some (.go ())
 partial_fixpoint
def F.f119 (row:ZA):Option (Int):=
 F.f118 row 0>>=fun o'=>
 match o' with
 | .ret r0=>some r0
 | .go sx=>
  some (-1)
def F.f120 (list:List PathBind)(n:Nat)(out4:List PathBind)(i:Nat):Option (List PathBind):=
 if i<list.length then
  list[i]?>>=fun x=>
  if x.var=(n:Int)then
   if x.path.length<=67108864 then
    if out4.length+1<=67108864 then
     F.f120 list n (out4++[(⟨(n:Int),x.path⟩:PathBind)]) (i+1)
    else none
   else none
  else
   F.f120 list n out4 (i+1)
 else
  some out4
 partial_fixpoint
def F.f121 (list:List PathBind)(out:List PathBind)(n:Nat):Option (List PathBind):=
 if n<=5 then
  F.f120 list n out 0>>=fun o'=>
  if n+1<=9223372036854775807 then
   F.f121 list o' (n+1)
  else none
 else
  some out
 partial_fixpoint
def F.f122 (list:List PathBind):Option (List PathBind):=
 F.f121 list [] 0>>=fun o'19=>
 some o'19
def F.f123 (rows:List ZA)(clause:Int)(out:List ZA)(i:Nat):Option (List ZA):=
 if i<rows.length then
  rows[i]?>>=fun x=>
  if x.f0=clause then
   F.f123 rows clause out (i+1)
  else
   if out.length+1<=67108864 then
    F.f123 rows clause (out++[x]) (i+1)
   else none
 else
  some out
 partial_fixpoint
def F.f124 (rows:List ZA)(clause:Int):Option (List ZA):=
 F.f123 rows clause [] 0>>=fun o'=>
 some o'
def F.f125 (rows:List ZA)(column:Int)(n:Nat)(i:Nat):Option (Nat):=
 if i<rows.length then
  rows[i]?>>=fun x=>
  at? x.f1 column>>=fun x5=>
  if x5.op=1 then
   F.f125 rows column n (i+1)
  else
   if n+1<=9223372036854775807 then
    F.f125 rows column (n+1) (i+1)
   else none
 else
  some n
 partial_fixpoint
def F.f126 (rows:List ZA)(column:Int):Option (Int):=
 F.f125 rows column 0 0>>=fun o'=>
 some (o':Int)
def F.f127 (ctor:Int)(v:List Ty)(out:List Pattern)(i:Nat):Option (List Pattern):=
 if i<v.length then
  F.f92>>=fun v5=>
  if out.length+1<=67108864 then
   F.f127 ctor v (out++[v5]) (i+1)
  else none
 else
  some out
 partial_fixpoint
def F.f128 (w:List Vl.Data)(t:Ty)(ctor:Int):Option (Pattern):=
 F.f45 w t ctor>>=fun v=>
 F.f127 ctor v [] 0>>=fun o'=>
 some (⟨4,ctor,0,0,0,o'⟩:Pattern)
mutual
def F.f129 (w:List Vl.Data)(table:List Int)(t:Ty)(p:Pattern):Option (Bool):=
 if p.op=1 then
  F.f47 table t>>=fun v=>
  some (decide (0<v))
 else
  if p.op=3 then
   some true
  else
   F.f45 w t p.ctor>>=fun v6=>
   F.f130 w table p v6 0>>=fun o'=>
   match o' with
   | .ret r0=>some r0
   | .go sx=>
    some true
 partial_fixpoint
def F.f130 (w:List Vl.Data)(table:List Int)(p:Pattern)(v6:List Ty)(i:Nat):Option (Lo Bool Unit):=
 if i<v6.length then
  v6[i]?>>=fun x=>
  p.kids[i]?>>=fun x12=>
  F.f129 w table x x12>>=fun v14=>
  if v14=true then
   F.f130 w table p v6 (i+1)
  else
   some (.ret false)
 else
  some (.go ())
 partial_fixpoint
end
def F.f131 (rows:List ZA)(at':Int)(n:Int)(i:Nat):Option (Lo Bool Unit):=
 if i<rows.length then
  rows[i]?>>=fun x=>
  at? x.f1 at'>>=fun x5=>
  if x5.op=3 then
   if x5.n=n then
    some (.ret true)
   else
    if i64.wrap (x5.m+1)=n then
     some (.ret true)
    else
     F.f131 rows at' n (i+1)
  else
   F.f131 rows at' n (i+1)
 else
  some (.go ())
 partial_fixpoint
def F.f132 (rows:List ZA)(at':Int)(n:Int):Option (Bool):=
 F.f131 rows at' n 0>>=fun o'=>
 match o' with
 | .ret r0=>some r0
 | .go sx=>
  some false
def F.f133 (w:List Vl.Data)(column:ZC)(v:List Int)(v4:List Int)(out:List Branch)(i:Nat):Option (List Branch):=
 if i<v4.length then
  v4[i]?>>=fun x=>
  F.f128 w column.f1 x>>=fun v10=>
  F.f129 w v column.f1 v10>>=fun v12=>
  if v12=true then
   if out.length+1<=67108864 then
    F.f133 w column v v4 (out++[(⟨x,0,0,(⟨0,0,[],[],[],[]⟩:Tree)⟩:Branch)]) (i+1)
   else none
  else
   F.f133 w column v v4 out (i+1)
 else
  some out
 partial_fixpoint
def F.f134 (rows:List ZA)(at':Int)(out20:List Branch)(from':Nat)(n:Nat):Option (List Branch):=
 if n<=10 then
  if n=10 then
   if out20.length+1<=67108864 then
    if n+1<=9223372036854775807 then
     F.f134 rows at' (out20++[(⟨(-1),(from':Int),i64.wrap ((n:Int) -1),(⟨0,0,[],[],[],[]⟩:Tree)⟩:Branch)]) n (n+1)
    else none
   else none
  else
   F.f132 rows at' (n:Int)>>=fun v27=>
   if v27=true then
    if out20.length+1<=67108864 then
     if n+1<=9223372036854775807 then
      F.f134 rows at' (out20++[(⟨(-1),(from':Int),i64.wrap ((n:Int) -1),(⟨0,0,[],[],[],[]⟩:Tree)⟩:Branch)]) n (n+1)
     else none
    else none
   else
    if n+1<=9223372036854775807 then
     F.f134 rows at' out20 from' (n+1)
    else none
 else
  some out20
 partial_fixpoint
def F.f135 (w:List Vl.Data)(column:ZC)(rows:List ZA)(at':Int):Option (List Branch):=
 if column.f1.data=(-1)then
  F.f134 rows at' [] 0 1>>=fun o'40=>
  some o'40
 else
  F.f53 w>>=fun v=>
  F.f42 w column.f1>>=fun v4=>
  F.f133 w column v v4 [] 0>>=fun o'=>
  some o'
def F.f136 (w:List Vl.Data)(columns:List ZC)(rows:List ZA)(pick:Int)(i:Int)(best:Int):Option (Int):=
 if i<(columns.length:Int)then
  if pick=0 then
   some best
  else
   rows[0]?>>=fun x7=>
   at? x7.f1 i>>=fun x9=>
   if x9.op=1 then
    F.f136 w columns rows pick (i64.wrap (i+1)) best
   else
    if pick=1 then
     F.f126 rows i>>=fun v15=>
     F.f126 rows best>>=fun v17=>
     if v17<v15 then
      F.f136 w columns rows pick (i64.wrap (i+1)) i
     else
      F.f136 w columns rows pick (i64.wrap (i+1)) best
    else
     if pick=2 then
      at? columns i>>=fun x25=>
      F.f135 w x25 rows i>>=fun v27=>
      at? columns best>>=fun x29=>
      F.f135 w x29 rows best>>=fun v31=>
      if v27.length<v31.length then
       F.f136 w columns rows pick (i64.wrap (i+1)) i
      else
       F.f136 w columns rows pick (i64.wrap (i+1)) best
     else
      F.f136 w columns rows pick (i64.wrap (i+1)) best
 else
  some best
 partial_fixpoint
def F.f137 (w:List Vl.Data)(columns:List ZC)(rows:List ZA)(pick:Int):Option (Int):=
 rows[0]?>>=fun x=>
 F.f119 x>>=fun v=>
 F.f136 w columns rows pick (i64.wrap (v+1)) v>>=fun o'=>
 some o'
def F.f138 (path:List Int)(i:Int):Option (List Int):=
 if path.length<=67108864 then
  if path.length+1<=67108864 then
   some (path++[i])
  else none
 else none
def F.f139 (columns:List ZC)(at':Int)(v:List Ty)(out:List ZC)(i:Nat):Option (List ZC):=
 if i<v.length then
  at? columns at'>>=fun x10=>
  F.f138 x10.f0 (i:Int)>>=fun v12=>
  v[i]?>>=fun x14=>
  if out.length+1<=67108864 then
   F.f139 columns at' v (out++[(⟨v12,x14⟩:ZC)]) (i+1)
  else none
 else
  some out
 partial_fixpoint
def F.f140 (w:List Vl.Data)(columns:List ZC)(at':Int)(b:Branch):Option (List ZC):=
 if 0<=at'/\at'.toNat<=columns.length then
  if((columns.drop 0).take (at'.toNat-0)).length<=67108864 then
   if b.ctor=(-1)then
    if 0<=i64.wrap (at'+1)/\(i64.wrap (at'+1)).toNat<=columns.length then
     if((columns.drop 0).take (at'.toNat-0)).length+((columns.drop ((i64.wrap (at'+1)).toNat)).take (columns.length- ((i64.wrap (at'+1)).toNat))).length<=67108864 then
      some (((columns.drop 0).take (at'.toNat-0))++((columns.drop ((i64.wrap (at'+1)).toNat)).take (columns.length- ((i64.wrap (at'+1)).toNat))))
     else none
    else none
   else
    at? columns at'>>=fun x=>
    F.f45 w x.f1 b.ctor>>=fun v=>
    F.f139 columns at' v ((columns.drop 0).take (at'.toNat-0)) 0>>=fun o'=>
    if 0<=i64.wrap (at'+1)/\(i64.wrap (at'+1)).toNat<=columns.length then
     if o'.length+((columns.drop ((i64.wrap (at'+1)).toNat)).take (columns.length- ((i64.wrap (at'+1)).toNat))).length<=67108864 then
      some (o'++((columns.drop ((i64.wrap (at'+1)).toNat)).take (columns.length- ((i64.wrap (at'+1)).toNat))))
     else none
    else none
  else none
 else none
def F.f141 (p:Pattern)(b:Branch):Option (Bool):=
 if p.op=1 then
  some true
 else
  if p.op=3 then
   if p.n<=b.n then
    some (decide (b.m<=p.m))
   else
    some false
  else
   some (decide (p.ctor=b.ctor))
def F.f142 (columns:List ZC)(rows:List ZA)(at':Int)(b:Branch)(v:List ZC)(out:List ZA)(i:Nat)(x6:Pattern)(z:Int)(z15:List PathBind)(out16:List Pattern)(k:Int):Option (Int×(List PathBind)×(List Pattern)):=
 if k<i64.wrap ((v.length:Int) -i64.wrap (i64.wrap ((columns.length:Int) -at') -1))then
  F.f92>>=fun v19=>
  if x6.op=4 then
   at? x6.kids (i64.wrap (k-at'))>>=fun x23=>
   at? v k>>=fun x25=>
   F.f114 (⟨z,out16,z15⟩:ZA) x23 x25.f0>>=fun v27=>
   if v27.1.f1.length+1<=67108864 then
    F.f142 columns rows at' b v out i x6 v27.1.f0 v27.1.f2 (v27.1.f1++[v27.2]) (i64.wrap (k+1))
   else none
  else
   at? v k>>=fun x30=>
   F.f114 (⟨z,out16,z15⟩:ZA) v19 x30.f0>>=fun v32=>
   if v32.1.f1.length+1<=67108864 then
    F.f142 columns rows at' b v out i x6 v32.1.f0 v32.1.f2 (v32.1.f1++[v32.2]) (i64.wrap (k+1))
   else none
 else
  some (z,z15,out16)
 partial_fixpoint
def F.f143 (columns:List ZC)(rows:List ZA)(at':Int)(b:Branch)(v:List ZC)(out:List ZA)(i:Nat):Option (List ZA):=
 if i<rows.length then
  rows[i]?>>=fun x=>
  at? x.f1 at'>>=fun x6=>
  F.f141 x6 b>>=fun v8=>
  if v8=true then
   if 0<=at'/\at'.toNat<=x.f1.length then
    if((x.f1.drop 0).take (at'.toNat-0)).length<=67108864 then
     F.f142 columns rows at' b v out i x6 x.f0 x.f2 ((x.f1.drop 0).take (at'.toNat-0)) at'>>=fun o'=>
     rows[i]?>>=fun x36=>
     if 0<=i64.wrap (at'+1)/\(i64.wrap (at'+1)).toNat<=x36.f1.length then
      if o'.2.2.length+((x36.f1.drop ((i64.wrap (at'+1)).toNat)).take (x36.f1.length- ((i64.wrap (at'+1)).toNat))).length<=67108864 then
       if out.length+1<=67108864 then
        if i+1<=9223372036854775807 then
         F.f143 columns rows at' b v (out++[(⟨o'.1,o'.2.2++((x36.f1.drop ((i64.wrap (at'+1)).toNat)).take (x36.f1.length- ((i64.wrap (at'+1)).toNat))),o'.2.1⟩:ZA)]) (i+1)
        else none
       else none
      else none
     else none
    else none
   else none
  else
   F.f143 columns rows at' b v out (i+1)
 else
  some out
 partial_fixpoint
def F.f144 (w:List Vl.Data)(columns:List ZC)(rows:List ZA)(at':Int)(b:Branch):Option (List ZA):=
 F.f140 w columns at' b>>=fun v=>
 F.f143 columns rows at' b v [] 0>>=fun o'44=>
 some o'44
mutual
def F.f145 (w:List Vl.Data)(list:List Clause)(pick:Int)(columns:List ZC)(rows:List ZA)(left':Int):Option (Tree×Int):=
 if i64.wrap (left'-1)<0 then
  some ((⟨0,0,[],[],[],[]⟩:Tree),i64.wrap (left'-1))
 else
  if rows.length=0 then
   some ((⟨0,0,[],[],[],[]⟩:Tree),i64.wrap (left'-1))
  else
   rows[0]?>>=fun x=>
   F.f119 x>>=fun v=>
   if v<0 then
    F.f122 x.f2>>=fun v10=>
    at? list x.f0>>=fun x12=>
    if x12.guard.op=0 then
     some ((⟨1,x.f0,v10,[],[],[]⟩:Tree),i64.wrap (left'-1))
    else
     F.f124 rows x.f0>>=fun v16=>
     F.f145 w list pick columns v16 (i64.wrap (left'-1))>>=fun v18=>
     some ((⟨1,x.f0,v10,[],[],[v18.1]⟩:Tree),v18.2)
   else
    F.f137 w columns rows pick>>=fun v20=>
    at? columns v20>>=fun x22=>
    if x22.f0.length<=67108864 then
     F.f135 w x22 rows v20>>=fun v25=>
     F.f146 w list pick columns rows v20 x22 v25 [] 0 (i64.wrap (left'-1))>>=fun o'=>
     some ((⟨2,0,[],x22.f0,o'.1,[]⟩:Tree),o'.2)
    else none
 partial_fixpoint
def F.f146 (w:List Vl.Data)(list:List Clause)(pick:Int)(columns:List ZC)(rows:List ZA)(v20:Int)(x22:ZC)(v25:List Branch)(out:List Branch)(i:Nat)(left'27:Int):Option ((List Branch)×Int):=
 if i<v25.length then
  if 0<=left'27 then
   v25[i]?>>=fun x33=>
   F.f140 w columns v20 x33>>=fun v35=>
   F.f144 w columns rows v20 x33>>=fun v37=>
   F.f145 w list pick v35 v37 left'27>>=fun v39=>
   if out.length+1<=67108864 then
    F.f146 w list pick columns rows v20 x22 v25 (out++[(⟨x33.ctor,x33.n,x33.m,v39.1⟩:Branch)]) (i+1) v39.2
   else none
  else
   some (out,left'27)
 else
  some (out,left'27)
 partial_fixpoint
end
def F.f147 (w:List Vl.Data)(t:Ty)(list:List Clause)(pick:Int)(i:Nat):Option (Lo (Tree×Bool) Unit):=
 if i<list.length then
  list[i]?>>=fun x=>
  F.f111 x.pat>>=fun v=>
  if 40<v.length then
   some (.ret ((⟨0,0,[],[],[],[]⟩:Tree),false))
  else
   F.f147 w t list pick (i+1)
 else
  some (.go ())
 partial_fixpoint
def F.f148 (w:List Vl.Data)(t:Ty)(list:List Clause)(pick:Int):Option (Tree×Bool):=
 F.f147 w t list pick 0>>=fun o'=>
 match o' with
 | .ret r0=>some r0
 | .go sx=>
  F.f117 list>>=fun v11=>
  F.f145 w list pick [(⟨[],t⟩:ZC)] v11 300>>=fun v13=>
  if v13.2<0 then
   some ((⟨0,0,[],[],[],[]⟩:Tree),false)
  else
   some (v13.1,true)
def F.f149 (w:List Vl.Data)(t:Ty)(list:List Clause)(pick:Int):Option (Tree×Bool):=
 F.f105 w t list>>=fun v=>
 if v=true then
  if pick<0 then
   some ((⟨0,0,[],[],[],[]⟩:Tree),false)
  else
   if 2<pick then
    some ((⟨0,0,[],[],[],[]⟩:Tree),false)
   else
    F.f148 w t list pick>>=fun v8=>
    some (v8.1,v8.2)
 else
  some ((⟨0,0,[],[],[],[]⟩:Tree),false)
def F.f150 (code:List Int):Option (Tree):=
 F.f99 code>>=fun v=>
 F.f149 v.1 v.2.1 v.2.2.1 v.2.2.2>>=fun v2=>
 some v2.1
mutual
def F.f151 (x:Tree)(most:Int):Option (Int):=
 F.f152 x most 1 0>>=fun o'=>
 F.f153 x most o' 0>>=fun o'24=>
 some o'24
 partial_fixpoint
def F.f152 (x:Tree)(most:Int)(n:Int)(i:Nat):Option (Int):=
 if i<x.branches.length then
  if n<=most then
   x.branches[i]?>>=fun x6=>
   F.f151 x6.tree (i64.wrap (most-n))>>=fun v=>
   F.f152 x most (i64.wrap (n+v)) (i+1)
  else
   some n
 else
  some n
 partial_fixpoint
def F.f153 (x:Tree)(most:Int)(n11:Int)(i12:Nat):Option (Int):=
 if i12<x.els.length then
  if n11<=most then
   x.els[i12]?>>=fun x18=>
   F.f151 x18 (i64.wrap (most-n11))>>=fun v20=>
   F.f153 x most (i64.wrap (n11+v20)) (i12+1)
  else
   some n11
 else
  some n11
 partial_fixpoint
end
mutual
def F.f154 (x:Tree):Option (Bool):=
 if x.op<0 then
  some false
 else
  if 2<x.op then
   some false
  else
   if 1<x.els.length then
    some false
   else
    if 10<x.branches.length then
     some false
    else
     F.f155 x 0>>=fun o'=>
     match o' with
     | .ret r0=>some r0
     | .go sx=>
      if x.els.length=0 then
       some true
      else
       x.els[0]?>>=fun x24=>
       F.f154 x24>>=fun v26=>
       some v26
 partial_fixpoint
def F.f155 (x:Tree)(i:Nat):Option (Lo Bool Unit):=
 if i<x.branches.length then
  x.branches[i]?>>=fun x14=>
  F.f154 x14.tree>>=fun v=>
  if v=true then
   F.f155 x (i+1)
  else
   some (.ret false)
 else
  some (.go ())
 partial_fixpoint
end
def F.f156 (list:List PathBind)(out:List PathBind)(i:Nat):Option (List PathBind):=
 if i<list.length then
  list[i]?>>=fun x=>
  if x.path.length<=67108864 then
   if out.length+1<=67108864 then
    F.f156 list (out++[x]) (i+1)
   else none
  else none
 else
  some out
 partial_fixpoint
def F.f157 (list:List PathBind):Option (List PathBind):=
 F.f156 list [] 0>>=fun o'=>
 some o'
def F.f158  :Option (Int):=
 some (-1)
def F.f159 (a:List Int)(b:List Int)(i:Nat):Option (Lo Bool Unit):=
 if i<a.length then
  a[i]?>>=fun x=>
  b[i]?>>=fun x8=>
  if x=x8 then
   F.f159 a b (i+1)
  else
   some (.ret false)
 else
  some (.go ())
 partial_fixpoint
def F.f160 (a:List Int)(b:List Int):Option (Bool):=
 if a.length=b.length then
  F.f159 a b 0>>=fun o'=>
  match o' with
  | .ret r0=>some r0
  | .go sx=>
   some true
 else
  some false
def F.f161 (a:List PathBind)(b:List PathBind)(i:Nat):Option (Lo Bool Unit):=
 if i<a.length then
  a[i]?>>=fun x=>
  b[i]?>>=fun x8=>
  if x.var=x8.var then
   F.f160 x.path x8.path>>=fun v=>
   if v=true then
    F.f161 a b (i+1)
   else
    some (.ret false)
  else
   some (.ret false)
 else
  some (.go ())
 partial_fixpoint
def F.f162 (a:List PathBind)(b:List PathBind):Option (Bool):=
 if a.length=b.length then
  F.f161 a b 0>>=fun o'=>
  match o' with
  | .ret r0=>some r0
  | .go sx=>
   some true
 else
  some false
def F.f163 (a:Vl.Node)(b:Vl.Node)(i:Nat):Option (Lo Bool Unit):=
 if i<a.edges.length then
  a.edges[i]?>>=fun x=>
  b.edges[i]?>>=fun x21=>
  if dec (eq4 (x.ctor,x.n,x.m,x.to) (x21.ctor,x21.n,x21.m,x21.to))=true then
   F.f163 a b (i+1)
  else
   some (.ret false)
 else
  some (.go ())
 partial_fixpoint
def F.f164 (a:Vl.Node)(b:Vl.Node):Option (Bool):=
 if a.op=b.op then
  if a.clause=b.clause then
   if a.els=b.els then
    F.f162 a.binds b.binds>>=fun v=>
    if v=true then
     F.f160 a.path b.path>>=fun v10=>
     if v10=true then
      if a.edges.length=b.edges.length then
       F.f163 a b 0>>=fun o'=>
       match o' with
       | .ret r0=>some r0
       | .go sx=>
        some true
      else
       some false
     else
      some false
    else
     some false
   else
    some false
  else
   some false
 else
  some false
def F.f165 (x:Tree)(v:List PathBind)(o':(List Vl.Edge)×(List Vl.Node))(v21:(List Vl.Node)×Int)(i23:Nat):Option (Lo ((List Vl.Node)×Int) Unit):=
 if i23<v21.1.length then
  v21.1[i23]?>>=fun x27=>
  F.f164 x27 (⟨x.op,x.clause,v,x.path,o'.1,v21.2⟩:Vl.Node)>>=fun v29=>
  if v29=true then
   some (.ret (v21.1,(i23:Int)))
  else
   F.f165 x v o' v21 (i23+1)
 else
  some (.go ())
 partial_fixpoint
def F.f166 (x:Tree)(v:List PathBind)(v3:Int)(o':(List Vl.Edge)×(List Vl.Node))(i37:Nat):Option (Lo ((List Vl.Node)×Int) Unit):=
 if i37<o'.2.length then
  o'.2[i37]?>>=fun x41=>
  F.f164 x41 (⟨x.op,x.clause,v,x.path,o'.1,v3⟩:Vl.Node)>>=fun v43=>
  if v43=true then
   some (.ret (o'.2,(i37:Int)))
  else
   F.f166 x v v3 o' (i37+1)
 else
  some (.go ())
 partial_fixpoint
mutual
def F.f167 (list:List Vl.Node)(x:Tree):Option ((List Vl.Node)×Int):=
 F.f157 x.binds>>=fun v=>
 if x.path.length<=67108864 then
  F.f158>>=fun v3=>
  F.f168 x v v3 [] list 0>>=fun o'=>
  if 0<x.els.length then
   x.els[0]?>>=fun x19=>
   F.f167 o'.2 x19>>=fun v21=>
   F.f165 x v o' v21 0>>=fun o'35=>
   match o'35 with
   | .ret r0=>some r0
   | .go sx=>
    if v21.1.length+1<=67108864 then
     some (v21.1++[(⟨x.op,x.clause,v,x.path,o'.1,v21.2⟩:Vl.Node)],(v21.1.length:Int))
    else none
  else
   F.f166 x v v3 o' 0>>=fun o'49=>
   match o'49 with
   | .ret r052=>some r052
   | .go sx50=>
    if o'.2.length+1<=67108864 then
     some (o'.2++[(⟨x.op,x.clause,v,x.path,o'.1,v3⟩:Vl.Node)],(o'.2.length:Int))
    else none
 else none
 partial_fixpoint
def F.f168 (x:Tree)(v:List PathBind)(v3:Int)(out:List Vl.Edge)(list5:List Vl.Node)(i:Nat):Option ((List Vl.Edge)×(List Vl.Node)):=
 if i<x.branches.length then
  x.branches[i]?>>=fun x9=>
  F.f167 list5 x9.tree>>=fun v11=>
  if out.length+1<=67108864 then
   F.f168 x v v3 (out++[(⟨x9.ctor,x9.n,x9.m,v11.2⟩:Vl.Edge)]) v11.1 (i+1)
  else none
 else
  some (out,list5)
 partial_fixpoint
end
def F.f169 (x:Tree):Option ((List Vl.Node)×Bool):=
 F.f151 x 300>>=fun v=>
 if 300<v then
  some ([],false)
 else
  F.f154 x>>=fun v4=>
  if v4=true then
   F.f167 [] x>>=fun v8=>
   some (v8.1,true)
  else
   some ([],false)
def F.f170 (code:List Int):Option (List Vl.Node):=
 if 2000<code.length then
  if 2000<=code.length then
   F.f150 code>>=fun v=>
   F.f169 v>>=fun v6=>
   if v6.1.length<=67108864 then
    if v6.1.length=0 then
     some v6.1
    else
     F.f1 (⟨(code.drop 0).take (2000-0),0⟩:ZB) 3>>=fun v12=>
     if 0<v12.1 then
      some v6.1
     else
      F.f1 v12.2 (v6.1.length:Int)>>=fun v16=>
      F.f1 v16.2 5>>=fun v18=>
      if v18.1=0 then
       F.f54 v18.2 [0,1,2,3,(-1)]>>=fun v22=>
       at? v6.1 v16.1>>=fun x=>
       some (v6.1.set v16.1.toNat (⟨v22.1,x.clause,x.binds,x.path,x.edges,x.els⟩:Vl.Node))
      else
       if v18.1=1 then
        F.f54 v18.2 [0,(-1),5,(-2)]>>=fun v27=>
        at? v6.1 v16.1>>=fun x29=>
        some (v6.1.set v16.1.toNat (⟨x29.op,x29.clause,x29.binds,x29.path,x29.edges,v27.1⟩:Vl.Node))
       else
        if v18.1=2 then
         at? v6.1 v16.1>>=fun x33=>
         if 0<x33.edges.length then
          if x33.edges.length<=67108864 then
           F.f54 v18.2 [0,1,9,(-1)]>>=fun v39=>
           x33.edges[0]?>>=fun x41=>
           some (v6.1.set v16.1.toNat (⟨x33.op,x33.clause,x33.binds,x33.path,x33.edges.set 0 (⟨x41.ctor,x41.n,x41.m,v39.1⟩:Vl.Edge),x33.els⟩:Vl.Node))
          else none
         else
          some v6.1
        else
         if v18.1=3 then
          if 0<=v16.1/\v16.1.toNat<=v6.1.length then
           some (zB v16.1.toNat v6.1)
          else none
         else
          if v18.1=4 then
           at? v6.1 v16.1>>=fun x48=>
           if v6.1.length+1<=67108864 then
            some (v6.1++[x48])
           else none
          else
           some v6.1
   else none
  else none
 else
  F.f150 code>>=fun v51=>
  F.f169 v51>>=fun v53=>
  if v53.1.length<=67108864 then
   if v53.1.length=0 then
    some v53.1
   else
    F.f1 (⟨code,0⟩:ZB) 3>>=fun v59=>
    if 0<v59.1 then
     some v53.1
    else
     F.f1 v59.2 (v53.1.length:Int)>>=fun v63=>
     F.f1 v63.2 5>>=fun v65=>
     if v65.1=0 then
      F.f54 v65.2 [0,1,2,3,(-1)]>>=fun v69=>
      at? v53.1 v63.1>>=fun x71=>
      some (v53.1.set v63.1.toNat (⟨v69.1,x71.clause,x71.binds,x71.path,x71.edges,x71.els⟩:Vl.Node))
     else
      if v65.1=1 then
       F.f54 v65.2 [0,(-1),5,(-2)]>>=fun v75=>
       at? v53.1 v63.1>>=fun x77=>
       some (v53.1.set v63.1.toNat (⟨x77.op,x77.clause,x77.binds,x77.path,x77.edges,v75.1⟩:Vl.Node))
      else
       if v65.1=2 then
        at? v53.1 v63.1>>=fun x81=>
        if 0<x81.edges.length then
         if x81.edges.length<=67108864 then
          F.f54 v65.2 [0,1,9,(-1)]>>=fun v87=>
          x81.edges[0]?>>=fun x89=>
          some (v53.1.set v63.1.toNat (⟨x81.op,x81.clause,x81.binds,x81.path,x81.edges.set 0 (⟨x89.ctor,x89.n,x89.m,v87.1⟩:Vl.Edge),x81.els⟩:Vl.Node))
         else none
        else
         some v53.1
       else
        if v65.1=3 then
         if 0<=v63.1/\v63.1.toNat<=v53.1.length then
          some (zB v63.1.toNat v53.1)
         else none
        else
         if v65.1=4 then
          at? v53.1 v63.1>>=fun x96=>
          if v53.1.length+1<=67108864 then
           some (v53.1++[x96])
          else none
         else
          some v53.1
  else none
def F.f171 (code:List Int):Option (List Vl.Node):=
 F.f170 code>>=fun v=>
 some v
def F.f172 (n:Int)(low:Int)(high:Int):Option (Bool):=
 if low<=n then
  some (decide (n<=high))
 else
  some false
def F.f173 (e:Vl.Edge)(a1:Int):Option (Bool):=
 F.f172 e.to 0 (i64.wrap (a1-1))>>=fun v=>
 some (!v)
def F.f174 (s:List Vl.Edge)(k0:Int)(i:Nat):Option (Lo Int Unit):=
 if i<s.length then
  s[i]?>>=fun x=>
  F.f173 x k0>>=fun v=>
  if v=true then
   some (.ret (i:Int))
  else
   F.f174 s k0 (i+1)
 else
  some (.go ())
 partial_fixpoint
def F.f175 (s:List Vl.Edge)(k0:Int):Option (Int):=
 F.f174 s k0 0>>=fun o'=>
 match o' with
 | .ret r0=>some r0
 | .go sx=>
  some (-1)
def F.f176 (s:List Vl.Edge)(k0:Int):Option (Bool):=
 F.f175 s k0>>=fun v=>
 some (decide (0<=v))
def F.f177 (list:List Vl.Node)(i:Nat):Option (Lo Bool Unit):=
 if i<list.length then
  list[i]?>>=fun x=>
  F.f172 x.op 0 2>>=fun v=>
  if v=true then
   if 10<x.edges.length then
    some (.ret false)
   else
    F.f172 x.els (-1) (i64.wrap ((i:Int) -1))>>=fun v11=>
    if v11=true then
     F.f176 x.edges (i:Int)>>=fun v15=>
     if v15=true then
      some (.ret false)
     else
      F.f177 list (i+1)
    else
     some (.ret false)
  else
   some (.ret false)
 else
  some (.go ())
 partial_fixpoint
def F.f178 (list:List Vl.Node):Option (Bool):=
 F.f177 list 0>>=fun o'=>
 match o' with
 | .ret r0=>some r0
 | .go sx=>
  F.f172 (list.length:Int) 1 300>>=fun v21=>
  some v21
def F.f179 (i:Int):Option (ByteArray):=
 if -9223372036854775808<=i/\i<=9223372036854775807 then
  some (ZA5 i)
 else none
def F.f180 (path:List Int)(out:ByteArray)(i:Nat):Option (ByteArray):=
 if i<path.length then
  path[i]?>>=fun x=>
  F.f179 x>>=fun v=>
  if(⟨#[46]⟩:ByteArray).size+v.size<=9223372036854775807 then
   if out.size+((⟨#[46]⟩:ByteArray)++v).size<=9223372036854775807 then
    F.f180 path (out++((⟨#[46]⟩:ByteArray)++v)) (i+1)
   else none
  else none
 else
  some out
 partial_fixpoint
def F.f181 (path:List Int):Option (ByteArray):=
 F.f180 path (⟨#[118]⟩:ByteArray) 0>>=fun o'=>
 some o'
def F.f182 (list:List Vl.Node)(out:List Int)(i:Nat)(x:Vl.Node)(i21:Nat)(s:ByteArray):Option (ByteArray):=
 if i21<x.edges.length then
  x.edges[i21]?>>=fun x25=>
  F.f179 x25.ctor>>=fun v27=>
  if(⟨#[32]⟩:ByteArray).size+v27.size<=9223372036854775807 then
   if((⟨#[32]⟩:ByteArray)++v27).size+(⟨#[58]⟩:ByteArray).size<=9223372036854775807 then
    F.f179 x25.n>>=fun v31=>
    if(((⟨#[32]⟩:ByteArray)++v27)++(⟨#[58]⟩:ByteArray)).size+v31.size<=9223372036854775807 then
     if((((⟨#[32]⟩:ByteArray)++v27)++(⟨#[58]⟩:ByteArray))++v31).size+(⟨#[45]⟩:ByteArray).size<=9223372036854775807 then
      F.f179 x25.m>>=fun v35=>
      if(((((⟨#[32]⟩:ByteArray)++v27)++(⟨#[58]⟩:ByteArray))++v31)++(⟨#[45]⟩:ByteArray)).size+v35.size<=9223372036854775807 then
       if((((((⟨#[32]⟩:ByteArray)++v27)++(⟨#[58]⟩:ByteArray))++v31)++(⟨#[45]⟩:ByteArray))++v35).size+(⟨#[62]⟩:ByteArray).size<=9223372036854775807 then
        F.f179 x25.to>>=fun v39=>
        if(((((((⟨#[32]⟩:ByteArray)++v27)++(⟨#[58]⟩:ByteArray))++v31)++(⟨#[45]⟩:ByteArray))++v35)++(⟨#[62]⟩:ByteArray)).size+v39.size<=9223372036854775807 then
         if s.size+((((((((⟨#[32]⟩:ByteArray)++v27)++(⟨#[58]⟩:ByteArray))++v31)++(⟨#[45]⟩:ByteArray))++v35)++(⟨#[62]⟩:ByteArray))++v39).size<=9223372036854775807 then
          F.f182 list out i x (i21+1) (s++((((((((⟨#[32]⟩:ByteArray)++v27)++(⟨#[58]⟩:ByteArray))++v31)++(⟨#[45]⟩:ByteArray))++v35)++(⟨#[62]⟩:ByteArray))++v39))
         else none
        else none
       else none
      else none
     else none
    else none
   else none
  else none
 else
  some s
 partial_fixpoint
def F.f183 (list:List Vl.Node)(out:List Int)(i:Nat)(x:Vl.Node)(i63:Nat)(s64:ByteArray):Option (ByteArray):=
 if i63<x.edges.length then
  x.edges[i63]?>>=fun x68=>
  F.f179 x68.ctor>>=fun v70=>
  if(⟨#[32]⟩:ByteArray).size+v70.size<=9223372036854775807 then
   if((⟨#[32]⟩:ByteArray)++v70).size+(⟨#[58]⟩:ByteArray).size<=9223372036854775807 then
    F.f179 x68.n>>=fun v74=>
    if(((⟨#[32]⟩:ByteArray)++v70)++(⟨#[58]⟩:ByteArray)).size+v74.size<=9223372036854775807 then
     if((((⟨#[32]⟩:ByteArray)++v70)++(⟨#[58]⟩:ByteArray))++v74).size+(⟨#[45]⟩:ByteArray).size<=9223372036854775807 then
      F.f179 x68.m>>=fun v78=>
      if(((((⟨#[32]⟩:ByteArray)++v70)++(⟨#[58]⟩:ByteArray))++v74)++(⟨#[45]⟩:ByteArray)).size+v78.size<=9223372036854775807 then
       if((((((⟨#[32]⟩:ByteArray)++v70)++(⟨#[58]⟩:ByteArray))++v74)++(⟨#[45]⟩:ByteArray))++v78).size+(⟨#[62]⟩:ByteArray).size<=9223372036854775807 then
        F.f179 x68.to>>=fun v82=>
        if(((((((⟨#[32]⟩:ByteArray)++v70)++(⟨#[58]⟩:ByteArray))++v74)++(⟨#[45]⟩:ByteArray))++v78)++(⟨#[62]⟩:ByteArray)).size+v82.size<=9223372036854775807 then
         if s64.size+((((((((⟨#[32]⟩:ByteArray)++v70)++(⟨#[58]⟩:ByteArray))++v74)++(⟨#[45]⟩:ByteArray))++v78)++(⟨#[62]⟩:ByteArray))++v82).size<=9223372036854775807 then
          F.f183 list out i x (i63+1) (s64++((((((((⟨#[32]⟩:ByteArray)++v70)++(⟨#[58]⟩:ByteArray))++v74)++(⟨#[45]⟩:ByteArray))++v78)++(⟨#[62]⟩:ByteArray))++v82))
         else none
        else none
       else none
      else none
     else none
    else none
   else none
  else none
 else
  some s64
 partial_fixpoint
def F.f184 (list:List Vl.Node)(out:List Int)(i:Nat):Option (List Int):=
 if i<list.length then
  list[i]?>>=fun x=>
  F.f179 (i:Int)>>=fun v8=>
  if x.op=0 then
   if v8.size+(⟨#[32,102,97,105,108,10]⟩:ByteArray).size<=9223372036854775807 then
    if out.length+(v8++(⟨#[32,102,97,105,108,10]⟩:ByteArray)).size<=1073741824 then
     F.f184 list (out++Zh (v8++(⟨#[32,102,97,105,108,10]⟩:ByteArray))) (i+1)
    else none
   else none
  else
   if x.op=1 then
    F.f179 x.clause>>=fun v17=>
    if(⟨#[32,108,101,97,102,32]⟩:ByteArray).size+v17.size<=9223372036854775807 then
     if v8.size+((⟨#[32,108,101,97,102,32]⟩:ByteArray)++v17).size<=9223372036854775807 then
      F.f182 list out i x 0 (v8++((⟨#[32,108,101,97,102,32]⟩:ByteArray)++v17))>>=fun o'=>
      if 0<=x.els then
       F.f179 x.els>>=fun v47=>
       if(⟨#[32,101,108,115,101,32]⟩:ByteArray).size+v47.size<=9223372036854775807 then
        if o'.size+((⟨#[32,101,108,115,101,32]⟩:ByteArray)++v47).size<=9223372036854775807 then
         if(o'++((⟨#[32,101,108,115,101,32]⟩:ByteArray)++v47)).size+(⟨#[10]⟩:ByteArray).size<=9223372036854775807 then
          if out.length+((o'++((⟨#[32,101,108,115,101,32]⟩:ByteArray)++v47))++(⟨#[10]⟩:ByteArray)).size<=1073741824 then
           if i+1<=9223372036854775807 then
            F.f184 list (out++Zh ((o'++((⟨#[32,101,108,115,101,32]⟩:ByteArray)++v47))++(⟨#[10]⟩:ByteArray))) (i+1)
           else none
          else none
         else none
        else none
       else none
      else
       if o'.size+(⟨#[10]⟩:ByteArray).size<=9223372036854775807 then
        if out.length+(o'++(⟨#[10]⟩:ByteArray)).size<=1073741824 then
         if i+1<=9223372036854775807 then
          F.f184 list (out++Zh (o'++(⟨#[10]⟩:ByteArray))) (i+1)
         else none
        else none
       else none
     else none
    else none
   else
    F.f181 x.path>>=fun v59=>
    if(⟨#[32,115,119,105,116,99,104,32]⟩:ByteArray).size+v59.size<=9223372036854775807 then
     if v8.size+((⟨#[32,115,119,105,116,99,104,32]⟩:ByteArray)++v59).size<=9223372036854775807 then
      F.f183 list out i x 0 (v8++((⟨#[32,115,119,105,116,99,104,32]⟩:ByteArray)++v59))>>=fun o'88=>
      if 0<=x.els then
       F.f179 x.els>>=fun v91=>
       if(⟨#[32,101,108,115,101,32]⟩:ByteArray).size+v91.size<=9223372036854775807 then
        if o'88.size+((⟨#[32,101,108,115,101,32]⟩:ByteArray)++v91).size<=9223372036854775807 then
         if(o'88++((⟨#[32,101,108,115,101,32]⟩:ByteArray)++v91)).size+(⟨#[10]⟩:ByteArray).size<=9223372036854775807 then
          if out.length+((o'88++((⟨#[32,101,108,115,101,32]⟩:ByteArray)++v91))++(⟨#[10]⟩:ByteArray)).size<=1073741824 then
           if i+1<=9223372036854775807 then
            F.f184 list (out++Zh ((o'88++((⟨#[32,101,108,115,101,32]⟩:ByteArray)++v91))++(⟨#[10]⟩:ByteArray))) (i+1)
           else none
          else none
         else none
        else none
       else none
      else
       if o'88.size+(⟨#[10]⟩:ByteArray).size<=9223372036854775807 then
        if out.length+(o'88++(⟨#[10]⟩:ByteArray)).size<=1073741824 then
         if i+1<=9223372036854775807 then
          F.f184 list (out++Zh (o'88++(⟨#[10]⟩:ByteArray))) (i+1)
         else none
        else none
       else none
     else none
    else none
 else
  some out
 partial_fixpoint
def F.f185 (list:List Vl.Node):Option (ByteArray):=
 F.f178 list>>=fun v=>
 if v=true then
  F.f184 list [] 0>>=fun o'104=>
  if okB o'104/\o'104.length<=1073741824 then
   some (ZDE o'104)
  else none
 else
  some zC
def F.f186 (list:List Vl.Node)(i:Nat)(x:Vl.Node)(k:Nat):Option (Lo Bool Unit):=
 if k<x.edges.length then
  x.edges[k]?>>=fun x26=>
  if x26.to<0 then
   some (.ret false)
  else
   if(i:Int)<=x26.to then
    some (.ret false)
   else
    F.f186 list i x (k+1)
 else
  some (.go ())
 partial_fixpoint
def F.f187 (list:List Vl.Node)(i:Nat):Option (Lo Bool Unit):=
 if i<list.length then
  list[i]?>>=fun x=>
  if x.op<0 then
   some (.ret false)
  else
   if 2<x.op then
    some (.ret false)
   else
    F.f158>>=fun v=>
    if x.els<v then
     some (.ret false)
    else
     if(i:Int)<=x.els then
      some (.ret false)
     else
      if 10<x.edges.length then
       some (.ret false)
      else
       F.f186 list i x 0>>=fun o'=>
       match o' with
       | .ret r0=>some (.ret r0)
       | .go sx=>
        if i+1<=9223372036854775807 then
         F.f187 list (i+1)
        else none
 else
  some (.go ())
 partial_fixpoint
def F.f188 (list:List Vl.Node):Option (Bool):=
 if list.length=0 then
  some false
 else
  if 300<list.length then
   some false
  else
   F.f187 list 0>>=fun o'37=>
   match o'37 with
   | .ret r039=>some r039
   | .go sx38=>
    some true
def F.f189 (n:Int):Option (ByteArray):=
 if n<0 then
  if(-1000000)<n then
   F.f26 (i64.wrap (0-n))>>=fun v=>
   if(⟨#[45]⟩:ByteArray).size+v.size<=9223372036854775807 then
    some ((⟨#[45]⟩:ByteArray)++v)
   else none
  else
   F.f26 n>>=fun v7=>
   some v7
 else
  F.f26 n>>=fun v9=>
  some v9
def F.f190 (path:List Int)(out:ByteArray)(i:Nat):Option (ByteArray):=
 if i<path.length then
  if out.size+(⟨#[46]⟩:ByteArray).size<=9223372036854775807 then
   path[i]?>>=fun x=>
   F.f26 x>>=fun v=>
   if(out++(⟨#[46]⟩:ByteArray)).size+v.size<=9223372036854775807 then
    F.f190 path ((out++(⟨#[46]⟩:ByteArray))++v) (i+1)
   else none
  else none
 else
  some out
 partial_fixpoint
def F.f191 (path:List Int):Option (ByteArray):=
 F.f190 path (⟨#[118]⟩:ByteArray) 0>>=fun o'=>
 some o'
def F.f192 (x:Vl.Node)(out:ByteArray)(i:Nat):Option (ByteArray):=
 if i<x.edges.length then
  x.edges[i]?>>=fun x13=>
  if out.size+(⟨#[32]⟩:ByteArray).size<=9223372036854775807 then
   F.f189 x13.ctor>>=fun v16=>
   if(out++(⟨#[32]⟩:ByteArray)).size+v16.size<=9223372036854775807 then
    if((out++(⟨#[32]⟩:ByteArray))++v16).size+(⟨#[58]⟩:ByteArray).size<=9223372036854775807 then
     F.f189 x13.n>>=fun v20=>
     if(((out++(⟨#[32]⟩:ByteArray))++v16)++(⟨#[58]⟩:ByteArray)).size+v20.size<=9223372036854775807 then
      if((((out++(⟨#[32]⟩:ByteArray))++v16)++(⟨#[58]⟩:ByteArray))++v20).size+(⟨#[45]⟩:ByteArray).size<=9223372036854775807 then
       F.f189 x13.m>>=fun v24=>
       if(((((out++(⟨#[32]⟩:ByteArray))++v16)++(⟨#[58]⟩:ByteArray))++v20)++(⟨#[45]⟩:ByteArray)).size+v24.size<=9223372036854775807 then
        if((((((out++(⟨#[32]⟩:ByteArray))++v16)++(⟨#[58]⟩:ByteArray))++v20)++(⟨#[45]⟩:ByteArray))++v24).size+(⟨#[62]⟩:ByteArray).size<=9223372036854775807 then
         F.f26 x13.to>>=fun v28=>
         if(((((((out++(⟨#[32]⟩:ByteArray))++v16)++(⟨#[58]⟩:ByteArray))++v20)++(⟨#[45]⟩:ByteArray))++v24)++(⟨#[62]⟩:ByteArray)).size+v28.size<=9223372036854775807 then
          F.f192 x ((((((((out++(⟨#[32]⟩:ByteArray))++v16)++(⟨#[58]⟩:ByteArray))++v20)++(⟨#[45]⟩:ByteArray))++v24)++(⟨#[62]⟩:ByteArray))++v28) (i+1)
         else none
        else none
       else none
      else none
     else none
    else none
   else none
  else none
 else
  some out
 partial_fixpoint
def F.f193 (x:Vl.Node)(out39:ByteArray)(i40:Nat):Option (ByteArray):=
 if i40<x.edges.length then
  x.edges[i40]?>>=fun x44=>
  if out39.size+(⟨#[32]⟩:ByteArray).size<=9223372036854775807 then
   F.f189 x44.ctor>>=fun v47=>
   if(out39++(⟨#[32]⟩:ByteArray)).size+v47.size<=9223372036854775807 then
    if((out39++(⟨#[32]⟩:ByteArray))++v47).size+(⟨#[58]⟩:ByteArray).size<=9223372036854775807 then
     F.f189 x44.n>>=fun v51=>
     if(((out39++(⟨#[32]⟩:ByteArray))++v47)++(⟨#[58]⟩:ByteArray)).size+v51.size<=9223372036854775807 then
      if((((out39++(⟨#[32]⟩:ByteArray))++v47)++(⟨#[58]⟩:ByteArray))++v51).size+(⟨#[45]⟩:ByteArray).size<=9223372036854775807 then
       F.f189 x44.m>>=fun v55=>
       if(((((out39++(⟨#[32]⟩:ByteArray))++v47)++(⟨#[58]⟩:ByteArray))++v51)++(⟨#[45]⟩:ByteArray)).size+v55.size<=9223372036854775807 then
        if((((((out39++(⟨#[32]⟩:ByteArray))++v47)++(⟨#[58]⟩:ByteArray))++v51)++(⟨#[45]⟩:ByteArray))++v55).size+(⟨#[62]⟩:ByteArray).size<=9223372036854775807 then
         F.f26 x44.to>>=fun v59=>
         if(((((((out39++(⟨#[32]⟩:ByteArray))++v47)++(⟨#[58]⟩:ByteArray))++v51)++(⟨#[45]⟩:ByteArray))++v55)++(⟨#[62]⟩:ByteArray)).size+v59.size<=9223372036854775807 then
          F.f193 x ((((((((out39++(⟨#[32]⟩:ByteArray))++v47)++(⟨#[58]⟩:ByteArray))++v51)++(⟨#[45]⟩:ByteArray))++v55)++(⟨#[62]⟩:ByteArray))++v59) (i40+1)
         else none
        else none
       else none
      else none
     else none
    else none
   else none
  else none
 else
  some out39
 partial_fixpoint
def F.f194 (x:Vl.Node):Option (ByteArray):=
 if x.op=0 then
  some (⟨#[102,97,105,108]⟩:ByteArray)
 else
  F.f189 x.clause>>=fun v=>
  if(⟨#[108,101,97,102,32]⟩:ByteArray).size+v.size<=9223372036854775807 then
   if x.op=2 then
    F.f191 x.path>>=fun v7=>
    if(⟨#[115,119,105,116,99,104,32]⟩:ByteArray).size+v7.size<=9223372036854775807 then
     F.f192 x ((⟨#[115,119,105,116,99,104,32]⟩:ByteArray)++v7) 0>>=fun o'=>
     if 0<=x.els then
      if o'.size+(⟨#[32,101,108,115,101,32]⟩:ByteArray).size<=9223372036854775807 then
       F.f26 x.els>>=fun v36=>
       if(o'++(⟨#[32,101,108,115,101,32]⟩:ByteArray)).size+v36.size<=9223372036854775807 then
        some ((o'++(⟨#[32,101,108,115,101,32]⟩:ByteArray))++v36)
       else none
      else none
     else
      some o'
    else none
   else
    F.f193 x ((⟨#[108,101,97,102,32]⟩:ByteArray)++v) 0>>=fun o'64=>
    if 0<=x.els then
     if o'64.size+(⟨#[32,101,108,115,101,32]⟩:ByteArray).size<=9223372036854775807 then
      F.f26 x.els>>=fun v68=>
      if(o'64++(⟨#[32,101,108,115,101,32]⟩:ByteArray)).size+v68.size<=9223372036854775807 then
       some ((o'64++(⟨#[32,101,108,115,101,32]⟩:ByteArray))++v68)
      else none
     else none
    else
     some o'64
  else none
def F.f195 (list:List Vl.Node)(out:ByteArray)(i:Nat):Option (ByteArray):=
 if i<list.length then
  F.f188 list>>=fun v=>
  if v=true then
   F.f26 (i:Int)>>=fun v7=>
   if out.size+v7.size<=9223372036854775807 then
    if(out++v7).size+(⟨#[32]⟩:ByteArray).size<=9223372036854775807 then
     list[i]?>>=fun x=>
     F.f194 x>>=fun v12=>
     if((out++v7)++(⟨#[32]⟩:ByteArray)).size+v12.size<=9223372036854775807 then
      if(((out++v7)++(⟨#[32]⟩:ByteArray))++v12).size+(⟨#[10]⟩:ByteArray).size<=9223372036854775807 then
       F.f195 list ((((out++v7)++(⟨#[32]⟩:ByteArray))++v12)++(⟨#[10]⟩:ByteArray)) (i+1)
      else none
     else none
    else none
   else none
  else
   some out
 else
  some out
 partial_fixpoint
def F.f196 (list:List Vl.Node):Option (ByteArray):=
 F.f195 list zC 0>>=fun o'=>
 some o'
def F.f197 (v:List Vl.Node)(v5:ByteArray)(v7:Bool)(n:Nat)(i:Nat):Option (Nat):=
 if i<v5.size then
  if byteAt v5 i=10 then
   if n+1<=9223372036854775807 then
    if i+1<=9223372036854775807 then
     F.f197 v v5 v7 (n+1) (i+1)
    else none
   else none
  else
   if i+1<=9223372036854775807 then
    F.f197 v v5 v7 n (i+1)
   else none
 else
  some n
 partial_fixpoint
def F.f198 (code:List Int):Option (Bool):=
 if 1048576<code.length then
  some true
 else
  F.f171 code>>=fun v=>
  F.f185 v>>=fun v5=>
  F.f178 v>>=fun v7=>
  F.f196 v>>=fun v9=>
  if v5.toList=v9.toList then
   F.f188 v>>=fun v13=>
   if v7=v13 then
    F.f197 v v5 v7 0 0>>=fun o'=>
    if v7=true then
     if o'=v.length then
      some true
     else
      some false
    else
     some (decide (o'=0))
   else
    some false
  else
   some false
theorem F.tch_spec_l7Tree :True:=by have:=@F.f145.mutual_partial_correctness;trivial
end
end Go.Vl
