/- Part. -/
import Derived.Test.YtnockmfobogfpaaGreatVlFa
import Derived.Test.YtnockmfobogfpaaGreatVlFloat
import Derived.Test.YtnockmfobogfpaaGreatVlSwap
import Derived.Test.YtnockmfobogfpaaGreatVlSortL
set_option linter.all false
set_option synthInstance.maxSize 100000
set_option synthInstance.maxHeartbeats 4000000
set_option maxHeartbeats 4000000
open ByteArray renaming empty->zA
namespace Go.Vl
open Go
open Go.IntKind renaming u8->zB
open Go.IntKind (i64)
noncomputable section
structure ZB where
 f0:List Int
 f1:Int
def ZB.c (x:ZB):List AV:=[.arr (List.map cU x.f0),.lit (.int .i64 x.f1)]
@[simp] theorem ZB.c_eq (x:ZB):x.c=[.arr (List.map cU x.f0),.lit (.int .i64 x.f1)]:=rfl
abbrev ZB.z :ZB:=⟨[],0⟩
@[simp] theorem ZJX :Nice ZB.c:=⟨by simp,by simp,by simp⟩
@[simp] theorem ZJW :NiceLen ZB.c 2:=⟨by simp⟩
def F.f0  :Option (List ByteArray):=
 some [(⟨#[76,61,78,105,108,124,67,111,110,115,40,73,44,76,41]⟩:ByteArray),(⟨#[66,61,84,114,117,124,70,108,115,59,84,61,76,101,97,102,124,78,111,100,101,40,84,44,66,44,84,41]⟩:ByteArray),(⟨#[69,61,78,117,109,40,73,41,58,49,124,66,111,108,40,66,41,58,50,124,65,100,100,40,69,49,44,69,49,41,58,49,124,73,102,40,69,50,44,69,42,44,69,42,41,59,66,61,84,114,117,124,70,108,115]⟩:ByteArray),(⟨#[79,61,78,111,110,124,83,111,109,40,73,41,59,80,61,80,97,105,114,40,79,44,79,41]⟩:ByteArray),(⟨#[86,61,69,110,100,58,49,124,83,111,109,101,40,73,44,86,49,41,58,50,124,84,119,111,40,86,42,41]⟩:ByteArray),(⟨#[78,61,78,101,118,101,114,40,78,41,59,66,61,84,114,117,124,70,108,115,124,77,97,121,40,78,41]⟩:ByteArray),(⟨#[83,61,82,101,100,124,71,114,101,101,110,124,66,108,117,101,124,77,105,120,40,83,44,83,41]⟩:ByteArray),zA]
def F.f1 (r':ZB)(n:Int):Option (Int×ZB):=
 if n<1 then
  some (0,(⟨r'.f0,i64.wrap (r'.f1+1)⟩:ZB))
 else
  if r'.f0.length=0 then
   some (0,(⟨r'.f0,i64.wrap (r'.f1+1)⟩:ZB))
  else
   if i64.wrap (i64.wrap (r'.f1+1) -1)<(r'.f0.length:Int)then
    at? r'.f0 (i64.wrap (i64.wrap (r'.f1+1) -1))>>=fun x=>
    if n≠0 then
     some ((i64.wrap x).tmod n,(⟨r'.f0,i64.wrap (r'.f1+1)⟩:ZB))
    else none
   else
    if(r'.f0.length:Int)≠0 then
     at? r'.f0 ((i64.wrap (i64.wrap (r'.f1+1) -1)).tmod (r'.f0.length:Int))>>=fun x11=>
     at? r'.f0 ((i64.wrap (i64.wrap (i64.wrap (i64.wrap (r'.f1+1) -1)*7)+3)).tmod (r'.f0.length:Int))>>=fun x13=>
     if n≠0 then
      some ((ZNr .i64 (i64.wrap (i64.wrap (i64.wrap (i64.wrap (i64.wrap x11*131)+i64.wrap (i64.wrap x13*1117))+i64.wrap (i64.wrap (i64.wrap (r'.f1+1) -1)*29))+i64.wrap (i64.wrap ((i64.wrap (i64.wrap (r'.f1+1) -1)).tdiv (r'.f0.length:Int))*53))) (i64.wrap ((i64.wrap (i64.wrap (i64.wrap (i64.wrap (i64.wrap x11*131)+i64.wrap (i64.wrap x13*1117))+i64.wrap (i64.wrap (i64.wrap (r'.f1+1) -1)*29))+i64.wrap (i64.wrap ((i64.wrap (i64.wrap (r'.f1+1) -1)).tdiv (r'.f0.length:Int))*53))).tdiv 64))).tmod n,(⟨r'.f0,i64.wrap (r'.f1+1)⟩:ZB))
     else none
    else none
def F.f2 (s:ByteArray)(c':Int)(out:List ByteArray)(from':Nat)(i:Nat):Option (List ByteArray):=
 if i<=s.size then
  if i=s.size then
   if from'<=i/\i<=s.size then
    if out.length+1<=67108864 then
     if i+1<=9223372036854775807 then
      F.f2 s c' (out++[s.extract from' i]) (i+1) (i+1)
     else none
    else none
   else none
  else
   if i<s.size then
    if((byteAt s i:Nat):Int)=c' then
     if from'<=i/\i<=s.size then
      if out.length+1<=67108864 then
       if i+1<=9223372036854775807 then
        F.f2 s c' (out++[s.extract from' i]) (i+1) (i+1)
       else none
      else none
     else none
    else
     if i+1<=9223372036854775807 then
      F.f2 s c' out from' (i+1)
     else none
   else none
 else
  some out
 partial_fixpoint
def F.f3 (s:ByteArray)(c':Int):Option (List ByteArray):=
 F.f2 s c' [] 0 0>>=fun o'=>
 some o'
def F.f4 (names:List ByteArray)(s:ByteArray)(i:Nat):Option (Lo Int Unit):=
 if i<names.length then
  names[i]?>>=fun x=>
  if x.toList=s.toList then
   some (.ret (i:Int))
  else
   F.f4 names s (i+1)
 else
  some (.go ())
 partial_fixpoint
def F.f5 (names:List ByteArray)(s:ByteArray):Option (Int):=
 if s.toList=(⟨#[73]⟩:ByteArray).toList then
  some (-1)
 else
  F.f4 names s 0>>=fun o'=>
  match o' with
  | .ret r0=>some r0
  | .go sx=>
   some (-2)
def F.f6 (names:List ByteArray)(s:ByteArray):Option (Ty):=
 if s.toList=zA.toList then
  some (⟨(-2),0⟩:Ty)
 else
  if 1<=s.size then
   F.f5 names (s.extract 0 1)>>=fun v=>
   if(s.extract 1 s.size).toList=(⟨#[42]⟩:ByteArray).toList then
    some (⟨v,(-1)⟩:Ty)
   else
    if s.size=2 then
     if 1<s.size then
      if 48<=byteAt s 1 then
       if byteAt s 1<=57 then
        some (⟨v,i64.wrap (zB.wrap (((byteAt s 1:Nat):Int) -48))⟩:Ty)
       else
        some (⟨v,0⟩:Ty)
      else
       some (⟨v,0⟩:Ty)
     else none
    else
     some (⟨v,0⟩:Ty)
  else none
def F.f7 (names:List ByteArray)(s:ByteArray)(x:ByteArray)(v21:List ByteArray)(out:List Ty)(i:Nat):Option (List Ty):=
 if i<v21.length then
  if i<=3 then
   v21[i]?>>=fun x29=>
   F.f6 names x29>>=fun v31=>
   if out.length+1<=67108864 then
    F.f7 names s x v21 (out++[v31]) (i+1)
   else none
  else
   some out
 else
  some out
 partial_fixpoint
def F.f8 (names:List ByteArray)(x38:ByteArray)(v49:List ByteArray)(out51:List Ty)(i52:Nat):Option (List Ty):=
 if i52<v49.length then
  if i52<=3 then
   v49[i52]?>>=fun x59=>
   F.f6 names x59>>=fun v61=>
   if out51.length+1<=67108864 then
    F.f8 names x38 v49 (out51++[v61]) (i52+1)
   else none
  else
   some out51
 else
  some out51
 partial_fixpoint
def F.f9 (names:List ByteArray)(x69:ByteArray)(v80:List ByteArray)(out82:List Ty)(i83:Nat):Option (List Ty):=
 if i83<v80.length then
  if i83<=3 then
   v80[i83]?>>=fun x90=>
   F.f6 names x90>>=fun v92=>
   if out82.length+1<=67108864 then
    F.f9 names x69 v80 (out82++[v92]) (i83+1)
   else none
  else
   some out82
 else
  some out82
 partial_fixpoint
def F.f10 (names:List ByteArray)(s:ByteArray):Option (Ctor):=
 if 2<s.size then
  if 0<=i64.wrap ((s.size:Int) -2)/\(i64.wrap ((s.size:Int) -2)).toNat<s.size then
   if byteAt s ((i64.wrap ((s.size:Int) -2)).toNat)=58 then
    if 0<=i64.wrap ((s.size:Int) -1)/\(i64.wrap ((s.size:Int) -1)).toNat<s.size then
     if 0<=i64.wrap ((s.size:Int) -2)/\(i64.wrap ((s.size:Int) -2)).toNat<=s.size then
      F.f3 (s.extract 0 ((i64.wrap ((s.size:Int) -2)).toNat)) 40>>=fun v=>
      v[0]?>>=fun x=>
      if v.length<2 then
       some (⟨x,[],i64.wrap (i64.wrap ((byteAt s ((i64.wrap ((s.size:Int) -1)).toNat):Nat):Int) -48)⟩:Ctor)
      else
       v[1]?>>=fun x15=>
       if x15.size=0 then
        some (⟨x,[],i64.wrap (i64.wrap ((byteAt s ((i64.wrap ((s.size:Int) -1)).toNat):Nat):Int) -48)⟩:Ctor)
       else
        if 0<=i64.wrap ((x15.size:Int) -1)/\(i64.wrap ((x15.size:Int) -1)).toNat<=x15.size then
         F.f3 (x15.extract 0 ((i64.wrap ((x15.size:Int) -1)).toNat)) 44>>=fun v21=>
         F.f7 names s x v21 [] 0>>=fun o'=>
         some (⟨x,o',i64.wrap (i64.wrap ((byteAt s ((i64.wrap ((s.size:Int) -1)).toNat):Nat):Int) -48)⟩:Ctor)
        else none
     else none
    else none
   else
    F.f3 s 40>>=fun v36=>
    v36[0]?>>=fun x38=>
    if v36.length<2 then
     some (⟨x38,[],0⟩:Ctor)
    else
     v36[1]?>>=fun x43=>
     if x43.size=0 then
      some (⟨x38,[],0⟩:Ctor)
     else
      if 0<=i64.wrap ((x43.size:Int) -1)/\(i64.wrap ((x43.size:Int) -1)).toNat<=x43.size then
       F.f3 (x43.extract 0 ((i64.wrap ((x43.size:Int) -1)).toNat)) 44>>=fun v49=>
       F.f8 names x38 v49 [] 0>>=fun o'66=>
       some (⟨x38,o'66,0⟩:Ctor)
      else none
  else none
 else
  F.f3 s 40>>=fun v67=>
  v67[0]?>>=fun x69=>
  if v67.length<2 then
   some (⟨x69,[],0⟩:Ctor)
  else
   v67[1]?>>=fun x74=>
   if x74.size=0 then
    some (⟨x69,[],0⟩:Ctor)
   else
    if 0<=i64.wrap ((x74.size:Int) -1)/\(i64.wrap ((x74.size:Int) -1)).toNat<=x74.size then
     F.f3 (x74.extract 0 ((i64.wrap ((x74.size:Int) -1)).toNat)) 44>>=fun v80=>
     F.f9 names x69 v80 [] 0>>=fun o'97=>
     some (⟨x69,o'97,0⟩:Ctor)
    else none
def F.f11 (c':Int):Option (Bool):=
 if 65<=c' then
  some (decide (c'<=90))
 else
  some false
def F.f12 (s:ByteArray):Option (Bool):=
 if s.size=1 then
  if 0<s.size then
   F.f11 ((byteAt s 0:Nat):Int)>>=fun v=>
   if v=true then
    some (decide (¬(s.toList=(⟨#[73]⟩:ByteArray).toList)))
   else
    some false
  else none
 else
  some false
def F.f13 (s:ByteArray)(i:Nat):Option (Lo Bool Unit):=
 if i<s.size then
  if byteAt s i<97 then
   some (.ret false)
  else
   if 122<byteAt s i then
    some (.ret false)
   else
    if i+1<=9223372036854775807 then
     F.f13 s (i+1)
    else none
 else
  some (.go ())
 partial_fixpoint
def F.f14 (s:ByteArray):Option (Bool):=
 if s.size=0 then
  some false
 else
  if 5<s.size then
   some false
  else
   if 0<s.size then
    F.f11 ((byteAt s 0:Nat):Int)>>=fun v=>
    if v=true then
     F.f13 s 1>>=fun o'=>
     match o' with
     | .ret r0=>some r0
     | .go sx=>
      some true
    else
     some false
   else none
def F.f15 (n:Int)(t:Ty):Option (Bool):=
 if t.data=(-1)then
  some (decide (t.index=0))
 else
  if 0<=t.data then
   if t.data<n then
    if(-1)<=t.index then
     some (decide (t.index<=3))
    else
     some false
   else
    some false
  else
   some false
def F.f16 (n:Int)(c':Ctor)(i:Nat):Option (Lo Bool Unit):=
 if i<c'.args.length then
  c'.args[i]?>>=fun x=>
  F.f15 n x>>=fun v15=>
  if v15=true then
   F.f16 n c' (i+1)
  else
   some (.ret false)
 else
  some (.go ())
 partial_fixpoint
def F.f17 (n:Int)(c':Ctor):Option (Bool):=
 F.f14 c'.name>>=fun v=>
 if v=true then
  if 3<c'.args.length then
   some false
  else
   if c'.index<0 then
    some false
   else
    if 3<c'.index then
     some false
    else
     F.f16 n c' 0>>=fun o'=>
     match o' with
     | .ret r0=>some r0
     | .go sx=>
      some true
 else
  some false
def F.f18 (w:List Vl.Data)(d:Int)(k:Int)(i:Nat)(j:Nat):Option (Lo Bool Unit):=
 w[i]?>>=fun x10=>
 if j<x10.ctors.length then
  if(i:Int)<d then
   at? w d>>=fun x33=>
   if k<(x33.ctors.length:Int)then
    x10.ctors[j]?>>=fun x37=>
    at? x33.ctors k>>=fun x39=>
    if x37.name.toList=x39.name.toList then
     some (.ret true)
    else
     if j+1<=9223372036854775807 then
      F.f18 w d k i (j+1)
     else none
   else
    if j+1<=9223372036854775807 then
     F.f18 w d k i (j+1)
    else none
  else
   if(j:Int)<k then
    at? w d>>=fun x19=>
    if k<(x19.ctors.length:Int)then
     x10.ctors[j]?>>=fun x23=>
     at? x19.ctors k>>=fun x25=>
     if x23.name.toList=x25.name.toList then
      some (.ret true)
     else
      if j+1<=9223372036854775807 then
       F.f18 w d k i (j+1)
      else none
    else
     if j+1<=9223372036854775807 then
      F.f18 w d k i (j+1)
     else none
   else
    some (.go ())
 else
  some (.go ())
 partial_fixpoint
def F.f19 (w:List Vl.Data)(d:Int)(k:Int)(i:Nat)(j50:Nat):Option (Lo Bool Unit):=
 w[i]?>>=fun x51=>
 if j50<x51.ctors.length then
  if(i:Int)<d then
   at? w d>>=fun x74=>
   if k<(x74.ctors.length:Int)then
    x51.ctors[j50]?>>=fun x78=>
    at? x74.ctors k>>=fun x80=>
    if x78.name.toList=x80.name.toList then
     some (.ret true)
    else
     if j50+1<=9223372036854775807 then
      F.f19 w d k i (j50+1)
     else none
   else
    if j50+1<=9223372036854775807 then
     F.f19 w d k i (j50+1)
    else none
  else
   if(j50:Int)<k then
    at? w d>>=fun x60=>
    if k<(x60.ctors.length:Int)then
     x51.ctors[j50]?>>=fun x64=>
     at? x60.ctors k>>=fun x66=>
     if x64.name.toList=x66.name.toList then
      some (.ret true)
     else
      if j50+1<=9223372036854775807 then
       F.f19 w d k i (j50+1)
      else none
    else
     if j50+1<=9223372036854775807 then
      F.f19 w d k i (j50+1)
     else none
   else
    some (.go ())
 else
  some (.go ())
 partial_fixpoint
def F.f20 (w:List Vl.Data)(d:Int)(k:Int)(i:Nat):Option (Lo Bool Unit):=
 if(i:Int)<=d then
  if(i:Int)<d then
   w[i]?>>=fun x=>
   at? w d>>=fun x6=>
   if x.name.toList=x6.name.toList then
    some (.ret true)
   else
    F.f18 w d k i 0>>=fun o'=>
    match o' with
    | .ret r0=>some (.ret r0)
    | .go sx=>
     if i+1<=9223372036854775807 then
      F.f20 w d k (i+1)
     else none
  else
   F.f19 w d k i 0>>=fun o'89=>
   match o'89 with
   | .ret r093=>some (.ret r093)
   | .go sx90=>
    if i+1<=9223372036854775807 then
     F.f20 w d k (i+1)
    else none
 else
  some (.go ())
 partial_fixpoint
def F.f21 (w:List Vl.Data)(d:Int)(k:Int):Option (Bool):=
 F.f20 w d k 0>>=fun o'95=>
 match o'95 with
 | .ret r097=>some r097
 | .go sx96=>
  some false
def F.f22 (w:List Vl.Data)(d:Nat)(k:Nat):Option (Lo Bool Unit):=
 w[d]?>>=fun x17=>
 if k<x17.ctors.length then
  x17.ctors[k]?>>=fun x22=>
  F.f17 (w.length:Int) x22>>=fun v24=>
  if v24=true then
   F.f21 w (d:Int) (k:Int)>>=fun v28=>
   if v28=true then
    some (.ret false)
   else
    if k+1<=9223372036854775807 then
     F.f22 w d (k+1)
    else none
  else
   some (.ret false)
 else
  some (.go ())
 partial_fixpoint
def F.f23 (w:List Vl.Data)(d:Nat):Option (Lo Bool Unit):=
 if d<w.length then
  w[d]?>>=fun x=>
  F.f12 x.name>>=fun v=>
  if v=true then
   if x.ctors.length=0 then
    some (.ret false)
   else
    if 4<x.ctors.length then
     some (.ret false)
    else
     F.f22 w d 0>>=fun o'=>
     match o' with
     | .ret r0=>some (.ret r0)
     | .go sx=>
      if d+1<=9223372036854775807 then
       F.f23 w (d+1)
      else none
  else
   some (.ret false)
 else
  some (.go ())
 partial_fixpoint
def F.f24 (w:List Vl.Data):Option (Bool):=
 if 4<w.length then
  some false
 else
  F.f23 w 0>>=fun o'38=>
  match o'38 with
  | .ret r040=>some r040
  | .go sx39=>
   some true
def F.f25 (n7:Int)(out:ByteArray):Option (Int×ByteArray):=
 if 9<n7 then
  if(ZG4 [zB.wrap (i64.wrap (48+n7.tmod 10))]).size+out.size<=9223372036854775807 then
   F.f25 (i64.wrap (n7.tdiv 10)) ((ZG4 [zB.wrap (i64.wrap (48+n7.tmod 10))])++out)
  else none
 else
  some (n7,out)
 partial_fixpoint
def F.f26 (n:Int):Option (ByteArray):=
 if n<(-9223372036854775807)then
  some (⟨#[45,57,50,50,51,51,55,50,48,51,54,56,53,52,55,55,53,56,48,56]⟩:ByteArray)
 else
  if n<0 then
   F.f26 (i64.wrap (0-n))>>=fun v=>
   if(⟨#[45]⟩:ByteArray).size+v.size<=9223372036854775807 then
    some ((⟨#[45]⟩:ByteArray)++v)
   else none
  else
   F.f25 n zA>>=fun o'=>
   if(ZG4 [zB.wrap (i64.wrap (48+o'.1))]).size+o'.2.size<=9223372036854775807 then
    some ((ZG4 [zB.wrap (i64.wrap (48+o'.1))])++o'.2)
   else none
 partial_fixpoint
def F.f27 (n:Int):Option (ByteArray):=
 if n=0 then
  some zA
 else
  if n=(-1)then
   some (⟨#[42]⟩:ByteArray)
  else
   F.f26 n>>=fun v=>
   some v
def F.f28 (w:List Vl.Data)(t:Ty):Option (ByteArray):=
 if t.data=(-1)then
  some (⟨#[73]⟩:ByteArray)
 else
  at? w t.data>>=fun x=>
  F.f27 t.index>>=fun v=>
  if x.name.size+v.size<=9223372036854775807 then
   some (x.name++v)
  else none
def F.f29 (w:List Vl.Data)(c':Ctor)(out:ByteArray)(i:Nat):Option (ByteArray):=
 if i<c'.args.length then
  if i=0 then
   if out.size+(⟨#[40]⟩:ByteArray).size<=9223372036854775807 then
    c'.args[i]?>>=fun x=>
    F.f28 w x>>=fun v=>
    if(out++(⟨#[40]⟩:ByteArray)).size+v.size<=9223372036854775807 then
     F.f29 w c' ((out++(⟨#[40]⟩:ByteArray))++v) (i+1)
    else none
   else none
  else
   if out.size+(⟨#[44]⟩:ByteArray).size<=9223372036854775807 then
    c'.args[i]?>>=fun x13=>
    F.f28 w x13>>=fun v15=>
    if(out++(⟨#[44]⟩:ByteArray)).size+v15.size<=9223372036854775807 then
     F.f29 w c' ((out++(⟨#[44]⟩:ByteArray))++v15) (i+1)
    else none
   else none
 else
  some out
 partial_fixpoint
def F.f30 (w:List Vl.Data)(c':Ctor):Option (ByteArray):=
 F.f29 w c' c'.name 0>>=fun o'=>
 if 0<c'.args.length then
  if o'.size+(⟨#[41]⟩:ByteArray).size<=9223372036854775807 then
   if 0<c'.index then
    if(o'++(⟨#[41]⟩:ByteArray)).size+(⟨#[58]⟩:ByteArray).size<=9223372036854775807 then
     F.f26 c'.index>>=fun v27=>
     if((o'++(⟨#[41]⟩:ByteArray))++(⟨#[58]⟩:ByteArray)).size+v27.size<=9223372036854775807 then
      some (((o'++(⟨#[41]⟩:ByteArray))++(⟨#[58]⟩:ByteArray))++v27)
     else none
    else none
   else
    some (o'++(⟨#[41]⟩:ByteArray))
  else none
 else
  if 0<c'.index then
   if o'.size+(⟨#[58]⟩:ByteArray).size<=9223372036854775807 then
    F.f26 c'.index>>=fun v33=>
    if(o'++(⟨#[58]⟩:ByteArray)).size+v33.size<=9223372036854775807 then
     some ((o'++(⟨#[58]⟩:ByteArray))++v33)
    else none
   else none
  else
   some o'
def F.f31 (w:List Vl.Data)(d:Nat)(out11:ByteArray)(k:Nat):Option (ByteArray):=
 w[d]?>>=fun x12=>
 if k<x12.ctors.length then
  if 0<k then
   if out11.size+(⟨#[124]⟩:ByteArray).size<=9223372036854775807 then
    x12.ctors[k]?>>=fun x21=>
    F.f30 w x21>>=fun v=>
    if(out11++(⟨#[124]⟩:ByteArray)).size+v.size<=9223372036854775807 then
     if k+1<=9223372036854775807 then
      F.f31 w d ((out11++(⟨#[124]⟩:ByteArray))++v) (k+1)
     else none
    else none
   else none
  else
   x12.ctors[k]?>>=fun x27=>
   F.f30 w x27>>=fun v29=>
   if out11.size+v29.size<=9223372036854775807 then
    if k+1<=9223372036854775807 then
     F.f31 w d (out11++v29) (k+1)
    else none
   else none
 else
  some out11
 partial_fixpoint
def F.f32 (w:List Vl.Data)(d:Nat)(out41:ByteArray)(k42:Nat):Option (ByteArray):=
 w[d]?>>=fun x43=>
 if k42<x43.ctors.length then
  if 0<k42 then
   if out41.size+(⟨#[124]⟩:ByteArray).size<=9223372036854775807 then
    x43.ctors[k42]?>>=fun x52=>
    F.f30 w x52>>=fun v54=>
    if(out41++(⟨#[124]⟩:ByteArray)).size+v54.size<=9223372036854775807 then
     if k42+1<=9223372036854775807 then
      F.f32 w d ((out41++(⟨#[124]⟩:ByteArray))++v54) (k42+1)
     else none
    else none
   else none
  else
   x43.ctors[k42]?>>=fun x59=>
   F.f30 w x59>>=fun v61=>
   if out41.size+v61.size<=9223372036854775807 then
    if k42+1<=9223372036854775807 then
     F.f32 w d (out41++v61) (k42+1)
    else none
   else none
 else
  some out41
 partial_fixpoint
def F.f33 (w:List Vl.Data)(out:ByteArray)(d:Nat):Option (ByteArray):=
 if d<w.length then
  if 0<d then
   if out.size+(⟨#[59]⟩:ByteArray).size<=9223372036854775807 then
    w[d]?>>=fun x=>
    if(out++(⟨#[59]⟩:ByteArray)).size+x.name.size<=9223372036854775807 then
     if((out++(⟨#[59]⟩:ByteArray))++x.name).size+(⟨#[61]⟩:ByteArray).size<=9223372036854775807 then
      F.f31 w d (((out++(⟨#[59]⟩:ByteArray))++x.name)++(⟨#[61]⟩:ByteArray)) 0>>=fun o'=>
      if d+1<=9223372036854775807 then
       F.f33 w o' (d+1)
      else none
     else none
    else none
   else none
  else
   w[d]?>>=fun x37=>
   if out.size+x37.name.size<=9223372036854775807 then
    if(out++x37.name).size+(⟨#[61]⟩:ByteArray).size<=9223372036854775807 then
     F.f32 w d ((out++x37.name)++(⟨#[61]⟩:ByteArray)) 0>>=fun o'67=>
     if d+1<=9223372036854775807 then
      F.f33 w o'67 (d+1)
     else none
    else none
   else none
 else
  some out
 partial_fixpoint
def F.f34 (w:List Vl.Data):Option (ByteArray):=
 F.f33 w zA 0>>=fun o'71=>
 some o'71
def F.f35 (text:ByteArray)(v:List ByteArray)(names:List ByteArray)(i:Nat):Option (Lo ((List Vl.Data)×Bool) (List ByteArray)):=
 if i<v.length then
  if i<=4 then
   if text.toList=zA.toList then
    some (.go names)
   else
    v[i]?>>=fun x=>
    F.f3 x 61>>=fun v11=>
    if v11.length=2 then
     v11[0]?>>=fun x16=>
     if names.length+1<=67108864 then
      F.f35 text v (names++[x16]) (i+1)
     else none
    else
     some (.ret ([],false))
  else
   some (.go names)
 else
  some (.go names)
 partial_fixpoint
def F.f36 (text:ByteArray)(v:List ByteArray)(out:List Vl.Data)(names21:List ByteArray)(i22:Nat)(v32:List ByteArray)(x34:ByteArray)(out36:List Ctor)(k:Nat):Option (List Ctor):=
 if k<v32.length then
  if k<=4 then
   v32[k]?>>=fun x43=>
   F.f10 names21 x43>>=fun v45=>
   if out36.length+1<=67108864 then
    F.f36 text v out names21 i22 v32 x34 (out36++[v45]) (k+1)
   else none
  else
   some out36
 else
  some out36
 partial_fixpoint
def F.f37 (text:ByteArray)(v:List ByteArray)(out:List Vl.Data)(names21:List ByteArray)(i22:Nat):Option (List Vl.Data):=
 if i22<names21.length then
  v[i22]?>>=fun x26=>
  F.f3 x26 61>>=fun v28=>
  v28[1]?>>=fun x30=>
  F.f3 x30 124>>=fun v32=>
  names21[i22]?>>=fun x34=>
  F.f36 text v out names21 i22 v32 x34 [] 0>>=fun o'50=>
  if out.length+1<=67108864 then
   if i22+1<=9223372036854775807 then
    F.f37 text v (out++[(⟨x34,o'50⟩:Vl.Data)]) names21 (i22+1)
   else none
  else none
 else
  some out
 partial_fixpoint
def F.f38 (text:ByteArray):Option ((List Vl.Data)×Bool):=
 F.f3 text 59>>=fun v=>
 F.f35 text v [] 0>>=fun o'=>
 match o' with
 | .ret r0=>some r0
 | .go sx=>
  F.f37 text v [] sx 0>>=fun o'55=>
  F.f24 o'55>>=fun v56=>
  if v56=true then
   F.f34 o'55>>=fun v60=>
   if v60.toList=text.toList then
    some (o'55,true)
   else
    some ([],false)
  else
   some ([],false)
def F.f39 (r':ZB):Option ((List Vl.Data)×ZB):=
 F.f0>>=fun v=>
 F.f1 r' (i64.wrap ((v.length:Int) -1))>>=fun v2=>
 at? v v2.1>>=fun x=>
 F.f38 x>>=fun v5=>
 some (v5.1,v2.2)
def F.f40 (c':Ctor)(index':Int):Option (Bool):=
 if c'.index=0 then
  some true
 else
  if index'=0 then
   some true
  else
   some (decide (c'.index=index'))
def F.f41 (w:List Vl.Data)(t:Ty)(out:List Int)(k:Nat):Option (List Int):=
 at? w t.data>>=fun x=>
 if k<x.ctors.length then
  x.ctors[k]?>>=fun x7=>
  F.f40 x7 t.index>>=fun v=>
  if v=true then
   if out.length+1<=67108864 then
    if k+1<=9223372036854775807 then
     F.f41 w t (out++[(k:Int)]) (k+1)
    else none
   else none
  else
   if k+1<=9223372036854775807 then
    F.f41 w t out (k+1)
   else none
 else
  some out
 partial_fixpoint
def F.f42 (w:List Vl.Data)(t:Ty):Option (List Int):=
 if t.data=(-1)then
  some []
 else
  F.f41 w t [] 0>>=fun o'=>
  some o'
def F.f43 (c':Ctor)(index':Int):Option (Int):=
 if c'.index=0 then
  some index'
 else
  some c'.index
def F.f44 (t:Ty)(x2:Ctor)(out:List Ty)(i:Nat):Option (List Ty):=
 if i<x2.args.length then
  x2.args[i]?>>=fun x7=>
  if x7.index=(-1)then
   F.f43 x2 t.index>>=fun v=>
   if out.length+1<=67108864 then
    F.f44 t x2 (out++[(⟨x7.data,v⟩:Ty)]) (i+1)
   else none
  else
   if out.length+1<=67108864 then
    F.f44 t x2 (out++[x7]) (i+1)
   else none
 else
  some out
 partial_fixpoint
def F.f45 (w:List Vl.Data)(t:Ty)(ctor:Int):Option (List Ty):=
 at? w t.data>>=fun x=>
 at? x.ctors ctor>>=fun x2=>
 F.f44 t x2 [] 0>>=fun o'=>
 some o'
def F.f46 (t:Ty):Option (Int):=
 some (i64.wrap (i64.wrap (t.data*4)+t.index))
def F.f47 (table:List Int)(t:Ty):Option (Int):=
 if t.data=(-1)then
  some 1
 else
  F.f46 t>>=fun v=>
  at? table v>>=fun x=>
  some x
def F.f48 (table:List Int)(v:List Ty)(most:Int)(i:Nat):Option (Lo Int Int):=
 if i<v.length then
  v[i]?>>=fun x=>
  F.f47 table x>>=fun v6=>
  if v6=0 then
   some (.ret 0)
  else
   if most<v6 then
    F.f48 table v v6 (i+1)
   else
    F.f48 table v most (i+1)
 else
  some (.go most)
 partial_fixpoint
def F.f49 (w:List Vl.Data)(table:List Int)(t:Ty)(ctor:Int):Option (Int):=
 F.f45 w t ctor>>=fun v=>
 F.f48 table v 0 0>>=fun o'=>
 match o' with
 | .ret r0=>some r0
 | .go sx=>
  some (i64.wrap (sx+1))
def F.f50 (w:List Vl.Data)(n:Nat)(s:Nat)(v:List Int)(table10:List Int)(i:Nat):Option (List Int):=
 if i<v.length then
  v[i]?>>=fun x=>
  F.f49 w table10 (⟨i64.wrap ((s:Int).tdiv 4),(s:Int).tmod 4⟩:Ty) x>>=fun v15=>
  if 0<v15 then
   table10[s]?>>=fun x19=>
   if x19=0 then
    F.f50 w n s v (table10.set s v15) (i+1)
   else
    if v15<x19 then
     F.f50 w n s v (table10.set s v15) (i+1)
    else
     F.f50 w n s v table10 (i+1)
  else
   F.f50 w n s v table10 (i+1)
 else
  some table10
 partial_fixpoint
def F.f51 (w:List Vl.Data)(n:Nat)(table5:List Int)(s:Nat):Option (List Int):=
 if s<table5.length then
  F.f42 w (⟨i64.wrap ((s:Int).tdiv 4),(s:Int).tmod 4⟩:Ty)>>=fun v=>
  F.f50 w n s v table5 0>>=fun o'=>
  if s+1<=9223372036854775807 then
   F.f51 w n o' (s+1)
  else none
 else
  some table5
 partial_fixpoint
def F.f52 (w:List Vl.Data)(table:List Int)(n:Nat):Option (List Int):=
 if n<=table.length then
  F.f51 w n table 0>>=fun o'33=>
  if n+1<=9223372036854775807 then
   F.f52 w o'33 (n+1)
  else none
 else
  some table
 partial_fixpoint
def F.f53 (w:List Vl.Data):Option (List Int):=
 if 0<=i64.wrap ((w.length:Int)*4)/\(i64.wrap ((w.length:Int)*4)).toNat<=67108864 then
  F.f52 w (List.replicate ((i64.wrap ((w.length:Int)*4)).toNat) 0) 0>>=fun o'37=>
  some o'37
 else none
def F.f54 (r':ZB)(list:List Int):Option (Int×ZB):=
 F.f1 r' (list.length:Int)>>=fun v=>
 at? list v.1>>=fun x=>
 some (x,v.2)
def F.f55 (r':ZB)(w:List Vl.Data)(table:List Int)(t:Ty)(depth:Int)(v4:List Int)(fine:List Int)(i:Nat):Option (List Int):=
 if i<v4.length then
  v4[i]?>>=fun x=>
  F.f49 w table t x>>=fun v10=>
  if 0<v10 then
   if v10<=depth then
    if fine.length+1<=67108864 then
     F.f55 r' w table t depth v4 (fine++[x]) (i+1)
    else none
   else
    F.f47 table t>>=fun v16=>
    if v10=v16 then
     if fine.length+1<=67108864 then
      F.f55 r' w table t depth v4 (fine++[x]) (i+1)
     else none
    else
     F.f55 r' w table t depth v4 fine (i+1)
  else
   F.f55 r' w table t depth v4 fine (i+1)
 else
  some fine
 partial_fixpoint
mutual
def F.f56 (r':ZB)(w:List Vl.Data)(table:List Int)(t:Ty)(depth:Int):Option (Vl.Value×ZB):=
 if t.data=(-1)then
  F.f1 r' 10>>=fun v=>
  some ((⟨(-1),v.1,[]⟩:Vl.Value),v.2)
 else
  F.f42 w t>>=fun v4=>
  F.f55 r' w table t depth v4 [] 0>>=fun o'=>
  F.f1 r' (o'.length:Int)>>=fun v27=>
  at? o' v27.1>>=fun x29=>
  F.f45 w t x29>>=fun v31=>
  F.f57 w table depth x29 v31 v27.2.f0 v27.2.f1 [] 0>>=fun o'45=>
  some ((⟨x29,0,o'45.2.2⟩:Vl.Value),(⟨o'45.1,o'45.2.1⟩:ZB))
 partial_fixpoint
def F.f57 (w:List Vl.Data)(table:List Int)(depth:Int)(x29:Int)(v31:List Ty)(z:List Int)(z33:Int)(out:List Vl.Value)(i34:Nat):Option ((List Int)×Int×(List Vl.Value)):=
 if i34<v31.length then
  v31[i34]?>>=fun x38=>
  F.f56 (⟨z,z33⟩:ZB) w table x38 (i64.wrap (depth-1))>>=fun v40=>
  if out.length+1<=67108864 then
   F.f57 w table depth x29 v31 v40.2.f0 v40.2.f1 (out++[v40.1]) (i34+1)
  else none
 else
  some (z,z33,out)
 partial_fixpoint
end
def F.f58 (r':ZB):Option ((List Vl.Data)×Ty×Vl.Value×ZB):=
 F.f39 r'>>=fun v=>
 F.f53 v.1>>=fun v2=>
 F.f1 v.2 (v.1.length:Int)>>=fun v4=>
 F.f54 v4.2 [0,0,1,2]>>=fun v6=>
 F.f47 v2 (⟨v4.1,v6.1⟩:Ty)>>=fun v8=>
 if v8=0 then
  F.f54 v6.2 [3,2,4,1]>>=fun v12=>
  F.f56 v12.2 v.1 v2 (⟨(-1),0⟩:Ty) v12.1>>=fun v14=>
  some (v.1,(⟨(-1),0⟩:Ty),v14.1,v14.2)
 else
  F.f54 v6.2 [3,2,4,1]>>=fun v16=>
  F.f56 v16.2 v.1 v2 (⟨v4.1,v6.1⟩:Ty) v16.1>>=fun v18=>
  some (v.1,(⟨v4.1,v6.1⟩:Ty),v18.1,v18.2)
mutual
def F.f59 (r':ZB)(w:List Vl.Data)(t:Ty)(depth:Int):Option (Pattern×ZB):=
 if depth<2 then
  some ((⟨1,0,0,0,0,[]⟩:Pattern),r')
 else
  F.f1 r' 4>>=fun v=>
  if v.1=0 then
   some ((⟨1,0,0,0,0,[]⟩:Pattern),v.2)
  else
   F.f1 v.2 6>>=fun v6=>
   if v6.1=0 then
    F.f59 v6.2 w t (i64.wrap (depth-1))>>=fun v10=>
    F.f59 v10.2 w t (i64.wrap (depth-1))>>=fun v12=>
    some ((⟨5,0,0,0,0,[v10.1,v12.1]⟩:Pattern),v12.2)
   else
    if t.data=(-1)then
     F.f1 v6.2 10>>=fun v16=>
     F.f1 v16.2 (i64.wrap (10-v16.1))>>=fun v18=>
     F.f1 v18.2 2>>=fun v20=>
     some ((⟨3,0,v16.1,i64.wrap (v16.1+i64.wrap (v18.1*v20.1)),0,[]⟩:Pattern),v20.2)
    else
     F.f42 w t>>=fun v22=>
     if v22.length=0 then
      some ((⟨1,0,0,0,0,[]⟩:Pattern),v6.2)
     else
      F.f1 v6.2 (v22.length:Int)>>=fun v27=>
      at? v22 v27.1>>=fun x=>
      F.f45 w t x>>=fun v30=>
      F.f60 w depth x v30 v27.2.f0 v27.2.f1 [] 0>>=fun o'=>
      some ((⟨4,x,0,0,0,o'.2.2⟩:Pattern),(⟨o'.1,o'.2.1⟩:ZB))
 partial_fixpoint
def F.f60 (w:List Vl.Data)(depth:Int)(x:Int)(v30:List Ty)(z:List Int)(z32:Int)(out:List Pattern)(i:Nat):Option ((List Int)×Int×(List Pattern)):=
 if i<v30.length then
  v30[i]?>>=fun x36=>
  F.f59 (⟨z,z32⟩:ZB) w x36 (i64.wrap (depth-1))>>=fun v38=>
  if out.length+1<=67108864 then
   F.f60 w depth x v30 v38.2.f0 v38.2.f1 (out++[v38.1]) (i+1)
  else none
 else
  some (z,z32,out)
 partial_fixpoint
end
mutual
def F.f61 (r':ZB)(p:Pattern)(n:Int):Option (Pattern×Int×ZB):=
 if 5<n then
  some (p,n,r')
 else
  if p.op=5 then
   some (p,n,r')
  else
   if p.op=3 then
    some (p,n,r')
   else
    if p.op=1 then
     F.f1 r' 2>>=fun v=>
     if v.1=0 then
      some ((⟨2,0,0,0,n,[]⟩:Pattern),i64.wrap (n+1),v.2)
     else
      F.f62 p n v.2.f0 v.2.f1 [] 0 n>>=fun o'=>
      if o'.2.2.2<=5 then
       F.f1 (⟨o'.1,o'.2.1⟩:ZB) 6>>=fun v24=>
       if v24.1=0 then
        some ((⟨6,0,0,0,o'.2.2.2,[(⟨p.op,p.ctor,p.n,p.m,p.var,o'.2.2.1⟩:Pattern)]⟩:Pattern),i64.wrap (o'.2.2.2+1),v24.2)
       else
        some ((⟨p.op,p.ctor,p.n,p.m,p.var,o'.2.2.1⟩:Pattern),o'.2.2.2,v24.2)
      else
       some ((⟨p.op,p.ctor,p.n,p.m,p.var,o'.2.2.1⟩:Pattern),o'.2.2.2,(⟨o'.1,o'.2.1⟩:ZB))
    else
     F.f63 p n r'.f0 r'.f1 [] 0 n>>=fun o'43=>
     if o'43.2.2.2<=5 then
      F.f1 (⟨o'43.1,o'43.2.1⟩:ZB) 6>>=fun v46=>
      if v46.1=0 then
       some ((⟨6,0,0,0,o'43.2.2.2,[(⟨p.op,p.ctor,p.n,p.m,p.var,o'43.2.2.1⟩:Pattern)]⟩:Pattern),i64.wrap (o'43.2.2.2+1),v46.2)
      else
       some ((⟨p.op,p.ctor,p.n,p.m,p.var,o'43.2.2.1⟩:Pattern),o'43.2.2.2,v46.2)
     else
      some ((⟨p.op,p.ctor,p.n,p.m,p.var,o'43.2.2.1⟩:Pattern),o'43.2.2.2,(⟨o'43.1,o'43.2.1⟩:ZB))
 partial_fixpoint
def F.f62 (p:Pattern)(n:Int)(z:List Int)(z12:Int)(out:List Pattern)(i:Nat)(next:Int):Option ((List Int)×Int×(List Pattern)×Int):=
 if i<p.kids.length then
  p.kids[i]?>>=fun x=>
  F.f61 (⟨z,z12⟩:ZB) x next>>=fun v17=>
  if out.length+1<=67108864 then
   F.f62 p n v17.2.2.f0 v17.2.2.f1 (out++[v17.1]) (i+1) v17.2.1
  else none
 else
  some (z,z12,out,next)
 partial_fixpoint
def F.f63 (p:Pattern)(n:Int)(z28:List Int)(z29:Int)(out30:List Pattern)(i31:Nat)(next32:Int):Option ((List Int)×Int×(List Pattern)×Int):=
 if i31<p.kids.length then
  p.kids[i31]?>>=fun x36=>
  F.f61 (⟨z28,z29⟩:ZB) x36 next32>>=fun v38=>
  if out30.length+1<=67108864 then
   F.f63 p n v38.2.2.f0 v38.2.2.f1 (out30++[v38.1]) (i31+1) v38.2.1
  else none
 else
  some (z28,z29,out30,next32)
 partial_fixpoint
end
def F.f64 (list:List Int)(n:Int)(i:Nat):Option (Lo Bool Unit):=
 if i<list.length then
  list[i]?>>=fun x=>
  if x=n then
   some (.ret true)
  else
   F.f64 list n (i+1)
 else
  some (.go ())
 partial_fixpoint
def F.f65 (list:List Int)(n:Int):Option (Bool):=
 F.f64 list n 0>>=fun o'=>
 match o' with
 | .ret r0=>some r0
 | .go sx=>
  some false
def F.f66 (w:List Vl.Data)(t:Ty)(p:Pattern):Option (Bool):=
 if p.op=2 then
  if p.var<0 then
   some false
  else
   if 5<p.var then
    some false
   else
    if p.n=0 then
     if p.m=0 then
      if p.ctor=0 then
       some true
      else
       some false
     else
      some false
    else
     some false
 else
  if p.op=6 then
   if p.var<0 then
    some false
   else
    if 5<p.var then
     some false
    else
     if p.n=0 then
      if p.m=0 then
       if p.ctor=0 then
        some true
       else
        some false
      else
       some false
     else
      some false
  else
   if p.var=0 then
    if p.op=3 then
     if p.ctor=0 then
      if t.data=(-1)then
       if 0<=p.n then
        if p.n<=p.m then
         some (decide (p.m<=9))
        else
         some false
       else
        some false
      else
       some false
     else
      some false
    else
     if p.n=0 then
      if p.m=0 then
       if p.op=4 then
        F.f42 w t>>=fun v=>
        F.f65 v p.ctor>>=fun v38=>
        some v38
       else
        if p.ctor=0 then
         if p.op=1 then
          some true
         else
          if p.op=5 then
           some true
          else
           some false
        else
         some false
      else
       some false
     else
      some false
   else
    some false
def F.f67 (op:Int):Option (Int):=
 if op=5 then
  some 2
 else
  if op=6 then
   some 1
  else
   if op=4 then
    some (-1)
   else
    some 0
def F.f68 (t:Ty)(p:Pattern)(out:List Ty)(i:Nat):Option (List Ty):=
 F.f67 p.op>>=fun v4=>
 if(i:Int)<v4 then
  if out.length+1<=67108864 then
   if i+1<=9223372036854775807 then
    F.f68 t p (out++[t]) (i+1)
   else none
  else none
 else
  some out
 partial_fixpoint
def F.f69 (w:List Vl.Data)(t:Ty)(p:Pattern):Option (List Ty):=
 if p.op=4 then
  F.f45 w t p.ctor>>=fun v=>
  some v
 else
  F.f68 t p [] 0>>=fun o'=>
  some o'
mutual
def F.f70 (w:List Vl.Data)(t:Ty)(p:Pattern)(depth:Int):Option (Bool):=
 if depth<1 then
  some false
 else
  F.f66 w t p>>=fun v=>
  if v=true then
   F.f69 w t p>>=fun v6=>
   if p.kids.length=v6.length then
    F.f71 w p depth v6 0>>=fun o'=>
    match o' with
    | .ret r0=>some r0
    | .go sx=>
     some true
   else
    some false
  else
   some false
 partial_fixpoint
def F.f71 (w:List Vl.Data)(p:Pattern)(depth:Int)(v6:List Ty)(i:Nat):Option (Lo Bool Unit):=
 if i<v6.length then
  v6[i]?>>=fun x=>
  p.kids[i]?>>=fun x15=>
  F.f70 w x x15 (i64.wrap (depth-1))>>=fun v17=>
  if v17=true then
   F.f71 w p depth v6 (i+1)
  else
   some (.ret false)
 else
  some (.go ())
 partial_fixpoint
end
mutual
def F.f72 (p:Pattern)(most:Int):Option (Int):=
 F.f73 p most 1 0>>=fun o'=>
 some o'
 partial_fixpoint
def F.f73 (p:Pattern)(most:Int)(n:Int)(i:Nat):Option (Int):=
 if i<p.kids.length then
  if n<=most then
   p.kids[i]?>>=fun x=>
   F.f72 x (i64.wrap (most-n))>>=fun v=>
   F.f73 p most (i64.wrap (n+v)) (i+1)
  else
   some n
 else
  some n
 partial_fixpoint
end
mutual
def F.f74 (out:List VarType)(w:List Vl.Data)(t:Ty)(p:Pattern):Option (List VarType):=
 if p.op=2 then
  if out.length+1<=67108864 then
   F.f69 w t p>>=fun v59=>
   F.f77 w p v59 (out++[(⟨p.var,t⟩:VarType)]) 0>>=fun o'86=>
   some o'86
  else none
 else
  if p.op=6 then
   if out.length+1<=67108864 then
    F.f69 w t p>>=fun v=>
    F.f75 w p v (out++[(⟨p.var,t⟩:VarType)]) 0>>=fun o'=>
    some o'
   else none
  else
   F.f69 w t p>>=fun v30=>
   F.f76 w p v30 out 0>>=fun o'57=>
   some o'57
 partial_fixpoint
def F.f75 (w:List Vl.Data)(p:Pattern)(v:List Ty)(out7:List VarType)(i:Nat):Option (List VarType):=
 if i<v.length then
  if i=0 then
   v[i]?>>=fun x22=>
   p.kids[i]?>>=fun x24=>
   F.f74 out7 w x22 x24>>=fun v26=>
   F.f75 w p v v26 (i+1)
  else
   if p.op=5 then
    some out7
   else
    v[i]?>>=fun x=>
    p.kids[i]?>>=fun x17=>
    F.f74 out7 w x x17>>=fun v19=>
    F.f75 w p v v19 (i+1)
 else
  some out7
 partial_fixpoint
def F.f76 (w:List Vl.Data)(p:Pattern)(v30:List Ty)(out32:List VarType)(i33:Nat):Option (List VarType):=
 if i33<v30.length then
  if i33=0 then
   v30[i33]?>>=fun x49=>
   p.kids[i33]?>>=fun x51=>
   F.f74 out32 w x49 x51>>=fun v53=>
   F.f76 w p v30 v53 (i33+1)
  else
   if p.op=5 then
    some out32
   else
    v30[i33]?>>=fun x42=>
    p.kids[i33]?>>=fun x44=>
    F.f74 out32 w x42 x44>>=fun v46=>
    F.f76 w p v30 v46 (i33+1)
 else
  some out32
 partial_fixpoint
def F.f77 (w:List Vl.Data)(p:Pattern)(v59:List Ty)(out61:List VarType)(i62:Nat):Option (List VarType):=
 if i62<v59.length then
  if i62=0 then
   v59[i62]?>>=fun x78=>
   p.kids[i62]?>>=fun x80=>
   F.f74 out61 w x78 x80>>=fun v82=>
   F.f77 w p v59 v82 (i62+1)
  else
   if p.op=5 then
    some out61
   else
    v59[i62]?>>=fun x71=>
    p.kids[i62]?>>=fun x73=>
    F.f74 out61 w x71 x73>>=fun v75=>
    F.f77 w p v59 v75 (i62+1)
 else
  some out61
 partial_fixpoint
end
def F.f78 (list:List VarType)(n:Int)(i:Nat):Option (Lo Int Unit):=
 if i<list.length then
  list[i]?>>=fun x=>
  if x.var=n then
   some (.ret (i:Int))
  else
   F.f78 list n (i+1)
 else
  some (.go ())
 partial_fixpoint
def F.f79 (list:List VarType)(n:Int):Option (Int):=
 F.f78 list n 0>>=fun o'=>
 match o' with
 | .ret r0=>some r0
 | .go sx=>
  some (-1)
def F.f80 (a:List VarType)(b:List VarType)(i:Nat):Option (Lo Bool Unit):=
 if i<a.length then
  a[i]?>>=fun x=>
  F.f79 b x.var>>=fun v=>
  if v<0 then
   some (.ret false)
  else
   at? b v>>=fun x8=>
   if dec (eq2 (x8.type.data,x8.type.index) (x.type.data,x.type.index))=true then
    F.f80 a b (i+1)
   else
    some (.ret false)
 else
  some (.go ())
 partial_fixpoint
def F.f81 (a:List VarType)(b:List VarType):Option (Bool):=
 F.f80 a b 0>>=fun o'=>
 match o' with
 | .ret r0=>some r0
 | .go sx=>
  some (decide (a.length=b.length))
def F.f82 (v26:List VarType)(i28:Nat):Option (Lo Bool Unit):=
 if i28<v26.length then
  v26[i28]?>>=fun x32=>
  F.f79 v26 x32.var>>=fun v34=>
  if v34=(i28:Int)then
   F.f82 v26 (i28+1)
  else
   some (.ret false)
 else
  some (.go ())
 partial_fixpoint
mutual
def F.f83 (w:List Vl.Data)(t:Ty)(p:Pattern):Option (Bool):=
 F.f69 w t p>>=fun v=>
 F.f84 w t p v 0>>=fun o'=>
 match o' with
 | .ret r042=>some r042
 | .go sx=>
  if p.op=5 then
   p.kids[0]?>>=fun x16=>
   F.f74 [] w t x16>>=fun v18=>
   p.kids[1]?>>=fun x20=>
   F.f74 [] w t x20>>=fun v22=>
   F.f81 v18 v22>>=fun v24=>
   some v24
  else
   F.f74 [] w t p>>=fun v26=>
   F.f82 v26 0>>=fun o'40=>
   match o'40 with
   | .ret r0=>some r0
   | .go sx41=>
    some true
 partial_fixpoint
def F.f84 (w:List Vl.Data)(t:Ty)(p:Pattern)(v:List Ty)(i:Nat):Option (Lo Bool Unit):=
 if i<v.length then
  v[i]?>>=fun x=>
  p.kids[i]?>>=fun x6=>
  F.f83 w x x6>>=fun v8=>
  if v8=true then
   F.f84 w t p v (i+1)
  else
   some (.ret false)
 else
  some (.go ())
 partial_fixpoint
end
def F.f85 (w:List Vl.Data)(t:Ty)(p:Pattern):Option (Bool):=
 F.f70 w t p 10>>=fun v=>
 if v=true then
  F.f72 p 60>>=fun v4=>
  if v4<=60 then
   F.f83 w t p>>=fun v8=>
   some v8
  else
   some false
 else
  some false
def F.f86 (r':ZB)(w:List Vl.Data)(t:Ty):Option (Pattern×ZB):=
 F.f54 r' [3,2,4,1]>>=fun v=>
 F.f59 v.2 w t v.1>>=fun v2=>
 F.f61 v2.2 v2.1 0>>=fun v4=>
 F.f85 w t v4.1>>=fun v6=>
 if v6=true then
  some (v4.1,v4.2.2)
 else
  some ((⟨1,0,0,0,0,[]⟩:Pattern),v4.2.2)
def F.f87 (v:Pattern×ZB)(z:List Int)(z4:Int)(z5:Int)(z6:Int)(z7:Int)(vars:List VarType)(i:Nat):Option ((List Int)×Int×Int×Int×Int):=
 if i<vars.length then
  vars[i]?>>=fun x=>
  if x.type.data=(-1)then
   F.f1 (⟨z,z4⟩:ZB) 2>>=fun v14=>
   if v14.1=0 then
    F.f1 v14.2 2>>=fun v18=>
    F.f1 v18.2 10>>=fun v20=>
    F.f87 v v20.2.f0 v20.2.f1 (i64.wrap (1+v18.1)) x.var v20.1 vars (i+1)
   else
    F.f87 v v14.2.f0 v14.2.f1 z5 z6 z7 vars (i+1)
  else
   F.f87 v z z4 z5 z6 z7 vars (i+1)
 else
  some (z,z4,z5,z6,z7)
 partial_fixpoint
def F.f88 (r':ZB)(w:List Vl.Data)(t:Ty):Option (Clause×ZB):=
 F.f86 r' w t>>=fun v=>
 F.f74 [] w t v.1>>=fun v2=>
 F.f87 v v.2.f0 v.2.f1 0 0 0 v2 0>>=fun o'=>
 some ((⟨v.1,(⟨o'.2.2.1,o'.2.2.2.1,o'.2.2.2.2⟩:Guard)⟩:Clause),(⟨o'.1,o'.2.1⟩:ZB))
def F.f89 (w:List Vl.Data)(t:Ty)(z:List Int)(z2:Int)(out:List Clause)(i:Int):Option ((List Int)×Int×(List Clause)):=
 if 0<i then
  F.f88 (⟨z,z2⟩:ZB) w t>>=fun v5=>
  if out.length+1<=67108864 then
   F.f89 w t v5.2.f0 v5.2.f1 (out++[v5.1]) (i64.wrap (i-1))
  else none
 else
  some (z,z2,out)
 partial_fixpoint
def F.f90 (r':ZB)(w:List Vl.Data)(t:Ty):Option ((List Clause)×ZB):=
 F.f54 r' [3,2,4,5,1,0]>>=fun v=>
 F.f89 w t v.2.f0 v.2.f1 [] v.1>>=fun o'=>
 some (o'.2.2,(⟨o'.1,o'.2.1⟩:ZB))
def F.f91 (r':ZB):Option ((List Vl.Data)×Ty×(List Clause)×Vl.Value×ZB):=
 F.f58 r'>>=fun v=>
 F.f90 v.2.2.2 v.1 v.2.1>>=fun v2=>
 some (v.1,v.2.1,v2.1,v.2.2.1,v2.2)
def F.f92 (r':ZB)(p:Pattern):Option (Pattern×ZB):=
 if p.kids.length<=67108864 then
  F.f1 r' 30>>=fun v=>
  if v.1=0 then
   F.f54 v.2 [0,7,1,2,5]>>=fun v5=>
   some ((⟨v5.1,p.ctor,p.n,p.m,p.var,p.kids⟩:Pattern),v5.2)
  else
   if v.1=1 then
    F.f54 v.2 [6,(-1),1]>>=fun v9=>
    some ((⟨p.op,p.ctor,p.n,p.m,v9.1,p.kids⟩:Pattern),v9.2)
   else
    if v.1=2 then
     F.f54 v.2 [9,(-1),1]>>=fun v13=>
     some ((⟨p.op,v13.1,p.n,p.m,p.var,p.kids⟩:Pattern),v13.2)
    else
     if v.1=3 then
      if p.kids.length+1<=67108864 then
       some ((⟨p.op,p.ctor,p.n,p.m,p.var,p.kids++[(⟨2,0,0,0,0,[]⟩:Pattern)]⟩:Pattern),v.2)
      else none
     else
      if v.1=4 then
       if 0<p.kids.length then
        p.kids[0]?>>=fun x=>
        some ((⟨p.op,p.ctor,p.n,p.m,p.var,p.kids.set 0 (⟨2,0,0,0,0,[]⟩:Pattern)⟩:Pattern),v.2)
       else
        some (p,v.2)
      else
       if v.1=5 then
        F.f54 v.2 [10,(-1),5]>>=fun v26=>
        some ((⟨p.op,p.ctor,v26.1,p.m,p.var,p.kids⟩:Pattern),v26.2)
       else
        some (p,v.2)
 else none
def F.f93 (v:Int×ZB)(out:List Clause):Option (List Clause):=
 if out.length<=8 then
  if out.length+1<=67108864 then
   F.f93 v (out++[(⟨(⟨1,0,0,0,0,[]⟩:Pattern),(⟨0,0,0⟩:Guard)⟩:Clause)])
  else none
 else
  some out
 partial_fixpoint
def F.f94 (r':ZB)(list:List Clause):Option ((List Clause)×ZB):=
 if list.length<=67108864 then
  F.f1 r' 24>>=fun v=>
  if v.1=0 then
   if 0<list.length then
    F.f54 v.2 [1,2,3,(-1)]>>=fun v8=>
    F.f54 v8.2 [0,5,9]>>=fun v10=>
    F.f54 v10.2 [3,10,(-1)]>>=fun v12=>
    list[0]?>>=fun x=>
    some (list.set 0 (⟨x.pat,(⟨v8.1,v10.1,v12.1⟩:Guard)⟩:Clause),v12.2)
   else
    some (list,v.2)
  else
   if v.1=1 then
    if 0<list.length then
     list[0]?>>=fun x20=>
     F.f92 v.2 x20.pat>>=fun v22=>
     F.f92 v22.2 v22.1>>=fun v24=>
     some (list.set 0 (⟨v24.1,x20.guard⟩:Clause),v24.2)
    else
     some (list,v.2)
   else
    if v.1=2 then
     F.f93 v list>>=fun o'=>
     some (o',v.2)
    else
     some (list,v.2)
 else none
def F.f95 (r':ZB)(v:Vl.Value):Option (Vl.Value×ZB):=
 if v.kids.length<=67108864 then
  F.f1 r' 24>>=fun v2=>
  if v2.1=0 then
   F.f54 v2.2 [0,1,(-1),9,(-2)]>>=fun v6=>
   some ((⟨v6.1,v.n,v.kids⟩:Vl.Value),v6.2)
  else
   if v2.1=1 then
    F.f54 v2.2 [10,(-1),1]>>=fun v10=>
    some ((⟨v.ctor,v10.1,v.kids⟩:Vl.Value),v10.2)
   else
    if v2.1=2 then
     if v.kids.length+1<=67108864 then
      some ((⟨v.ctor,v.n,v.kids++[(⟨(-1),0,[]⟩:Vl.Value)]⟩:Vl.Value),v2.2)
     else none
    else
     if v2.1=3 then
      if 0<v.kids.length then
       v.kids[0]?>>=fun x=>
       F.f95 v2.2 x>>=fun v21=>
       F.f95 v21.2 v21.1>>=fun v23=>
       some ((⟨v.ctor,v.n,v.kids.set 0 v23.1⟩:Vl.Value),v23.2)
      else
       some (v,v2.2)
     else
      some (v,v2.2)
 else none
 partial_fixpoint
def F.f96 (code:List Int):Option ((List Vl.Data)×Ty×(List Clause)×Vl.Value):=
 if 2000<code.length then
  if 2000<=code.length then
   F.f91 (⟨(code.drop 0).take (2000-0),0⟩:ZB)>>=fun v=>
   F.f94 v.2.2.2.2 v.2.2.1>>=fun v6=>
   F.f95 v6.2 v.2.2.2.1>>=fun v8=>
   some (v.1,v.2.1,v6.1,v8.1)
  else none
 else
  F.f91 (⟨code,0⟩:ZB)>>=fun v10=>
  F.f94 v10.2.2.2.2 v10.2.2.1>>=fun v12=>
  F.f95 v12.2 v10.2.2.2.1>>=fun v14=>
  some (v10.1,v10.2.1,v12.1,v14.1)
def F.f97 (code:List Int):Option ((List Vl.Data)×Ty×(List Clause)×Vl.Value):=
 F.f96 code>>=fun v=>
 some (v.1,v.2.1,v.2.2.1,v.2.2.2)
def F.f98 (n:Int)(low:Int)(high:Int):Option (Bool):=
 if low<=n then
  some (decide (n<=high))
 else
  some false
def F.f99 (s:ByteArray)(i:Nat):Option (Lo Bool Unit):=
 if i<s.size then
  if byteAt s i<97 then
   some (.ret false)
  else
   if 122<byteAt s i then
    some (.ret false)
   else
    if i+1<=9223372036854775807 then
     F.f99 s (i+1)
    else none
 else
  some (.go ())
 partial_fixpoint
def F.f100 (s:ByteArray):Option (Bool):=
 F.f98 (s.size:Int) 1 5>>=fun v=>
 if v=true then
  if 0<s.size then
   if byteAt s 0<65 then
    some false
   else
    if 90<byteAt s 0 then
     some false
    else
     F.f99 s 1>>=fun o'=>
     match o' with
     | .ret r0=>some r0
     | .go sx=>
      some true
  else none
 else
  some false
def F.f101 (w:List Vl.Data)(t:Ty):Option (Bool):=
 if dec (eq2 (t.data,t.index) ((-1),0))=true then
  some true
 else
  F.f98 t.data 0 (i64.wrap ((w.length:Int) -1))>>=fun v=>
  if v=true then
   F.f98 t.index (-1) 3>>=fun v6=>
   some v6
  else
   some false
def F.f102 (t:Ty)(a1:List Vl.Data):Option (Bool):=
 F.f101 a1 t>>=fun v=>
 some (!v)
def F.f103 (s:List Ty)(k0:List Vl.Data)(i:Nat):Option (Lo Int Unit):=
 if i<s.length then
  s[i]?>>=fun x=>
  F.f102 x k0>>=fun v=>
  if v=true then
   some (.ret (i:Int))
  else
   F.f103 s k0 (i+1)
 else
  some (.go ())
 partial_fixpoint
def F.f104 (s:List Ty)(k0:List Vl.Data):Option (Int):=
 F.f103 s k0 0>>=fun o'=>
 match o' with
 | .ret r0=>some r0
 | .go sx=>
  some (-1)
def F.f105 (s:List Ty)(k0:List Vl.Data):Option (Bool):=
 F.f104 s k0>>=fun v=>
 some (decide (0<=v))
def F.f106 (w:List Vl.Data)(c':Ctor):Option (Bool):=
 F.f100 c'.name>>=fun v=>
 if v=true then
  if c'.args.length<=3 then
   F.f98 c'.index 0 3>>=fun v7=>
   if v7=true then
    F.f105 c'.args w>>=fun v11=>
    some (!v11)
   else
    some false
  else
   some false
 else
  some false
def F.f107 (w:List Vl.Data)(met4:List ByteArray)(i:Nat)(x:Vl.Data)(met26:List ByteArray)(i27:Nat):Option (Lo Bool (List ByteArray)):=
 if i27<x.ctors.length then
  x.ctors[i27]?>>=fun x31=>
  F.f106 w x31>>=fun v33=>
  if v33=true then
   if dec (x31.name∈met26)=true then
    some (.ret false)
   else
    F.f107 w met4 i x (ZCX met26 x31.name) (i27+1)
  else
   some (.ret false)
 else
  some (.go met26)
 partial_fixpoint
def F.f108 (w:List Vl.Data)(met:List ByteArray)(met4:List ByteArray)(i:Nat):Option (Lo Bool ((List ByteArray)×(List ByteArray))):=
 if i<w.length then
  w[i]?>>=fun x=>
  if x.name.size=1 then
   if 0<x.name.size then
    if byteAt x.name 0<65 then
     some (.ret false)
    else
     if 90<byteAt x.name 0 then
      some (.ret false)
     else
      if x.name.toList=(⟨#[73]⟩:ByteArray).toList then
       some (.ret false)
      else
       if dec (x.name∈met4)=true then
        some (.ret false)
       else
        F.f98 (x.ctors.length:Int) 1 4>>=fun v=>
        if v=true then
         F.f107 w met4 i x met 0>>=fun o'=>
         match o' with
         | .ret r0=>some (.ret r0)
         | .go sx=>
          if i+1<=9223372036854775807 then
           F.f108 w sx (ZCX met4 x.name) (i+1)
          else none
        else
         some (.ret false)
   else none
  else
   some (.ret false)
 else
  some (.go (met,met4))
 partial_fixpoint
def F.f109 (w:List Vl.Data):Option (Bool):=
 if 4<w.length then
  some false
 else
  F.f108 w [] [] 0>>=fun o'44=>
  match o'44 with
  | .ret r046=>some r046
  | .go sx45=>
   some true
def F.f110 (w:List Vl.Data)(t:Ty):Option (Bool):=
 if dec (eq2 (t.data,t.index) ((-1),0))=true then
  some true
 else
  F.f98 t.data 0 (i64.wrap ((w.length:Int) -1))>>=fun v=>
  if v=true then
   F.f98 t.index 0 3>>=fun v6=>
   some v6
  else
   some false
def F.f111 (w:List Vl.Data)(t:Ty):Option (Bool):=
 F.f109 w>>=fun v=>
 if v=true then
  F.f110 w t>>=fun v4=>
  some v4
 else
  some false
def F.f112 (p:Pattern)(ctor:Bool)(numbers:Bool)(variable':Bool)(kids:Int):Option (Bool):=
 if ctor=true then
  if numbers=true then
   if variable'=true then
    some (decide ((p.kids.length:Int)=kids))
   else
    if p.var=0 then
     some (decide ((p.kids.length:Int)=kids))
    else
     some false
  else
   if p.n=0 then
    if p.m=0 then
     if variable'=true then
      some (decide ((p.kids.length:Int)=kids))
     else
      if p.var=0 then
       some (decide ((p.kids.length:Int)=kids))
      else
       some false
    else
     some false
   else
    some false
 else
  if p.ctor=0 then
   if numbers=true then
    if variable'=true then
     some (decide ((p.kids.length:Int)=kids))
    else
     if p.var=0 then
      some (decide ((p.kids.length:Int)=kids))
     else
      some false
   else
    if p.n=0 then
     if p.m=0 then
      if variable'=true then
       some (decide ((p.kids.length:Int)=kids))
      else
       if p.var=0 then
        some (decide ((p.kids.length:Int)=kids))
       else
        some false
     else
      some false
    else
     some false
  else
   some false
def F.f113 (v:Int):Option (Bool):=
 F.f98 v 0 5>>=fun v1=>
 some v1
def F.f114 (t:Ty)(x:Vl.Data)(i:Nat)(out:List Int):Option (List Int):=
 if i<x.ctors.length then
  x.ctors[i]?>>=fun x7=>
  if t.index=0 then
   if out.length+1<=67108864 then
    F.f114 t x (i+1) (out++[(i:Int)])
   else none
  else
   if x7.index=0 then
    if out.length+1<=67108864 then
     F.f114 t x (i+1) (out++[(i:Int)])
    else none
   else
    if x7.index=t.index then
     if out.length+1<=67108864 then
      F.f114 t x (i+1) (out++[(i:Int)])
     else none
    else
     F.f114 t x (i+1) out
 else
  some out
 partial_fixpoint
def F.f115 (w:List Vl.Data)(t:Ty):Option (List Int):=
 if t.data=(-1)then
  some []
 else
  at? w t.data>>=fun x=>
  F.f114 t x 0 []>>=fun o'=>
  some o'
def F.f116 (s:List Int)(v:Int)(i:Nat):Option (Lo Int Unit):=
 if i<s.length then
  s[i]?>>=fun x=>
  if v=x then
   some (.ret (i:Int))
  else
   F.f116 s v (i+1)
 else
  some (.go ())
 partial_fixpoint
def F.f117 (s:List Int)(v:Int):Option (Int):=
 F.f116 s v 0>>=fun o'=>
 match o' with
 | .ret r0=>some r0
 | .go sx=>
  some (-1)
def F.f118 (s:List Int)(v:Int):Option (Bool):=
 F.f117 s v>>=fun v1=>
 some (decide (0<=v1))
def F.f119 (t:Ty)(x2:Ctor)(i:Nat)(out:List Ty):Option (List Ty):=
 if i<x2.args.length then
  x2.args[i]?>>=fun x9=>
  if x9.index=(-1)then
   if out.length+1<=67108864 then
    F.f119 t x2 (i+1) (out++[(⟨x9.data,t.index⟩:Ty)])
   else none
  else
   if out.length+1<=67108864 then
    F.f119 t x2 (i+1) (out++[x9])
   else none
 else
  some out
 partial_fixpoint
def F.f120 (x2:Ctor)(i18:Nat)(out19:List Ty):Option (List Ty):=
 if i18<x2.args.length then
  x2.args[i18]?>>=fun x23=>
  if x23.index=(-1)then
   if out19.length+1<=67108864 then
    F.f120 x2 (i18+1) (out19++[(⟨x23.data,x2.index⟩:Ty)])
   else none
  else
   if out19.length+1<=67108864 then
    F.f120 x2 (i18+1) (out19++[x23])
   else none
 else
  some out19
 partial_fixpoint
def F.f121 (w:List Vl.Data)(t:Ty)(ctor:Int):Option (List Ty):=
 at? w t.data>>=fun x=>
 at? x.ctors ctor>>=fun x2=>
 if x2.index=0 then
  F.f119 t x2 0 []>>=fun o'=>
  some o'
 else
  F.f120 x2 0 []>>=fun o'32=>
  some o'32
def F.f122 (w:List Vl.Data)(t:Ty)(p:Pattern):Option ((List Ty)×Bool):=
 if p.op=1 then
  F.f112 p false false false 0>>=fun v=>
  some ([],v)
 else
  if p.op=2 then
   F.f112 p false false true 0>>=fun v6=>
   if v6=true then
    F.f113 p.var>>=fun v10=>
    some ([],v10)
   else
    some ([],false)
  else
   if p.op=3 then
    if t.data=(-1)then
     F.f112 p false true false 0>>=fun v16=>
     if v16=true then
      if 0<=p.n then
       if p.n<=p.m then
        some ([],decide (p.m<=9))
       else
        some ([],false)
      else
       some ([],false)
     else
      some ([],false)
    else
     some ([],false)
   else
    if p.op=4 then
     F.f115 w t>>=fun v26=>
     F.f118 v26 p.ctor>>=fun v28=>
     if v28=true then
      F.f121 w t p.ctor>>=fun v32=>
      F.f112 p true false false (v32.length:Int)>>=fun v34=>
      some (v32,v34)
     else
      some ([],false)
    else
     if p.op=5 then
      F.f112 p false false false 2>>=fun v38=>
      some ([t,t],v38)
     else
      if p.op=6 then
       F.f112 p false false true 1>>=fun v42=>
       if v42=true then
        F.f113 p.var>>=fun v46=>
        some ([t],v46)
       else
        some ([t],false)
      else
       some ([],false)
def F.f123 (s:List VarType)(v:VarType)(i:Nat):Option (Lo Int Unit):=
 if i<s.length then
  s[i]?>>=fun x=>
  if dec (eq3 (v.var,v.type.data,v.type.index) (x.var,x.type.data,x.type.index))=true then
   some (.ret (i:Int))
  else
   F.f123 s v (i+1)
 else
  some (.go ())
 partial_fixpoint
def F.f124 (s:List VarType)(v:VarType):Option (Int):=
 F.f123 s v 0>>=fun o'=>
 match o' with
 | .ret r0=>some r0
 | .go sx=>
  some (-1)
def F.f125 (s:List VarType)(v:VarType):Option (Bool):=
 F.f124 s v>>=fun v1=>
 some (decide (0<=v1))
def F.f126 (v:VarType)(a1:List VarType):Option (Bool):=
 F.f125 a1 v>>=fun v1=>
 some (!v1)
def F.f127 (s:List VarType)(k0:List VarType)(i:Nat):Option (Lo Int Unit):=
 if i<s.length then
  s[i]?>>=fun x=>
  F.f126 x k0>>=fun v=>
  if v=true then
   some (.ret (i:Int))
  else
   F.f127 s k0 (i+1)
 else
  some (.go ())
 partial_fixpoint
def F.f128 (s:List VarType)(k0:List VarType):Option (Int):=
 F.f127 s k0 0>>=fun o'=>
 match o' with
 | .ret r0=>some r0
 | .go sx=>
  some (-1)
def F.f129 (s:List VarType)(k0:List VarType):Option (Bool):=
 F.f128 s k0>>=fun v=>
 some (decide (0<=v))
def F.f130 (a:List VarType)(b:List VarType):Option (Bool):=
 if a.length=b.length then
  F.f129 a b>>=fun v=>
  some (!v)
 else
  some false
def F.f131 (sx:Int×(List VarType))(set':Nat->Bool)(i37:Nat):Option (Lo ((List VarType)×Bool×Int) Unit):=
 if i37<sx.2.length then
  sx.2[i37]?>>=fun x41=>
  if 0<=x41.var/\x41.var.toNat<6 then
   if set' x41.var.toNat=true then
    some (.ret ([],false,sx.1))
   else
    F.f131 sx (ZHC set' x41.var.toNat true) (i37+1)
  else none
 else
  some (.go ())
 partial_fixpoint
def F.f132 (sx81:Int×(List VarType))(set'82:Nat->Bool)(i83:Nat):Option (Lo ((List VarType)×Bool×Int) Unit):=
 if i83<sx81.2.length then
  sx81.2[i83]?>>=fun x87=>
  if 0<=x87.var/\x87.var.toNat<6 then
   if set'82 x87.var.toNat=true then
    some (.ret ([],false,sx81.1))
   else
    F.f132 sx81 (ZHC set'82 x87.var.toNat true) (i83+1)
  else none
 else
  some (.go ())
 partial_fixpoint
def F.f133 (sx128:Int×(List VarType))(set'129:Nat->Bool)(i130:Nat):Option (Lo ((List VarType)×Bool×Int) Unit):=
 if i130<sx128.2.length then
  sx128.2[i130]?>>=fun x134=>
  if 0<=x134.var/\x134.var.toNat<6 then
   if set'129 x134.var.toNat=true then
    some (.ret ([],false,sx128.1))
   else
    F.f133 sx128 (ZHC set'129 x134.var.toNat true) (i130+1)
  else none
 else
  some (.go ())
 partial_fixpoint
mutual
def F.f134 (w:List Vl.Data)(t:Ty)(p:Pattern)(deep:Int)(count:Int):Option ((List VarType)×Bool×Int):=
 if 60<i64.wrap (count+1)then
  some ([],false,i64.wrap (count+1))
 else
  if 10<deep then
   some ([],false,i64.wrap (count+1))
  else
   F.f122 w t p>>=fun v=>
   if v.2=true then
    if p.op=2 then
     F.f137 w p deep v (i64.wrap (count+1)) [(⟨p.var,t⟩:VarType)] 0>>=fun o'127=>
     match o'127 with
     | .ret r0144=>some r0144
     | .go sx128=>
      F.f133 sx128 (fun _=>false) 0>>=fun o'141=>
      match o'141 with
      | .ret r0143=>some r0143
      | .go sx142=>
       some (sx128.2,true,sx128.1)
    else
     if p.op=6 then
      F.f135 w p deep v (i64.wrap (count+1)) [(⟨p.var,t⟩:VarType)] 0>>=fun o'=>
      match o' with
      | .ret r050=>some r050
      | .go sx=>
       F.f131 sx (fun _=>false) 0>>=fun o'48=>
       match o'48 with
       | .ret r0=>some r0
       | .go sx49=>
        some (sx.2,true,sx.1)
     else
      F.f136 w p deep v (i64.wrap (count+1)) [] 0>>=fun o'80=>
      match o'80 with
      | .ret r097=>some r097
      | .go sx81=>
       F.f132 sx81 (fun _=>false) 0>>=fun o'94=>
       match o'94 with
       | .ret r096=>some r096
       | .go sx95=>
        some (sx81.2,true,sx81.1)
   else
    some ([],false,i64.wrap (count+1))
 partial_fixpoint
def F.f135 (w:List Vl.Data)(p:Pattern)(deep:Int)(v:(List Ty)×Bool)(z:Int)(vars:List VarType)(i:Nat):Option (Lo ((List VarType)×Bool×Int) (Int×(List VarType))):=
 if i<p.kids.length then
  p.kids[i]?>>=fun x=>
  v.1[i]?>>=fun x16=>
  F.f134 w x16 x (i64.wrap (deep+1)) z>>=fun v18=>
  if v18.2.1=true then
   if p.op=5 then
    if i=1 then
     F.f130 vars v18.1>>=fun v27=>
     if v27=true then
      F.f135 w p deep v v18.2.2 vars (i+1)
     else
      some (.ret ([],false,v18.2.2))
    else
     if vars.length+v18.1.length<=67108864 then
      F.f135 w p deep v v18.2.2 (vars++v18.1) (i+1)
     else none
   else
    if vars.length+v18.1.length<=67108864 then
     F.f135 w p deep v v18.2.2 (vars++v18.1) (i+1)
    else none
  else
   some (.ret ([],false,v18.2.2))
 else
  some (.go (z,vars))
 partial_fixpoint
def F.f136 (w:List Vl.Data)(p:Pattern)(deep:Int)(v:(List Ty)×Bool)(z51:Int)(vars52:List VarType)(i53:Nat):Option (Lo ((List VarType)×Bool×Int) (Int×(List VarType))):=
 if i53<p.kids.length then
  p.kids[i53]?>>=fun x57=>
  v.1[i53]?>>=fun x59=>
  F.f134 w x59 x57 (i64.wrap (deep+1)) z51>>=fun v61=>
  if v61.2.1=true then
   if p.op=5 then
    if i53=1 then
     F.f130 vars52 v61.1>>=fun v70=>
     if v70=true then
      F.f136 w p deep v v61.2.2 vars52 (i53+1)
     else
      some (.ret ([],false,v61.2.2))
    else
     if vars52.length+v61.1.length<=67108864 then
      F.f136 w p deep v v61.2.2 (vars52++v61.1) (i53+1)
     else none
   else
    if vars52.length+v61.1.length<=67108864 then
     F.f136 w p deep v v61.2.2 (vars52++v61.1) (i53+1)
    else none
  else
   some (.ret ([],false,v61.2.2))
 else
  some (.go (z51,vars52))
 partial_fixpoint
def F.f137 (w:List Vl.Data)(p:Pattern)(deep:Int)(v:(List Ty)×Bool)(z98:Int)(vars99:List VarType)(i100:Nat):Option (Lo ((List VarType)×Bool×Int) (Int×(List VarType))):=
 if i100<p.kids.length then
  p.kids[i100]?>>=fun x104=>
  v.1[i100]?>>=fun x106=>
  F.f134 w x106 x104 (i64.wrap (deep+1)) z98>>=fun v108=>
  if v108.2.1=true then
   if p.op=5 then
    if i100=1 then
     F.f130 vars99 v108.1>>=fun v117=>
     if v117=true then
      F.f137 w p deep v v108.2.2 vars99 (i100+1)
     else
      some (.ret ([],false,v108.2.2))
    else
     if vars99.length+v108.1.length<=67108864 then
      F.f137 w p deep v v108.2.2 (vars99++v108.1) (i100+1)
     else none
   else
    if vars99.length+v108.1.length<=67108864 then
     F.f137 w p deep v v108.2.2 (vars99++v108.1) (i100+1)
    else none
  else
   some (.ret ([],false,v108.2.2))
 else
  some (.go (z98,vars99))
 partial_fixpoint
end
def F.f138 (w:List Vl.Data)(t:Ty)(p:Pattern):Option ((List VarType)×Bool):=
 F.f134 w t p 1 0>>=fun v=>
 some (v.1,v.2.1)
def F.f139 (g:Guard)(vars:List VarType):Option (Bool):=
 if g.op=0 then
  some (dec (eq3 (g.op,g.var,g.n) (0,0,0)))
 else
  F.f98 g.op 1 2>>=fun v=>
  if v=true then
   F.f98 g.n 0 9>>=fun v6=>
   if v6=true then
    F.f125 vars (⟨g.var,(⟨(-1),0⟩:Ty)⟩:VarType)>>=fun v10=>
    some v10
   else
    some false
  else
   some false
def F.f140 (w:List Vl.Data)(t:Ty)(c':Clause):Option (Bool):=
 F.f138 w t c'.pat>>=fun v=>
 if v.2=true then
  F.f139 c'.guard v.1>>=fun v4=>
  some v4
 else
  some false
def F.f141 (c':Clause)(a1:List Vl.Data)(a2:Ty):Option (Bool):=
 F.f140 a1 a2 c'>>=fun v=>
 some (!v)
def F.f142 (s:List Clause)(k0:List Vl.Data)(k1:Ty)(i:Nat):Option (Lo Int Unit):=
 if i<s.length then
  s[i]?>>=fun x=>
  F.f141 x k0 k1>>=fun v=>
  if v=true then
   some (.ret (i:Int))
  else
   F.f142 s k0 k1 (i+1)
 else
  some (.go ())
 partial_fixpoint
def F.f143 (s:List Clause)(k0:List Vl.Data)(k1:Ty):Option (Int):=
 F.f142 s k0 k1 0>>=fun o'=>
 match o' with
 | .ret r0=>some r0
 | .go sx=>
  some (-1)
def F.f144 (s:List Clause)(k0:List Vl.Data)(k1:Ty):Option (Bool):=
 F.f143 s k0 k1>>=fun v=>
 some (decide (0<=v))
def F.f145 (w:List Vl.Data)(t:Ty)(list:List Clause):Option (Bool):=
 F.f111 w t>>=fun v=>
 if v=true then
  if list.length<=8 then
   F.f144 list w t>>=fun v7=>
   some (!v7)
  else
   some false
 else
  some false
mutual
def F.f146 (p:Pattern):Option (Int):=
 if p.op=5 then
  F.f147 p 0 0>>=fun o'=>
  some o'
 else
  F.f148 p 0 1>>=fun o'31=>
  some o'31
 partial_fixpoint
def F.f147 (p:Pattern)(i:Nat)(n:Int):Option (Int):=
 if i<p.kids.length then
  p.kids[i]?>>=fun x=>
  if p.op=5 then
   F.f146 x>>=fun v=>
   F.f147 p (i+1) (if 401<i64.wrap (n+v)then 401 else i64.wrap (n+v))
  else
   F.f146 x>>=fun v11=>
   F.f147 p (i+1) (if 401<i64.wrap (n*v11)then 401 else i64.wrap (n*v11))
 else
  some n
 partial_fixpoint
def F.f148 (p:Pattern)(i15:Nat)(n16:Int):Option (Int):=
 if i15<p.kids.length then
  p.kids[i15]?>>=fun x20=>
  if p.op=5 then
   F.f146 x20>>=fun v24=>
   F.f148 p (i15+1) (if 401<i64.wrap (n16+v24)then 401 else i64.wrap (n16+v24))
  else
   F.f146 x20>>=fun v27=>
   F.f148 p (i15+1) (if 401<i64.wrap (n16*v27)then 401 else i64.wrap (n16*v27))
 else
  some n16
 partial_fixpoint
end
def F.f149 (s:List Pattern):Option (List Pattern):=
 if s.length<=67108864 then
  some s
 else none
def F.f150 (p:Pattern)(list:List Pattern)(i:Nat)(v15:List Pattern)(i17:Nat)(x21:Pattern)(more23:List Pattern)(i24:Nat):Option (List Pattern):=
 if i24<v15.length then
  v15[i24]?>>=fun x28=>
  F.f149 x21.kids>>=fun v30=>
  if v30.length+1<=67108864 then
   if more23.length+1<=67108864 then
    F.f150 p list i v15 i17 x21 (more23++[(⟨x21.op,x21.ctor,x21.n,x21.m,x21.var,v30++[x28]⟩:Pattern)]) (i24+1)
   else none
  else none
 else
  some more23
 partial_fixpoint
def F.f151 (p:Pattern)(list:List Pattern)(i:Nat)(v15:List Pattern)(more:List Pattern)(i17:Nat):Option (List Pattern):=
 if i17<list.length then
  list[i17]?>>=fun x21=>
  F.f150 p list i v15 i17 x21 more 0>>=fun o'=>
  if i17+1<=9223372036854775807 then
   F.f151 p list i v15 o' (i17+1)
  else none
 else
  some more
 partial_fixpoint
mutual
def F.f152 (p:Pattern):Option (List Pattern):=
 if p.op=5 then
  p.kids[0]?>>=fun x=>
  F.f152 x>>=fun v=>
  p.kids[1]?>>=fun x5=>
  F.f152 x5>>=fun v7=>
  if v.length+v7.length<=67108864 then
   some (v++v7)
  else none
 else
  F.f153 p [(⟨p.op,p.ctor,p.n,p.m,p.var,[]⟩:Pattern)] 0>>=fun o'43=>
  some o'43
 partial_fixpoint
def F.f153 (p:Pattern)(list:List Pattern)(i:Nat):Option (List Pattern):=
 if i<p.kids.length then
  p.kids[i]?>>=fun x13=>
  F.f152 x13>>=fun v15=>
  F.f151 p list i v15 [] 0>>=fun o'39=>
  if i+1<=9223372036854775807 then
   F.f153 p o'39 (i+1)
  else none
 else
  some list
 partial_fixpoint
end
def F.f154 (list:List Clause)(out:List (List Pattern))(i:Nat):Option (Lo ((List (List Pattern))×Bool) (List (List Pattern))):=
 if i<list.length then
  list[i]?>>=fun x=>
  F.f146 x.pat>>=fun v=>
  if 40<v then
   some (.ret ([],false))
  else
   F.f152 x.pat>>=fun v8=>
   if out.length+1<=67108864 then
    F.f154 list (out++[v8]) (i+1)
   else none
 else
  some (.go out)
 partial_fixpoint
def F.f155 (list:List Clause):Option ((List (List Pattern))×Bool):=
 F.f154 list [] 0>>=fun o'=>
 match o' with
 | .ret r0=>some r0
 | .go sx=>
  some (sx,true)
def F.f156 (s:List Int):Option (List Int):=
 if s.length<=67108864 then
  some s
 else none
mutual
def F.f157 (p:Pattern)(path:List Int)(steps':List Step)(binds:List PathBind):Option ((List Step)×(List PathBind)):=
 F.f156 path>>=fun v=>
 if p.op=2 then
  if binds.length+1<=67108864 then
   F.f158 p path steps' (binds++[(⟨p.var,v⟩:PathBind)]) 0>>=fun o'=>
   some (o'.1,o'.2)
  else none
 else
  if p.op=6 then
   if binds.length+1<=67108864 then
    F.f159 p path steps' (binds++[(⟨p.var,v⟩:PathBind)]) 0>>=fun o'45=>
    some (o'45.1,o'45.2)
   else none
  else
   if p.op=3 then
    if steps'.length+1<=67108864 then
     F.f160 p path (steps'++[(⟨1,v,(-1),p.n,p.m,0,[],0⟩:Step)]) binds 0>>=fun o'69=>
     some (o'69.1,o'69.2)
    else none
   else
    if p.op=4 then
     if steps'.length+1<=67108864 then
      F.f161 p path (steps'++[(⟨1,v,p.ctor,0,0,0,[],0⟩:Step)]) binds 0>>=fun o'93=>
      some (o'93.1,o'93.2)
     else none
    else
     F.f162 p path steps' binds 0>>=fun o'114=>
     some (o'114.1,o'114.2)
 partial_fixpoint
def F.f158 (p:Pattern)(path:List Int)(out:List Step)(out5:List PathBind)(i:Nat):Option ((List Step)×(List PathBind)):=
 if i<p.kids.length then
  p.kids[i]?>>=fun x=>
  if p.op=4 then
   F.f156 path>>=fun v12=>
   if v12.length+1<=67108864 then
    F.f157 x (v12++[(i:Int)]) out out5>>=fun v15=>
    F.f158 p path v15.1 v15.2 (i+1)
   else none
  else
   F.f157 x path out out5>>=fun v18=>
   F.f158 p path v18.1 v18.2 (i+1)
 else
  some (out,out5)
 partial_fixpoint
def F.f159 (p:Pattern)(path:List Int)(out25:List Step)(out26:List PathBind)(i27:Nat):Option ((List Step)×(List PathBind)):=
 if i27<p.kids.length then
  p.kids[i27]?>>=fun x31=>
  if p.op=4 then
   F.f156 path>>=fun v35=>
   if v35.length+1<=67108864 then
    F.f157 x31 (v35++[(i27:Int)]) out25 out26>>=fun v38=>
    F.f159 p path v38.1 v38.2 (i27+1)
   else none
  else
   F.f157 x31 path out25 out26>>=fun v41=>
   F.f159 p path v41.1 v41.2 (i27+1)
 else
  some (out25,out26)
 partial_fixpoint
def F.f160 (p:Pattern)(path:List Int)(out49:List Step)(out50:List PathBind)(i51:Nat):Option ((List Step)×(List PathBind)):=
 if i51<p.kids.length then
  p.kids[i51]?>>=fun x55=>
  if p.op=4 then
   F.f156 path>>=fun v59=>
   if v59.length+1<=67108864 then
    F.f157 x55 (v59++[(i51:Int)]) out49 out50>>=fun v62=>
    F.f160 p path v62.1 v62.2 (i51+1)
   else none
  else
   F.f157 x55 path out49 out50>>=fun v65=>
   F.f160 p path v65.1 v65.2 (i51+1)
 else
  some (out49,out50)
 partial_fixpoint
def F.f161 (p:Pattern)(path:List Int)(out73:List Step)(out74:List PathBind)(i75:Nat):Option ((List Step)×(List PathBind)):=
 if i75<p.kids.length then
  p.kids[i75]?>>=fun x79=>
  if p.op=4 then
   F.f156 path>>=fun v83=>
   if v83.length+1<=67108864 then
    F.f157 x79 (v83++[(i75:Int)]) out73 out74>>=fun v86=>
    F.f161 p path v86.1 v86.2 (i75+1)
   else none
  else
   F.f157 x79 path out73 out74>>=fun v89=>
   F.f161 p path v89.1 v89.2 (i75+1)
 else
  some (out73,out74)
 partial_fixpoint
def F.f162 (p:Pattern)(path:List Int)(out94:List Step)(out95:List PathBind)(i96:Nat):Option ((List Step)×(List PathBind)):=
 if i96<p.kids.length then
  p.kids[i96]?>>=fun x100=>
  if p.op=4 then
   F.f156 path>>=fun v104=>
   if v104.length+1<=67108864 then
    F.f157 x100 (v104++[(i96:Int)]) out94 out95>>=fun v107=>
    F.f162 p path v107.1 v107.2 (i96+1)
   else none
  else
   F.f157 x100 path out94 out95>>=fun v110=>
   F.f162 p path v110.1 v110.2 (i96+1)
 else
  some (out94,out95)
 partial_fixpoint
end
def F.f163 (x:List PathBind):Option (List PathBind):=
 if(List.map (fun x=>x.var) x).Nodup/\x.length<=67108864 then
  some (sortI (fun x=>x.var) x)
 else none
def F.f164 (v4:(List (List Pattern))×Bool)(out:List Step)(i:Nat)(x:List Pattern)(i13:Nat)(v21:List PathBind)(out24:List Step)(k:Nat):Option (List Step):=
 if k<out24.length then
  if out24.length+1<=9223372036854775807 then
   out24[k]?>>=fun x30=>
   F.f164 v4 out i x i13 v21 (out24.set k (⟨x30.op,x30.path,x30.ctor,x30.n,x30.m,x30.clause,x30.binds,((out24.length+1:Nat):Int)⟩:Step)) (k+1)
  else none
 else
  some out24
 partial_fixpoint
def F.f165 (v4:(List (List Pattern))×Bool)(out:List Step)(i:Nat)(x:List Pattern)(out12:List Step)(i13:Nat):Option (List Step):=
 if i13<x.length then
  x[i13]?>>=fun x17=>
  F.f157 x17 [] out12 []>>=fun v19=>
  F.f163 v19.2>>=fun v21=>
  F.f164 v4 out i x i13 v21 v19.1 out12.length>>=fun o'=>
  if o'.length+1<=67108864 then
   if i13+1<=9223372036854775807 then
    F.f165 v4 out i x (o'++[(⟨2,[],0,0,0,(i:Int),v21,0⟩:Step)]) (i13+1)
   else none
  else none
 else
  some out12
 partial_fixpoint
def F.f166 (v4:(List (List Pattern))×Bool)(i:Nat)(out39:List Step)(k40:Nat):Option (List Step):=
 if k40<out39.length then
  out39[k40]?>>=fun x44=>
  if x44.op=2 then
   F.f166 v4 i (out39.set k40 (⟨x44.op,x44.path,x44.ctor,x44.n,x44.m,x44.clause,x44.binds,(out39.length:Int)⟩:Step)) (k40+1)
  else
   F.f166 v4 i out39 (k40+1)
 else
  some out39
 partial_fixpoint
def F.f167 (v4:(List (List Pattern))×Bool)(out:List Step)(i:Nat):Option (List Step):=
 if i<v4.1.length then
  v4.1[i]?>>=fun x=>
  F.f165 v4 out i x out 0>>=fun o'38=>
  F.f166 v4 i o'38 out.length>>=fun o'51=>
  if i+1<=9223372036854775807 then
   F.f167 v4 o'51 (i+1)
  else none
 else
  some out
 partial_fixpoint
def F.f168 (w:List Vl.Data)(t:Ty)(list:List Clause):Option ((List Step)×Bool):=
 F.f145 w t list>>=fun v=>
 if v=true then
  F.f155 list>>=fun v4=>
  if v4.2=true then
   F.f167 v4 [] 0>>=fun o'55=>
   if o'55.length+1<=67108864 then
    some (o'55++[(⟨3,[],0,0,0,0,[],0⟩:Step)],true)
   else none
  else
   some ([],false)
 else
  some ([],false)
mutual
def F.f169 (w:List Vl.Data)(t:Ty)(v:Vl.Value)(deep:Int)(holes:Bool)(count:Int):Option (Bool×Int):=
 if 60<i64.wrap (count+1)then
  some (false,i64.wrap (count+1))
 else
  if 10<deep then
   some (false,i64.wrap (count+1))
  else
   if holes=true then
    if v.ctor=(-2)then
     if v.n=0 then
      some (decide (v.kids.length=0),i64.wrap (count+1))
     else
      some (false,i64.wrap (count+1))
    else
     if t.data=(-1)then
      if v.ctor=(-1)then
       F.f98 v.n 0 9>>=fun v15=>
       if v15=true then
        some (decide (v.kids.length=0),i64.wrap (count+1))
       else
        some (false,i64.wrap (count+1))
      else
       some (false,i64.wrap (count+1))
     else
      if v.n=0 then
       F.f115 w t>>=fun v21=>
       F.f118 v21 v.ctor>>=fun v23=>
       if v23=true then
        F.f121 w t v.ctor>>=fun v27=>
        if v27.length=v.kids.length then
         F.f170 w v deep holes v27 (i64.wrap (count+1)) 0>>=fun o'=>
         match o' with
         | .ret r0=>some r0
         | .go sx=>
          some (true,sx)
        else
         some (false,i64.wrap (count+1))
       else
        some (false,i64.wrap (count+1))
      else
       some (false,i64.wrap (count+1))
   else
    if t.data=(-1)then
     if v.ctor=(-1)then
      F.f98 v.n 0 9>>=fun v48=>
      if v48=true then
       some (decide (v.kids.length=0),i64.wrap (count+1))
      else
       some (false,i64.wrap (count+1))
     else
      some (false,i64.wrap (count+1))
    else
     if v.n=0 then
      F.f115 w t>>=fun v54=>
      F.f118 v54 v.ctor>>=fun v56=>
      if v56=true then
       F.f121 w t v.ctor>>=fun v60=>
       if v60.length=v.kids.length then
        F.f171 w v deep holes v60 (i64.wrap (count+1)) 0>>=fun o'80=>
        match o'80 with
        | .ret r082=>some r082
        | .go sx81=>
         some (true,sx81)
       else
        some (false,i64.wrap (count+1))
      else
       some (false,i64.wrap (count+1))
     else
      some (false,i64.wrap (count+1))
 partial_fixpoint
def F.f170 (w:List Vl.Data)(v:Vl.Value)(deep:Int)(holes:Bool)(v27:List Ty)(z:Int)(i:Nat):Option (Lo (Bool×Int) Int):=
 if i<v.kids.length then
  v.kids[i]?>>=fun x=>
  v27[i]?>>=fun x36=>
  F.f169 w x36 x (i64.wrap (deep+1)) holes z>>=fun v38=>
  if v38.1=true then
   F.f170 w v deep holes v27 v38.2 (i+1)
  else
   some (.ret (false,v38.2))
 else
  some (.go z)
 partial_fixpoint
def F.f171 (w:List Vl.Data)(v:Vl.Value)(deep:Int)(holes:Bool)(v60:List Ty)(z65:Int)(i66:Nat):Option (Lo (Bool×Int) Int):=
 if i66<v.kids.length then
  v.kids[i66]?>>=fun x70=>
  v60[i66]?>>=fun x72=>
  F.f169 w x72 x70 (i64.wrap (deep+1)) holes z65>>=fun v74=>
  if v74.1=true then
   F.f171 w v deep holes v60 v74.2 (i66+1)
  else
   some (.ret (false,v74.2))
 else
  some (.go z65)
 partial_fixpoint
end
def F.f172 (w:List Vl.Data)(t:Ty)(v:Vl.Value):Option (Bool):=
 F.f169 w t v 1 false 0>>=fun v1=>
 some v1.1
def F.f173 (s1:List Int)(s2:List Int)(i:Nat):Option (Lo Bool Unit):=
 if i<s1.length then
  s1[i]?>>=fun x=>
  s2[i]?>>=fun x8=>
  if x=x8 then
   F.f173 s1 s2 (i+1)
  else
   some (.ret false)
 else
  some (.go ())
 partial_fixpoint
def F.f174 (s1:List Int)(s2:List Int):Option (Bool):=
 if s1.length=s2.length then
  F.f173 s1 s2 0>>=fun o'=>
  match o' with
  | .ret r0=>some r0
  | .go sx=>
   some true
 else
  some false
def F.f175 (p:List Int)(a1:List Int):Option (Bool):=
 F.f174 p a1>>=fun v=>
 some v
def F.f176 (s:List (List Int))(k0:List Int)(i:Nat):Option (Lo Int Unit):=
 if i<s.length then
  s[i]?>>=fun x=>
  F.f175 x k0>>=fun v=>
  if v=true then
   some (.ret (i:Int))
  else
   F.f176 s k0 (i+1)
 else
  some (.go ())
 partial_fixpoint
def F.f177 (s:List (List Int))(k0:List Int):Option (Int):=
 F.f176 s k0 0>>=fun o'=>
 match o' with
 | .ret r0=>some r0
 | .go sx=>
  some (-1)
def F.f178 (s:List (List Int))(k0:List Int):Option (Bool):=
 F.f177 s k0>>=fun v=>
 some (decide (0<=v))
def F.f179 (list:List (List Int))(path:List Int):Option (List (List Int)):=
 F.f178 list path>>=fun v=>
 if v=true then
  some list
 else
  F.f156 path>>=fun v4=>
  if list.length+1<=67108864 then
   some (list++[v4])
  else none
def F.f180 (s:Step)(a1:List (List Int)):Option (List (List Int)):=
 if s.op=1 then
  F.f179 a1 s.path>>=fun v=>
  some v
 else
  some a1
def F.f181 (path:List Int)(z:Int)(z1:Int)(z2:List Vl.Value)(i:Nat):Option (Int×Int×(List Vl.Value)):=
 if i<path.length then
  path[i]?>>=fun x=>
  at? z2 x>>=fun x7=>
  F.f181 path x7.ctor x7.n x7.kids (i+1)
 else
  some (z,z1,z2)
 partial_fixpoint
def F.f182 (v:Vl.Value)(path:List Int):Option (Vl.Value):=
 F.f181 path v.ctor v.n v.kids 0>>=fun o'=>
 some (⟨o'.1,o'.2.1,o'.2.2⟩:Vl.Value)
def F.f183 (ctor:Int)(n:Int)(m:Int)(x:Vl.Value):Option (Bool):=
 if ctor=x.ctor then
  if ctor=(-1)then
   F.f98 x.n n m>>=fun v=>
   some v
  else
   some true
 else
  some false
mutual
def F.f184 (v:Vl.Value):Option (Vl.Value):=
 F.f185 v [] 0>>=fun o'=>
 some (⟨v.ctor,v.n,o'⟩:Vl.Value)
 partial_fixpoint
def F.f185 (v:Vl.Value)(out:List Vl.Value)(i:Nat):Option (List Vl.Value):=
 if i<v.kids.length then
  v.kids[i]?>>=fun x=>
  F.f184 x>>=fun v5=>
  if out.length+1<=67108864 then
   F.f185 v (out++[v5]) (i+1)
  else none
 else
  some out
 partial_fixpoint
end
def F.f186 (list:List PathBind)(v:Vl.Value)(i:Nat)(out:List Bind):Option (List Bind):=
 if i<list.length then
  list[i]?>>=fun x=>
  F.f182 v x.path>>=fun v5=>
  F.f184 v5>>=fun v7=>
  if out.length+1<=67108864 then
   F.f186 list v (i+1) (out++[(⟨x.var,v7⟩:Bind)])
  else none
 else
  some out
 partial_fixpoint
def F.f187 (list:List PathBind)(v:Vl.Value):Option (List Bind):=
 F.f186 list v 0 []>>=fun o'=>
 some o'
def F.f188 (b:Bind)(a1:Guard):Option (Bool):=
 some (decide (b.var=a1.var))
def F.f189 (s:List Bind)(k0:Guard)(i:Nat):Option (Lo Int Unit):=
 if i<s.length then
  s[i]?>>=fun x=>
  F.f188 x k0>>=fun v=>
  if v=true then
   some (.ret (i:Int))
  else
   F.f189 s k0 (i+1)
 else
  some (.go ())
 partial_fixpoint
def F.f190 (s:List Bind)(k0:Guard):Option (Int):=
 F.f189 s k0 0>>=fun o'=>
 match o' with
 | .ret r0=>some r0
 | .go sx=>
  some (-1)
def F.f191 (g:Guard)(binds:List Bind):Option (Bool):=
 if g.op=0 then
  some true
 else
  F.f190 binds g>>=fun v=>
  if v<0 then
   some false
  else
   at? binds v>>=fun x=>
   if x.value.ctor=(-1)then
    if g.op=1 then
     if x.value.n<g.n then
      some true
     else
      some false
    else
     if g.op=2 then
      some (decide (x.value.n=g.n))
     else
      some false
   else
    some false
def F.f192 (steps':List Step)(list:List Clause)(v:Vl.Value)(out:List (List Int))(count:Nat)(at':Int):Option (Int×(List Bind)×Int×(List (List Int))):=
 at? steps' at'>>=fun x=>
 if x.op=3 then
  some ((-1),[],(count:Int),out)
 else
  F.f180 x out>>=fun v4=>
  if x.op=1 then
   if count+1<=9223372036854775807 then
    F.f182 v x.path>>=fun v10=>
    F.f183 x.ctor x.n x.m v10>>=fun v12=>
    if v12=true then
     F.f192 steps' list v v4 (count+1) (i64.wrap (at'+1))
    else
     F.f192 steps' list v v4 (count+1) x.to
   else none
  else
   F.f187 x.binds v>>=fun v16=>
   at? list x.clause>>=fun x18=>
   F.f191 x18.guard v16>>=fun v20=>
   if v20=true then
    some (x.clause,v16,(count:Int),v4)
   else
    F.f192 steps' list v v4 count x.to
 partial_fixpoint
def F.f193 (steps':List Step)(list:List Clause)(v:Vl.Value)(k0:List (List Int)):Option (Int×(List Bind)×Int×(List (List Int))):=
 F.f192 steps' list v k0 0 0>>=fun o'=>
 some o'
def F.f194 (w:List Vl.Data)(t:Ty)(list:List Clause)(v:Vl.Value):Option (List (List Int)):=
 F.f168 w t list>>=fun v1=>
 if v1.2=true then
  F.f172 w t v>>=fun v5=>
  if v5=true then
   F.f193 v1.1 list v []>>=fun v9=>
   some v9.2.2.2
  else
   some []
 else
  some []
def F.f195 (w:List Vl.Data)(t:Ty):Option (Bool):=
 F.f15 (w.length:Int) t>>=fun v=>
 if v=true then
  some (decide (0<=t.index))
 else
  some false
def F.f196 (w:List Vl.Data)(t:Ty):Option (Bool):=
 F.f24 w>>=fun v=>
 if v=true then
  F.f195 w t>>=fun v4=>
  some v4
 else
  some false
def F.f197 (g:Guard)(vars:List VarType):Option (Bool):=
 if g.op=0 then
  if g.var=0 then
   some (decide (g.n=0))
  else
   some false
 else
  if g.op=1 then
   if g.n<0 then
    some false
   else
    if 9<g.n then
     some false
    else
     F.f79 vars g.var>>=fun v21=>
     if 0<=v21 then
      at? vars v21>>=fun x25=>
      some (decide (x25.type.data=(-1)))
     else
      some false
  else
   if g.op=2 then
    if g.n<0 then
     some false
    else
     if 9<g.n then
      some false
     else
      F.f79 vars g.var>>=fun v=>
      if 0<=v then
       at? vars v>>=fun x=>
       some (decide (x.type.data=(-1)))
      else
       some false
   else
    some false
def F.f198 (w:List Vl.Data)(t:Ty)(c':Clause):Option (Bool):=
 F.f85 w t c'.pat>>=fun v=>
 if v=true then
  F.f74 [] w t c'.pat>>=fun v4=>
  F.f197 c'.guard v4>>=fun v6=>
  some v6
 else
  some false
def F.f199 (w:List Vl.Data)(t:Ty)(list:List Clause)(i:Nat):Option (Lo Bool Unit):=
 if i<list.length then
  list[i]?>>=fun x=>
  F.f198 w t x>>=fun v11=>
  if v11=true then
   F.f199 w t list (i+1)
  else
   some (.ret false)
 else
  some (.go ())
 partial_fixpoint
def F.f200 (w:List Vl.Data)(t:Ty)(list:List Clause):Option (Bool):=
 F.f196 w t>>=fun v=>
 if v=true then
  if 8<list.length then
   some false
  else
   F.f199 w t list 0>>=fun o'=>
   match o' with
   | .ret r0=>some r0
   | .go sx=>
    some true
 else
  some false
def F.f201 (lists:List (List Pattern))(out:List (List Pattern))(i:Nat)(k:Nat)(next10:List (List Pattern))(j:Nat):Option (List (List Pattern)):=
 lists[i]?>>=fun x=>
 if j<x.length then
  if next10.length<=400 then
   out[k]?>>=fun x18=>
   if x18.length<=67108864 then
    x[j]?>>=fun x21=>
    if x18.length+1<=67108864 then
     if next10.length+1<=67108864 then
      if j+1<=9223372036854775807 then
       F.f201 lists out i k (next10++[x18++[x21]]) (j+1)
      else none
     else none
    else none
   else none
  else
   some next10
 else
  some next10
 partial_fixpoint
def F.f202 (lists:List (List Pattern))(out:List (List Pattern))(i:Nat)(next:List (List Pattern))(k:Nat):Option (List (List Pattern)):=
 if k<out.length then
  if next.length<=400 then
   F.f201 lists out i k next 0>>=fun o'=>
   if k+1<=9223372036854775807 then
    F.f202 lists out i o' (k+1)
   else none
  else
   some next
 else
  some next
 partial_fixpoint
def F.f203 (lists:List (List Pattern))(out:List (List Pattern))(i:Nat):Option (List (List Pattern)):=
 if i<lists.length then
  F.f202 lists out i [] 0>>=fun o'31=>
  if i+1<=9223372036854775807 then
   F.f203 lists o'31 (i+1)
  else none
 else
  some out
 partial_fixpoint
def F.f204 (lists:List (List Pattern)):Option (List (List Pattern)):=
 F.f203 lists [[]] 0>>=fun o'35=>
 some o'35
def F.f205 (p:Pattern)(v24:List (List Pattern))(out:List Pattern)(i26:Nat):Option (List Pattern):=
 if i26<v24.length then
  v24[i26]?>>=fun x30=>
  if out.length+1<=67108864 then
   F.f205 p v24 (out++[(⟨p.op,p.ctor,p.n,p.m,p.var,x30⟩:Pattern)]) (i26+1)
  else none
 else
  some out
 partial_fixpoint
mutual
def F.f206 (p:Pattern):Option (List Pattern):=
 if p.op=5 then
  p.kids[0]?>>=fun x=>
  F.f206 x>>=fun v=>
  p.kids[1]?>>=fun x5=>
  F.f206 x5>>=fun v7=>
  if v.length+v7.length<=67108864 then
   if 401<(v++v7).length then
    if 401<=(v++v7).length then
     some (List.take 401 (v++v7))
    else none
   else
    some (v++v7)
  else none
 else
  F.f207 p [] 0>>=fun o'=>
  F.f204 o'>>=fun v24=>
  F.f205 p v24 [] 0>>=fun o'35=>
  some o'35
 partial_fixpoint
def F.f207 (p:Pattern)(lists:List (List Pattern))(i:Nat):Option (List (List Pattern)):=
 if i<p.kids.length then
  p.kids[i]?>>=fun x17=>
  F.f206 x17>>=fun v19=>
  if lists.length+1<=67108864 then
   F.f207 p (lists++[v19]) (i+1)
  else none
 else
  some lists
 partial_fixpoint
end
def F.f208 (path:List Int)(i:Int):Option (List Int):=
 if path.length<=67108864 then
  if path.length+1<=67108864 then
   some (path++[i])
  else none
 else none
mutual
def F.f209 (out:List Step)(p:Pattern)(path:List Int):Option (List Step):=
 if p.op=6 then
  p.kids[0]?>>=fun x=>
  F.f209 out x path>>=fun v=>
  some v
 else
  if p.op=3 then
   if path.length<=67108864 then
    if out.length+1<=67108864 then
     some (out++[(⟨1,path,(-1),p.n,p.m,0,[],0⟩:Step)])
    else none
   else none
  else
   if p.op=4 then
    if path.length<=67108864 then
     if out.length+1<=67108864 then
      F.f210 p path (out++[(⟨1,path,p.ctor,0,0,0,[],0⟩:Step)]) 0>>=fun o'=>
      some o'
     else none
    else none
   else
    some out
 partial_fixpoint
def F.f210 (p:Pattern)(path:List Int)(out13:List Step)(i:Nat):Option (List Step):=
 if i<p.kids.length then
  p.kids[i]?>>=fun x17=>
  F.f208 path (i:Int)>>=fun v19=>
  F.f209 out13 x17 v19>>=fun v21=>
  F.f210 p path v21 (i+1)
 else
  some out13
 partial_fixpoint
end
mutual
def F.f211 (out:List PathBind)(p:Pattern)(path:List Int):Option (List PathBind):=
 if p.op=2 then
  if path.length<=67108864 then
   if out.length+1<=67108864 then
    F.f214 p path (out++[(⟨p.var,path⟩:PathBind)]) 0>>=fun o'67=>
    some o'67
   else none
  else none
 else
  if p.op=6 then
   if path.length<=67108864 then
    if out.length+1<=67108864 then
     F.f212 p path (out++[(⟨p.var,path⟩:PathBind)]) 0>>=fun o'=>
     some o'
    else none
   else none
  else
   F.f213 p path out 0>>=fun o'44=>
   some o'44
 partial_fixpoint
def F.f212 (p:Pattern)(path:List Int)(out7:List PathBind)(i:Nat):Option (List PathBind):=
 if i<p.kids.length then
  if p.op=4 then
   F.f208 path (i:Int)>>=fun v=>
   p.kids[i]?>>=fun x=>
   F.f211 out7 x v>>=fun v15=>
   F.f212 p path v15 (i+1)
  else
   p.kids[i]?>>=fun x18=>
   F.f211 out7 x18 path>>=fun v20=>
   F.f212 p path v20 (i+1)
 else
  some out7
 partial_fixpoint
def F.f213 (p:Pattern)(path:List Int)(out24:List PathBind)(i25:Nat):Option (List PathBind):=
 if i25<p.kids.length then
  if p.op=4 then
   F.f208 path (i25:Int)>>=fun v31=>
   p.kids[i25]?>>=fun x33=>
   F.f211 out24 x33 v31>>=fun v35=>
   F.f213 p path v35 (i25+1)
  else
   p.kids[i25]?>>=fun x38=>
   F.f211 out24 x38 path>>=fun v40=>
   F.f213 p path v40 (i25+1)
 else
  some out24
 partial_fixpoint
def F.f214 (p:Pattern)(path:List Int)(out47:List PathBind)(i48:Nat):Option (List PathBind):=
 if i48<p.kids.length then
  if p.op=4 then
   F.f208 path (i48:Int)>>=fun v54=>
   p.kids[i48]?>>=fun x56=>
   F.f211 out47 x56 v54>>=fun v58=>
   F.f214 p path v58 (i48+1)
  else
   p.kids[i48]?>>=fun x61=>
   F.f211 out47 x61 path>>=fun v63=>
   F.f214 p path v63 (i48+1)
 else
  some out47
 partial_fixpoint
end
def F.f215 (list:List PathBind)(n:Nat)(out4:List PathBind)(i:Nat):Option (List PathBind):=
 if i<list.length then
  list[i]?>>=fun x=>
  if x.var=(n:Int)then
   if x.path.length<=67108864 then
    if out4.length+1<=67108864 then
     F.f215 list n (out4++[(⟨(n:Int),x.path⟩:PathBind)]) (i+1)
    else none
   else none
  else
   F.f215 list n out4 (i+1)
 else
  some out4
 partial_fixpoint
def F.f216 (list:List PathBind)(out:List PathBind)(n:Nat):Option (List PathBind):=
 if n<=5 then
  F.f215 list n out 0>>=fun o'=>
  if n+1<=9223372036854775807 then
   F.f216 list o' (n+1)
  else none
 else
  some out
 partial_fixpoint
def F.f217 (list:List PathBind):Option (List PathBind):=
 F.f216 list [] 0>>=fun o'19=>
 some o'19
def F.f218 (list:List Clause)(out:List Step)(i:Nat)(v:List Pattern)(k:Nat)(out19:List Step)(n:Nat):Option (List Step):=
 if n<out19.length then
  out19[n]?>>=fun x23=>
  F.f218 list out i v k (out19.set n (⟨x23.op,x23.path,x23.ctor,x23.n,x23.m,x23.clause,x23.binds,(out19.length:Int)⟩:Step)) (n+1)
 else
  some out19
 partial_fixpoint
def F.f219 (list:List Clause)(out:List Step)(i:Nat)(v:List Pattern)(out6:List Step)(k:Nat):Option (List Step):=
 if k<v.length then
  v[k]?>>=fun x10=>
  F.f209 out6 x10 []>>=fun v12=>
  F.f211 [] x10 []>>=fun v14=>
  F.f217 v14>>=fun v16=>
  if v12.length+1<=67108864 then
   F.f218 list out i v k (v12++[(⟨2,[],0,0,0,(i:Int),v16,0⟩:Step)]) out6.length>>=fun o'=>
   if k+1<=9223372036854775807 then
    F.f219 list out i v o' (k+1)
   else none
  else none
 else
  some out6
 partial_fixpoint
def F.f220 (list:List Clause)(i:Nat)(out31:List Step)(n32:Nat):Option (List Step):=
 if n32<out31.length then
  out31[n32]?>>=fun x36=>
  if x36.op=2 then
   F.f220 list i (out31.set n32 (⟨x36.op,x36.path,x36.ctor,x36.n,x36.m,x36.clause,x36.binds,(out31.length:Int)⟩:Step)) (n32+1)
  else
   F.f220 list i out31 (n32+1)
 else
  some out31
 partial_fixpoint
def F.f221 (list:List Clause)(out:List Step)(i:Nat):Option (List Step):=
 if i<list.length then
  list[i]?>>=fun x=>
  F.f206 x.pat>>=fun v=>
  F.f219 list out i v out 0>>=fun o'30=>
  F.f220 list i o'30 out.length>>=fun o'43=>
  if i+1<=9223372036854775807 then
   F.f221 list o'43 (i+1)
  else none
 else
  some out
 partial_fixpoint
def F.f222 (list:List Clause):Option (List Step):=
 F.f221 list [] 0>>=fun o'47=>
 if o'47.length+1<=67108864 then
  some (o'47++[(⟨3,[],0,0,0,0,[],0⟩:Step)])
 else none
def F.f223 (list:List Clause)(i:Nat):Option (Lo ((List Step)×Bool) Unit):=
 if i<list.length then
  list[i]?>>=fun x=>
  F.f206 x.pat>>=fun v8=>
  if 40<v8.length then
   some (.ret ([],false))
  else
   F.f223 list (i+1)
 else
  some (.go ())
 partial_fixpoint
def F.f224 (w:List Vl.Data)(t:Ty)(list:List Clause):Option ((List Step)×Bool):=
 F.f200 w t list>>=fun v=>
 if v=true then
  F.f223 list 0>>=fun o'=>
  match o' with
  | .ret r0=>some r0
  | .go sx=>
   F.f222 list>>=fun v15=>
   some (v15,true)
 else
  some ([],false)
mutual
def F.f225 (w:List Vl.Data)(t:Ty)(v:Vl.Value)(depth:Int):Option (Bool):=
 if depth<1 then
  some false
 else
  if t.data=(-1)then
   if v.ctor=(-1)then
    if 0<=v.n then
     if v.n<=9 then
      some (decide (v.kids.length=0))
     else
      some false
    else
     some false
   else
    some false
  else
   if v.n=0 then
    F.f42 w t>>=fun v13=>
    F.f65 v13 v.ctor>>=fun v15=>
    if v15=true then
     F.f45 w t v.ctor>>=fun v19=>
     if v.kids.length=v19.length then
      F.f226 w v depth v19 0>>=fun o'=>
      match o' with
      | .ret r0=>some r0
      | .go sx=>
       some true
     else
      some false
    else
     some false
   else
    some false
 partial_fixpoint
def F.f226 (w:List Vl.Data)(v:Vl.Value)(depth:Int)(v19:List Ty)(i:Nat):Option (Lo Bool Unit):=
 if i<v19.length then
  v19[i]?>>=fun x=>
  v.kids[i]?>>=fun x28=>
  F.f225 w x x28 (i64.wrap (depth-1))>>=fun v30=>
  if v30=true then
   F.f226 w v depth v19 (i+1)
  else
   some (.ret false)
 else
  some (.go ())
 partial_fixpoint
end
mutual
def F.f227 (v:Vl.Value)(most:Int):Option (Int):=
 F.f228 v most 1 0>>=fun o'=>
 some o'
 partial_fixpoint
def F.f228 (v:Vl.Value)(most:Int)(n:Int)(i:Nat):Option (Int):=
 if i<v.kids.length then
  if n<=most then
   v.kids[i]?>>=fun x=>
   F.f227 x (i64.wrap (most-n))>>=fun v7=>
   F.f228 v most (i64.wrap (n+v7)) (i+1)
  else
   some n
 else
  some n
 partial_fixpoint
end
def F.f229 (w:List Vl.Data)(t:Ty)(v:Vl.Value):Option (Bool):=
 F.f225 w t v 10>>=fun v1=>
 if v1=true then
  F.f227 v 60>>=fun v5=>
  some (decide (v5<=60))
 else
  some false
def F.f230 (path:List Int)(z:Int)(z1:Int)(z2:List Vl.Value)(i:Nat):Option (Int×Int×(List Vl.Value)):=
 if i<path.length then
  path[i]?>>=fun x=>
  at? z2 x>>=fun x7=>
  F.f230 path x7.ctor x7.n x7.kids (i+1)
 else
  some (z,z1,z2)
 partial_fixpoint
def F.f231 (v:Vl.Value)(path:List Int):Option (Vl.Value):=
 F.f230 path v.ctor v.n v.kids 0>>=fun o'=>
 some (⟨o'.1,o'.2.1,o'.2.2⟩:Vl.Value)
mutual
def F.f232 (v:Vl.Value):Option (Vl.Value):=
 F.f233 v [] 0>>=fun o'=>
 some (⟨v.ctor,v.n,o'⟩:Vl.Value)
 partial_fixpoint
def F.f233 (v:Vl.Value)(out:List Vl.Value)(i:Nat):Option (List Vl.Value):=
 if i<v.kids.length then
  v.kids[i]?>>=fun x=>
  F.f232 x>>=fun v5=>
  if out.length+1<=67108864 then
   F.f233 v (out++[v5]) (i+1)
  else none
 else
  some out
 partial_fixpoint
end
def F.f234 (binds:List PathBind)(v:Vl.Value)(out:List Bind)(i:Nat):Option (List Bind):=
 if i<binds.length then
  binds[i]?>>=fun x=>
  F.f231 v x.path>>=fun v5=>
  F.f232 v5>>=fun v7=>
  if out.length+1<=67108864 then
   F.f234 binds v (out++[(⟨x.var,v7⟩:Bind)]) (i+1)
  else none
 else
  some out
 partial_fixpoint
def F.f235 (binds:List PathBind)(v:Vl.Value):Option (List Bind):=
 F.f234 binds v [] 0>>=fun o'=>
 some o'
def F.f236 (g:Guard)(binds:List Bind)(i:Nat):Option (Lo Bool Unit):=
 if i<binds.length then
  binds[i]?>>=fun x=>
  if x.var=g.var then
   if x.value.ctor=(-1)then
    if g.op=1 then
     if x.value.n<g.n then
      some (.ret true)
     else
      some (.ret false)
    else
     if g.op=2 then
      some (.ret (decide (x.value.n=g.n)))
     else
      some (.ret false)
   else
    some (.ret false)
  else
   F.f236 g binds (i+1)
 else
  some (.go ())
 partial_fixpoint
def F.f237 (g:Guard)(binds:List Bind):Option (Bool):=
 if g.op=0 then
  some true
 else
  F.f236 g binds 0>>=fun o'=>
  match o' with
  | .ret r0=>some r0
  | .go sx=>
   some false
def F.f238 (x:Step)(v:Vl.Value):Option (Bool):=
 if v.ctor=x.ctor then
  if x.ctor=(-1)then
   if x.n<=v.n then
    some (decide (v.n<=x.m))
   else
    some false
  else
   some true
 else
  some false
def F.f239 (list:List Clause)(code:List Step)(v:Vl.Value)(paths:List (List Int))(at':Int):Option (Lo (Int×(List Bind)×(List (List Int))) (List (List Int))):=
 at? code at'>>=fun x=>
 if x.op=3 then
  some (.go paths)
 else
  if x.op=2 then
   F.f235 x.binds v>>=fun v6=>
   at? list x.clause>>=fun x8=>
   F.f237 x8.guard v6>>=fun v10=>
   if v10=true then
    some (.ret (x.clause,v6,paths))
   else
    F.f239 list code v paths x.to
  else
   if paths.length+1<=67108864 then
    F.f231 v x.path>>=fun v15=>
    F.f238 x v15>>=fun v17=>
    if v17=true then
     F.f239 list code v (paths++[x.path]) (i64.wrap (at'+1))
    else
     F.f239 list code v (paths++[x.path]) x.to
   else none
 partial_fixpoint
def F.f240 (list:List Clause)(code:List Step)(v:Vl.Value):Option (Int×(List Bind)×(List (List Int))):=
 F.f239 list code v [] 0>>=fun o'=>
 match o' with
 | .ret r0=>some r0
 | .go sx=>
  some ((-1),[],sx)
def F.f241 (a:List Int)(b:List Int)(i:Nat):Option (Lo Bool Unit):=
 if i<a.length then
  a[i]?>>=fun x=>
  b[i]?>>=fun x8=>
  if x=x8 then
   F.f241 a b (i+1)
  else
   some (.ret false)
 else
  some (.go ())
 partial_fixpoint
def F.f242 (a:List Int)(b:List Int):Option (Bool):=
 if a.length=b.length then
  F.f241 a b 0>>=fun o'=>
  match o' with
  | .ret r0=>some r0
  | .go sx=>
   some true
 else
  some false
def F.f243 (v9:Int×(List Bind)×(List (List Int)))(out:List (List Int))(i:Nat)(found:Bool)(k:Nat):Option (Bool):=
 if k<out.length then
  if found=true then
   F.f243 v9 out i true (k+1)
  else
   out[k]?>>=fun x=>
   v9.2.2[i]?>>=fun x20=>
   F.f242 x x20>>=fun v22=>
   F.f243 v9 out i v22 (k+1)
 else
  some found
 partial_fixpoint
def F.f244 (v9:Int×(List Bind)×(List (List Int)))(out:List (List Int))(i:Nat):Option (List (List Int)):=
 if i<v9.2.2.length then
  F.f243 v9 out i false 0>>=fun o'=>
  if o'=true then
   if i+1<=9223372036854775807 then
    F.f244 v9 out (i+1)
   else none
  else
   v9.2.2[i]?>>=fun x29=>
   if x29.length<=67108864 then
    if out.length+1<=67108864 then
     if i+1<=9223372036854775807 then
      F.f244 v9 (out++[x29]) (i+1)
     else none
    else none
   else none
 else
  some out
 partial_fixpoint
def F.f245 (w:List Vl.Data)(t:Ty)(list:List Clause)(v:Vl.Value):Option (List (List Int)):=
 F.f224 w t list>>=fun v1=>
 if v1.2=true then
  F.f229 w t v>>=fun v5=>
  if v5=true then
   F.f240 list v1.1 v>>=fun v9=>
   F.f244 v9 [] 0>>=fun o'38=>
   some o'38
  else
   some []
 else
  some []
def F.f246 (a:List Int)(b:List Int)(i:Nat):Option (Lo Bool Unit):=
 if i<a.length then
  a[i]?>>=fun x=>
  b[i]?>>=fun x8=>
  if x=x8 then
   F.f246 a b (i+1)
  else
   some (.ret false)
 else
  some (.go ())
 partial_fixpoint
def F.f247 (a:List Int)(b:List Int):Option (Bool):=
 if a.length=b.length then
  F.f246 a b 0>>=fun o'=>
  match o' with
  | .ret r0=>some r0
  | .go sx=>
   some true
 else
  some false
def F.f248 (a:List (List Int))(b:List (List Int))(i:Nat):Option (Lo Bool Unit):=
 if i<a.length then
  a[i]?>>=fun x=>
  b[i]?>>=fun x8=>
  F.f247 x x8>>=fun v=>
  if v=true then
   F.f248 a b (i+1)
  else
   some (.ret false)
 else
  some (.go ())
 partial_fixpoint
def F.f249 (a:List (List Int))(b:List (List Int)):Option (Bool):=
 if a.length=b.length then
  F.f248 a b 0>>=fun o'=>
  match o' with
  | .ret r0=>some r0
  | .go sx=>
   some true
 else
  some false
def F.f250 (list:List (List Int))(path:List Int)(i:Nat):Option (Lo Bool Unit):=
 if i<list.length then
  list[i]?>>=fun x=>
  F.f247 x path>>=fun v=>
  if v=true then
   some (.ret true)
  else
   F.f250 list path (i+1)
 else
  some (.go ())
 partial_fixpoint
def F.f251 (list:List (List Int))(path:List Int):Option (Bool):=
 F.f250 list path 0>>=fun o'=>
 match o' with
 | .ret r0=>some r0
 | .go sx=>
  some false
def F.f252 (v:(List Vl.Data)×Ty×(List Clause)×Vl.Value)(v5:List (List Int))(i:Nat)(z:Int)(z16:Int)(z17:List Vl.Value)(k:Nat):Option (Lo Bool Unit):=
 v5[i]?>>=fun x=>
 if k<x.length then
  x[k]?>>=fun x22=>
  if x22<0 then
   some (.ret false)
  else
   if(z17.length:Int)<=x22 then
    some (.ret false)
   else
    at? z17 x22>>=fun x28=>
    if k+1<=9223372036854775807 then
     F.f252 v v5 i x28.ctor x28.n x28.kids (k+1)
    else none
 else
  some (.go ())
 partial_fixpoint
def F.f253 (v:(List Vl.Data)×Ty×(List Clause)×Vl.Value)(v5:List (List Int))(i:Nat):Option (Lo Bool Unit):=
 if i<v5.length then
  F.f252 v v5 i v.2.2.2.ctor v.2.2.2.n v.2.2.2.kids 0>>=fun o'=>
  match o' with
  | .ret r0=>some (.ret r0)
  | .go sx=>
   v5[i]?>>=fun x33=>
   if 0<x33.length then
    if i<=v5.length then
     if 0<=i64.wrap ((x33.length:Int) -1)/\(i64.wrap ((x33.length:Int) -1)).toNat<=x33.length then
      F.f251 ((v5.drop 0).take (i-0)) ((x33.drop 0).take ((i64.wrap ((x33.length:Int) -1)).toNat-0))>>=fun v40=>
      if v40=true then
       if i+1<=9223372036854775807 then
        F.f253 v v5 (i+1)
       else none
      else
       some (.ret false)
     else none
    else none
   else
    if i+1<=9223372036854775807 then
     F.f253 v v5 (i+1)
    else none
 else
  some (.go ())
 partial_fixpoint
def F.f254 (code:List Int):Option (Bool):=
 if 1048576<code.length then
  some true
 else
  F.f97 code>>=fun v=>
  F.f194 v.1 v.2.1 v.2.2.1 v.2.2.2>>=fun v5=>
  F.f245 v.1 v.2.1 v.2.2.1 v.2.2.2>>=fun v7=>
  F.f249 v5 v7>>=fun v9=>
  if v9=true then
   F.f253 v v5 0>>=fun o'49=>
   match o'49 with
   | .ret r051=>some r051
   | .go sx50=>
    some true
  else
   some false
end
end Go.Vl
