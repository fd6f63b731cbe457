/- Part. -/
import Derived.Test.YtmjpphcloedceaaGreatVlFa
import Derived.Test.YtmjpphcloedceaaGreatVlMk
import Derived.Test.YtmjpphcloedceaaGreatVlFork
import Derived.Test.YtmjpphcloedceaaGreatVlBrd
set_option linter.all false
set_option synthInstance.maxSize 100000
set_option synthInstance.maxHeartbeats 4000000
set_option maxHeartbeats 4000000
open List renaming replicate->zA,map->zB
open ByteArray renaming size_append->zC,empty->zD,size->zE
namespace Go.Vl
open Go
open Go.IntKind renaming u8->zF,wrap->zG,signed->zH,bits->zI
open Go.IntKind (i64)
noncomputable section
structure ZL where
 f0:List Vl.Data
 f1:Nat->Int
def ZL.c (x:ZL):List AV:=[.arr (zB Vl.Data.c x.f0),.rptr (fcI 16 x.f1) 0]
@[simp] theorem ZL.c_eq (x:ZL):x.c=[.arr (zB Vl.Data.c x.f0),.rptr (fcI 16 x.f1) 0]:=rfl
abbrev ZL.z :ZL:=⟨[],(fun _=>0)⟩
def F.f0 (k3:Int)(out:ByteArray):Option (ByteArray):=
 if 0<k3 then
  if(ZHC [zF.wrap (i64.wrap (48+k3.tmod 10))]).size+out.size<=9223372036854775807 then
   F.f0 (i64.wrap (k3.tdiv 10)) ((ZHC [zF.wrap (i64.wrap (48+k3.tmod 10))])++out)
  else none
 else
  some out
 partial_fixpoint
def F.f1 (k:Int):Option (ByteArray):=
 if k<=0 then
  some (⟨#[109,48]⟩:ByteArray)
 else
  F.f0 k zD>>=fun o'=>
  if(⟨#[109]⟩:ByteArray).size+o'.size<=9223372036854775807 then
   some ((⟨#[109]⟩:ByteArray)++o')
  else none
def F.f2 (a:List Ty)(left':Int):Option (Int):=
 if i64.wrap (left'- (a.length:Int))<0 then
  some (-1)
 else
  some (i64.wrap (left'- (a.length:Int)))
def F.f3 (a:Ctor)(left':Int):Option (Int):=
 if i64.wrap (left'- (a.name.size:Int))<0 then
  some (-1)
 else
  F.f2 a.args (i64.wrap (left'- (a.name.size:Int)))>>=fun v=>
  if v<0 then
   some (-1)
  else
   some v
def F.f4 (a:List Ctor)(left'3:Int)(i:Nat):Option (Lo Int Int):=
 if i<a.length then
  a[i]?>>=fun x=>
  F.f3 x left'3>>=fun v=>
  if v<0 then
   some (.ret (-1))
  else
   F.f4 a v (i+1)
 else
  some (.go left'3)
 partial_fixpoint
def F.f5 (a:List Ctor)(left':Int):Option (Int):=
 if i64.wrap (left'- (a.length:Int))<0 then
  some (-1)
 else
  F.f4 a (i64.wrap (left'- (a.length:Int))) 0>>=fun o'=>
  match o' with
  | .ret r0=>some r0
  | .go sx=>
   some sx
def F.f6 (a:Vl.Data)(left':Int):Option (Int):=
 if i64.wrap (left'- (a.name.size:Int))<0 then
  some (-1)
 else
  F.f5 a.ctors (i64.wrap (left'- (a.name.size:Int)))>>=fun v=>
  if v<0 then
   some (-1)
  else
   some v
def F.f7 (a:List Vl.Data)(left'3:Int)(i:Nat):Option (Lo Int Int):=
 if i<a.length then
  a[i]?>>=fun x=>
  F.f6 x left'3>>=fun v=>
  if v<0 then
   some (.ret (-1))
  else
   F.f7 a v (i+1)
 else
  some (.go left'3)
 partial_fixpoint
def F.f8 (a:List Vl.Data)(left':Int):Option (Int):=
 if i64.wrap (left'- (a.length:Int))<0 then
  some (-1)
 else
  F.f7 a (i64.wrap (left'- (a.length:Int))) 0>>=fun o'=>
  match o' with
  | .ret r0=>some r0
  | .go sx=>
   some sx
mutual
def F.f9 (a:Pattern)(left':Int):Option (Int):=
 F.f10 a.kids left'>>=fun v=>
 if v<0 then
  some (-1)
 else
  some v
 partial_fixpoint
def F.f10 (a:List Pattern)(left':Int):Option (Int):=
 if i64.wrap (left'- (a.length:Int))<0 then
  some (-1)
 else
  F.f11 a (i64.wrap (left'- (a.length:Int))) 0>>=fun o'=>
  match o' with
  | .ret r0=>some r0
  | .go sx=>
   some sx
 partial_fixpoint
def F.f11 (a:List Pattern)(left'3:Int)(i:Nat):Option (Lo Int Int):=
 if i<a.length then
  a[i]?>>=fun x=>
  F.f9 x left'3>>=fun v=>
  if v<0 then
   some (.ret (-1))
  else
   F.f11 a v (i+1)
 else
  some (.go left'3)
 partial_fixpoint
end
def F.f12 (a:Ty):Option (Ty):=
 some a
def F.f13 (a:List Ty)(out:List Ty)(i:Nat):Option (List Ty):=
 if i<a.length then
  a[i]?>>=fun x=>
  F.f12 x>>=fun v=>
  out[i]?>>=fun x7=>
  F.f13 a (out.set i v) (i+1)
 else
  some out
 partial_fixpoint
def F.f14 (a:List Ty):Option (List Ty):=
 if a.length<=67108864 then
  F.f13 a (zA a.length Ty.z) 0>>=fun o'=>
  some o'
 else none
def F.f15 (a:Ctor):Option (Ctor):=
 F.f14 a.args>>=fun v=>
 some (⟨a.name,v,a.index⟩:Ctor)
def F.f16 (a:List Ctor)(out:List Ctor)(i:Nat):Option (List Ctor):=
 if i<a.length then
  a[i]?>>=fun x=>
  F.f15 x>>=fun v=>
  out[i]?>>=fun x7=>
  F.f16 a (out.set i v) (i+1)
 else
  some out
 partial_fixpoint
def F.f17 (a:List Ctor):Option (List Ctor):=
 if a.length<=67108864 then
  F.f16 a (zA a.length Ctor.z) 0>>=fun o'=>
  some o'
 else none
def F.f18 (a:Vl.Data):Option (Vl.Data):=
 F.f17 a.ctors>>=fun v=>
 some (⟨a.name,v⟩:Vl.Data)
def F.f19 (a:List Vl.Data)(out:List Vl.Data)(i:Nat):Option (List Vl.Data):=
 if i<a.length then
  a[i]?>>=fun x=>
  F.f18 x>>=fun v=>
  out[i]?>>=fun x7=>
  F.f19 a (out.set i v) (i+1)
 else
  some out
 partial_fixpoint
def F.f20 (a:List Vl.Data):Option (List Vl.Data):=
 if a.length<=67108864 then
  F.f19 a (zA a.length Vl.Data.z) 0>>=fun o'=>
  some o'
 else none
mutual
def F.f21 (a:Pattern):Option (Pattern):=
 F.f22 a.kids>>=fun v=>
 some (⟨a.op,a.ctor,a.n,a.m,a.var,v⟩:Pattern)
 partial_fixpoint
def F.f22 (a:List Pattern):Option (List Pattern):=
 if a.length<=67108864 then
  F.f23 a (zA a.length Pattern.z) 0>>=fun o'=>
  some o'
 else none
 partial_fixpoint
def F.f23 (a:List Pattern)(out:List Pattern)(i:Nat):Option (List Pattern):=
 if i<a.length then
  a[i]?>>=fun x=>
  F.f21 x>>=fun v=>
  out[i]?>>=fun x7=>
  F.f23 a (out.set i v) (i+1)
 else
  some out
 partial_fixpoint
end
def F.f24 (c':Int):Option (Bool):=
 if 65<=c' then
  some (decide (c'<=90))
 else
  some false
def F.f25 (s:ByteArray):Option (Bool):=
 if s.size=1 then
  if 0<s.size then
   F.f24 ((byteAt s 0:Nat):Int)>>=fun v=>
   if v=true then
    some (decide (¬(s.toList=(⟨#[73]⟩:ByteArray).toList)))
   else
    some false
  else none
 else
  some false
def F.f26 (s:ByteArray)(i:Nat):Option (Lo Bool Unit):=
 if i<s.size then
  if byteAt s i<97 then
   some (.ret false)
  else
   if 122<byteAt s i then
    some (.ret false)
   else
    if i+1<=9223372036854775807 then
     F.f26 s (i+1)
    else none
 else
  some (.go ())
 partial_fixpoint
def F.f27 (s:ByteArray):Option (Bool):=
 if s.size=0 then
  some false
 else
  if 5<s.size then
   some false
  else
   if 0<s.size then
    F.f24 ((byteAt s 0:Nat):Int)>>=fun v=>
    if v=true then
     F.f26 s 1>>=fun o'=>
     match o' with
     | .ret r0=>some r0
     | .go sx=>
      some true
    else
     some false
   else none
def F.f28 (n:Int)(t:Ty):Option (Bool):=
 if t.data=(-1)then
  some (decide (t.index=0))
 else
  if 0<=t.data then
   if t.data<n then
    if(-1)<=t.index then
     some (decide (t.index<=3))
    else
     some false
   else
    some false
  else
   some false
def F.f29 (n:Int)(c':Ctor)(i:Nat):Option (Lo Bool Unit):=
 if i<c'.args.length then
  c'.args[i]?>>=fun x=>
  F.f28 n x>>=fun v15=>
  if v15=true then
   F.f29 n c' (i+1)
  else
   some (.ret false)
 else
  some (.go ())
 partial_fixpoint
def F.f30 (n:Int)(c':Ctor):Option (Bool):=
 F.f27 c'.name>>=fun v=>
 if v=true then
  if 3<c'.args.length then
   some false
  else
   if c'.index<0 then
    some false
   else
    if 3<c'.index then
     some false
    else
     F.f29 n c' 0>>=fun o'=>
     match o' with
     | .ret r0=>some r0
     | .go sx=>
      some true
 else
  some false
def F.f31 (w:List Vl.Data)(d:Int)(k:Int)(i:Nat)(j:Nat):Option (Lo Bool Unit):=
 w[i]?>>=fun x10=>
 if j<x10.ctors.length then
  if(i:Int)<d then
   at? w d>>=fun x33=>
   if k<(x33.ctors.length:Int)then
    x10.ctors[j]?>>=fun x37=>
    at? x33.ctors k>>=fun x39=>
    if x37.name.toList=x39.name.toList then
     some (.ret true)
    else
     if j+1<=9223372036854775807 then
      F.f31 w d k i (j+1)
     else none
   else
    if j+1<=9223372036854775807 then
     F.f31 w d k i (j+1)
    else none
  else
   if(j:Int)<k then
    at? w d>>=fun x19=>
    if k<(x19.ctors.length:Int)then
     x10.ctors[j]?>>=fun x23=>
     at? x19.ctors k>>=fun x25=>
     if x23.name.toList=x25.name.toList then
      some (.ret true)
     else
      if j+1<=9223372036854775807 then
       F.f31 w d k i (j+1)
      else none
    else
     if j+1<=9223372036854775807 then
      F.f31 w d k i (j+1)
     else none
   else
    some (.go ())
 else
  some (.go ())
 partial_fixpoint
def F.f32 (w:List Vl.Data)(d:Int)(k:Int)(i:Nat)(j50:Nat):Option (Lo Bool Unit):=
 w[i]?>>=fun x51=>
 if j50<x51.ctors.length then
  if(i:Int)<d then
   at? w d>>=fun x74=>
   if k<(x74.ctors.length:Int)then
    x51.ctors[j50]?>>=fun x78=>
    at? x74.ctors k>>=fun x80=>
    if x78.name.toList=x80.name.toList then
     some (.ret true)
    else
     if j50+1<=9223372036854775807 then
      F.f32 w d k i (j50+1)
     else none
   else
    if j50+1<=9223372036854775807 then
     F.f32 w d k i (j50+1)
    else none
  else
   if(j50:Int)<k then
    at? w d>>=fun x60=>
    if k<(x60.ctors.length:Int)then
     x51.ctors[j50]?>>=fun x64=>
     at? x60.ctors k>>=fun x66=>
     if x64.name.toList=x66.name.toList then
      some (.ret true)
     else
      if j50+1<=9223372036854775807 then
       F.f32 w d k i (j50+1)
      else none
    else
     if j50+1<=9223372036854775807 then
      F.f32 w d k i (j50+1)
     else none
   else
    some (.go ())
 else
  some (.go ())
 partial_fixpoint
def F.f33 (w:List Vl.Data)(d:Int)(k:Int)(i:Nat):Option (Lo Bool Unit):=
 if(i:Int)<=d then
  if(i:Int)<d then
   w[i]?>>=fun x=>
   at? w d>>=fun x6=>
   if x.name.toList=x6.name.toList then
    some (.ret true)
   else
    F.f31 w d k i 0>>=fun o'=>
    match o' with
    | .ret r0=>some (.ret r0)
    | .go sx=>
     if i+1<=9223372036854775807 then
      F.f33 w d k (i+1)
     else none
  else
   F.f32 w d k i 0>>=fun o'89=>
   match o'89 with
   | .ret r093=>some (.ret r093)
   | .go sx90=>
    if i+1<=9223372036854775807 then
     F.f33 w d k (i+1)
    else none
 else
  some (.go ())
 partial_fixpoint
def F.f34 (w:List Vl.Data)(d:Int)(k:Int):Option (Bool):=
 F.f33 w d k 0>>=fun o'95=>
 match o'95 with
 | .ret r097=>some r097
 | .go sx96=>
  some false
def F.f35 (w:List Vl.Data)(d:Nat)(k:Nat):Option (Lo Bool Unit):=
 w[d]?>>=fun x17=>
 if k<x17.ctors.length then
  x17.ctors[k]?>>=fun x22=>
  F.f30 (w.length:Int) x22>>=fun v24=>
  if v24=true then
   F.f34 w (d:Int) (k:Int)>>=fun v28=>
   if v28=true then
    some (.ret false)
   else
    if k+1<=9223372036854775807 then
     F.f35 w d (k+1)
    else none
  else
   some (.ret false)
 else
  some (.go ())
 partial_fixpoint
def F.f36 (w:List Vl.Data)(d:Nat):Option (Lo Bool Unit):=
 if d<w.length then
  w[d]?>>=fun x=>
  F.f25 x.name>>=fun v=>
  if v=true then
   if x.ctors.length=0 then
    some (.ret false)
   else
    if 4<x.ctors.length then
     some (.ret false)
    else
     F.f35 w d 0>>=fun o'=>
     match o' with
     | .ret r0=>some (.ret r0)
     | .go sx=>
      if d+1<=9223372036854775807 then
       F.f36 w (d+1)
      else none
  else
   some (.ret false)
 else
  some (.go ())
 partial_fixpoint
def F.f37 (w:List Vl.Data):Option (Bool):=
 if 4<w.length then
  some false
 else
  F.f36 w 0>>=fun o'38=>
  match o'38 with
  | .ret r040=>some r040
  | .go sx39=>
   some true
def F.f38 (w:List Vl.Data)(t:Ty):Option (Bool):=
 F.f28 (w.length:Int) t>>=fun v=>
 if v=true then
  some (decide (0<=t.index))
 else
  some false
def F.f39 (w:List Vl.Data)(t:Ty):Option (Bool):=
 F.f37 w>>=fun v=>
 if v=true then
  F.f38 w t>>=fun v4=>
  some v4
 else
  some false
def F.f40 (c':Ctor)(index':Int):Option (Bool):=
 if c'.index=0 then
  some true
 else
  if index'=0 then
   some true
  else
   some (decide (c'.index=index'))
def F.f41 (w:List Vl.Data)(t:Ty)(out:List Int)(k:Nat):Option (List Int):=
 at? w t.data>>=fun x=>
 if k<x.ctors.length then
  x.ctors[k]?>>=fun x7=>
  F.f40 x7 t.index>>=fun v=>
  if v=true then
   if out.length+1<=67108864 then
    if k+1<=9223372036854775807 then
     F.f41 w t (out++[(k:Int)]) (k+1)
    else none
   else none
  else
   if k+1<=9223372036854775807 then
    F.f41 w t out (k+1)
   else none
 else
  some out
 partial_fixpoint
def F.f42 (w:List Vl.Data)(t:Ty):Option (List Int):=
 if t.data=(-1)then
  some []
 else
  F.f41 w t [] 0>>=fun o'=>
  some o'
def F.f43 (list:List Int)(n:Int)(i:Nat):Option (Lo Bool Unit):=
 if i<list.length then
  list[i]?>>=fun x=>
  if x=n then
   some (.ret true)
  else
   F.f43 list n (i+1)
 else
  some (.go ())
 partial_fixpoint
def F.f44 (list:List Int)(n:Int):Option (Bool):=
 F.f43 list n 0>>=fun o'=>
 match o' with
 | .ret r0=>some r0
 | .go sx=>
  some false
def F.f45 (w:List Vl.Data)(t:Ty)(p:Pattern):Option (Bool):=
 if p.op=2 then
  if p.var<0 then
   some false
  else
   if 5<p.var then
    some false
   else
    if p.n=0 then
     if p.m=0 then
      if p.ctor=0 then
       some true
      else
       some false
     else
      some false
    else
     some false
 else
  if p.op=6 then
   if p.var<0 then
    some false
   else
    if 5<p.var then
     some false
    else
     if p.n=0 then
      if p.m=0 then
       if p.ctor=0 then
        some true
       else
        some false
      else
       some false
     else
      some false
  else
   if p.var=0 then
    if p.op=3 then
     if p.ctor=0 then
      if t.data=(-1)then
       if 0<=p.n then
        if p.n<=p.m then
         some (decide (p.m<=9))
        else
         some false
       else
        some false
      else
       some false
     else
      some false
    else
     if p.n=0 then
      if p.m=0 then
       if p.op=4 then
        F.f42 w t>>=fun v=>
        F.f44 v p.ctor>>=fun v38=>
        some v38
       else
        if p.ctor=0 then
         if p.op=1 then
          some true
         else
          if p.op=5 then
           some true
          else
           some false
        else
         some false
      else
       some false
     else
      some false
   else
    some false
def F.f46 (c':Ctor)(index':Int):Option (Int):=
 if c'.index=0 then
  some index'
 else
  some c'.index
def F.f47 (t:Ty)(x2:Ctor)(out:List Ty)(i:Nat):Option (List Ty):=
 if i<x2.args.length then
  x2.args[i]?>>=fun x7=>
  if x7.index=(-1)then
   F.f46 x2 t.index>>=fun v=>
   if out.length+1<=67108864 then
    F.f47 t x2 (out++[(⟨x7.data,v⟩:Ty)]) (i+1)
   else none
  else
   if out.length+1<=67108864 then
    F.f47 t x2 (out++[x7]) (i+1)
   else none
 else
  some out
 partial_fixpoint
def F.f48 (w:List Vl.Data)(t:Ty)(ctor:Int):Option (List Ty):=
 at? w t.data>>=fun x=>
 at? x.ctors ctor>>=fun x2=>
 F.f47 t x2 [] 0>>=fun o'=>
 some o'
def F.f49 (op:Int):Option (Int):=
 if op=5 then
  some 2
 else
  if op=6 then
   some 1
  else
   if op=4 then
    some (-1)
   else
    some 0
def F.f50 (t:Ty)(p:Pattern)(out:List Ty)(i:Nat):Option (List Ty):=
 F.f49 p.op>>=fun v4=>
 if(i:Int)<v4 then
  if out.length+1<=67108864 then
   if i+1<=9223372036854775807 then
    F.f50 t p (out++[t]) (i+1)
   else none
  else none
 else
  some out
 partial_fixpoint
def F.f51 (w:List Vl.Data)(t:Ty)(p:Pattern):Option (List Ty):=
 if p.op=4 then
  F.f48 w t p.ctor>>=fun v=>
  some v
 else
  F.f50 t p [] 0>>=fun o'=>
  some o'
mutual
def F.f52 (w:List Vl.Data)(t:Ty)(p:Pattern)(depth:Int):Option (Bool):=
 if depth<1 then
  some false
 else
  F.f45 w t p>>=fun v=>
  if v=true then
   F.f51 w t p>>=fun v6=>
   if p.kids.length=v6.length then
    F.f53 w p depth v6 0>>=fun o'=>
    match o' with
    | .ret r0=>some r0
    | .go sx=>
     some true
   else
    some false
  else
   some false
 partial_fixpoint
def F.f53 (w:List Vl.Data)(p:Pattern)(depth:Int)(v6:List Ty)(i:Nat):Option (Lo Bool Unit):=
 if i<v6.length then
  v6[i]?>>=fun x=>
  p.kids[i]?>>=fun x15=>
  F.f52 w x x15 (i64.wrap (depth-1))>>=fun v17=>
  if v17=true then
   F.f53 w p depth v6 (i+1)
  else
   some (.ret false)
 else
  some (.go ())
 partial_fixpoint
end
mutual
def F.f54 (p:Pattern)(most:Int):Option (Int):=
 F.f55 p most 1 0>>=fun o'=>
 some o'
 partial_fixpoint
def F.f55 (p:Pattern)(most:Int)(n:Int)(i:Nat):Option (Int):=
 if i<p.kids.length then
  if n<=most then
   p.kids[i]?>>=fun x=>
   F.f54 x (i64.wrap (most-n))>>=fun v=>
   F.f55 p most (i64.wrap (n+v)) (i+1)
  else
   some n
 else
  some n
 partial_fixpoint
end
mutual
def F.f56 (out:List VarType)(w:List Vl.Data)(t:Ty)(p:Pattern):Option (List VarType):=
 if p.op=2 then
  if out.length+1<=67108864 then
   F.f51 w t p>>=fun v59=>
   F.f59 w p v59 (out++[(⟨p.var,t⟩:VarType)]) 0>>=fun o'86=>
   some o'86
  else none
 else
  if p.op=6 then
   if out.length+1<=67108864 then
    F.f51 w t p>>=fun v=>
    F.f57 w p v (out++[(⟨p.var,t⟩:VarType)]) 0>>=fun o'=>
    some o'
   else none
  else
   F.f51 w t p>>=fun v30=>
   F.f58 w p v30 out 0>>=fun o'57=>
   some o'57
 partial_fixpoint
def F.f57 (w:List Vl.Data)(p:Pattern)(v:List Ty)(out7:List VarType)(i:Nat):Option (List VarType):=
 if i<v.length then
  if i=0 then
   v[i]?>>=fun x22=>
   p.kids[i]?>>=fun x24=>
   F.f56 out7 w x22 x24>>=fun v26=>
   F.f57 w p v v26 (i+1)
  else
   if p.op=5 then
    some out7
   else
    v[i]?>>=fun x=>
    p.kids[i]?>>=fun x17=>
    F.f56 out7 w x x17>>=fun v19=>
    F.f57 w p v v19 (i+1)
 else
  some out7
 partial_fixpoint
def F.f58 (w:List Vl.Data)(p:Pattern)(v30:List Ty)(out32:List VarType)(i33:Nat):Option (List VarType):=
 if i33<v30.length then
  if i33=0 then
   v30[i33]?>>=fun x49=>
   p.kids[i33]?>>=fun x51=>
   F.f56 out32 w x49 x51>>=fun v53=>
   F.f58 w p v30 v53 (i33+1)
  else
   if p.op=5 then
    some out32
   else
    v30[i33]?>>=fun x42=>
    p.kids[i33]?>>=fun x44=>
    F.f56 out32 w x42 x44>>=fun v46=>
    F.f58 w p v30 v46 (i33+1)
 else
  some out32
 partial_fixpoint
def F.f59 (w:List Vl.Data)(p:Pattern)(v59:List Ty)(out61:List VarType)(i62:Nat):Option (List VarType):=
 if i62<v59.length then
  if i62=0 then
   v59[i62]?>>=fun x78=>
   p.kids[i62]?>>=fun x80=>
   F.f56 out61 w x78 x80>>=fun v82=>
   F.f59 w p v59 v82 (i62+1)
  else
   if p.op=5 then
    some out61
   else
    v59[i62]?>>=fun x71=>
    p.kids[i62]?>>=fun x73=>
    F.f56 out61 w x71 x73>>=fun v75=>
    F.f59 w p v59 v75 (i62+1)
 else
  some out61
 partial_fixpoint
end
def F.f60 (list:List VarType)(n:Int)(i:Nat):Option (Lo Int Unit):=
 if i<list.length then
  list[i]?>>=fun x=>
  if x.var=n then
   some (.ret (i:Int))
  else
   F.f60 list n (i+1)
 else
  some (.go ())
 partial_fixpoint
def F.f61 (list:List VarType)(n:Int):Option (Int):=
 F.f60 list n 0>>=fun o'=>
 match o' with
 | .ret r0=>some r0
 | .go sx=>
  some (-1)
def F.f62 (a:List VarType)(b:List VarType)(i:Nat):Option (Lo Bool Unit):=
 if i<a.length then
  a[i]?>>=fun x=>
  F.f61 b x.var>>=fun v=>
  if v<0 then
   some (.ret false)
  else
   at? b v>>=fun x8=>
   if dec (eq2 (x8.type.data,x8.type.index) (x.type.data,x.type.index))=true then
    F.f62 a b (i+1)
   else
    some (.ret false)
 else
  some (.go ())
 partial_fixpoint
def F.f63 (a:List VarType)(b:List VarType):Option (Bool):=
 F.f62 a b 0>>=fun o'=>
 match o' with
 | .ret r0=>some r0
 | .go sx=>
  some (decide (a.length=b.length))
def F.f64 (v26:List VarType)(i28:Nat):Option (Lo Bool Unit):=
 if i28<v26.length then
  v26[i28]?>>=fun x32=>
  F.f61 v26 x32.var>>=fun v34=>
  if v34=(i28:Int)then
   F.f64 v26 (i28+1)
  else
   some (.ret false)
 else
  some (.go ())
 partial_fixpoint
mutual
def F.f65 (w:List Vl.Data)(t:Ty)(p:Pattern):Option (Bool):=
 F.f51 w t p>>=fun v=>
 F.f66 w t p v 0>>=fun o'=>
 match o' with
 | .ret r042=>some r042
 | .go sx=>
  if p.op=5 then
   p.kids[0]?>>=fun x16=>
   F.f56 [] w t x16>>=fun v18=>
   p.kids[1]?>>=fun x20=>
   F.f56 [] w t x20>>=fun v22=>
   F.f63 v18 v22>>=fun v24=>
   some v24
  else
   F.f56 [] w t p>>=fun v26=>
   F.f64 v26 0>>=fun o'40=>
   match o'40 with
   | .ret r0=>some r0
   | .go sx41=>
    some true
 partial_fixpoint
def F.f66 (w:List Vl.Data)(t:Ty)(p:Pattern)(v:List Ty)(i:Nat):Option (Lo Bool Unit):=
 if i<v.length then
  v[i]?>>=fun x=>
  p.kids[i]?>>=fun x6=>
  F.f65 w x x6>>=fun v8=>
  if v8=true then
   F.f66 w t p v (i+1)
  else
   some (.ret false)
 else
  some (.go ())
 partial_fixpoint
end
def F.f67 (w:List Vl.Data)(t:Ty)(p:Pattern):Option (Bool):=
 F.f52 w t p 10>>=fun v=>
 if v=true then
  F.f54 p 60>>=fun v4=>
  if v4<=60 then
   F.f65 w t p>>=fun v8=>
   some v8
  else
   some false
 else
  some false
def F.f68 (w:List Vl.Data)(t:Ty)(p:Pattern):Option (Bool):=
 F.f39 w t>>=fun v=>
 if v=true then
  F.f67 w t p>>=fun v4=>
  some v4
 else
  some false
def F.f69 (t:Ty):Option (Int):=
 some (i64.wrap (i64.wrap (t.data*4)+t.index))
def F.f70 (table:List Int)(t:Ty):Option (Int):=
 if t.data=(-1)then
  some 1
 else
  F.f69 t>>=fun v=>
  at? table v>>=fun x=>
  some x
def F.f71 (table:List Int)(v:List Ty)(most:Int)(i:Nat):Option (Lo Int Int):=
 if i<v.length then
  v[i]?>>=fun x=>
  F.f70 table x>>=fun v6=>
  if v6=0 then
   some (.ret 0)
  else
   if most<v6 then
    F.f71 table v v6 (i+1)
   else
    F.f71 table v most (i+1)
 else
  some (.go most)
 partial_fixpoint
def F.f72 (w:List Vl.Data)(table:List Int)(t:Ty)(ctor:Int):Option (Int):=
 F.f48 w t ctor>>=fun v=>
 F.f71 table v 0 0>>=fun o'=>
 match o' with
 | .ret r0=>some r0
 | .go sx=>
  some (i64.wrap (sx+1))
def F.f73 (w:List Vl.Data)(n:Nat)(s:Nat)(v:List Int)(table10:List Int)(i:Nat):Option (List Int):=
 if i<v.length then
  v[i]?>>=fun x=>
  F.f72 w table10 (⟨i64.wrap ((s:Int).tdiv 4),(s:Int).tmod 4⟩:Ty) x>>=fun v15=>
  if 0<v15 then
   table10[s]?>>=fun x19=>
   if x19=0 then
    F.f73 w n s v (table10.set s v15) (i+1)
   else
    if v15<x19 then
     F.f73 w n s v (table10.set s v15) (i+1)
    else
     F.f73 w n s v table10 (i+1)
  else
   F.f73 w n s v table10 (i+1)
 else
  some table10
 partial_fixpoint
def F.f74 (w:List Vl.Data)(n:Nat)(table5:List Int)(s:Nat):Option (List Int):=
 if s<table5.length then
  F.f42 w (⟨i64.wrap ((s:Int).tdiv 4),(s:Int).tmod 4⟩:Ty)>>=fun v=>
  F.f73 w n s v table5 0>>=fun o'=>
  if s+1<=9223372036854775807 then
   F.f74 w n o' (s+1)
  else none
 else
  some table5
 partial_fixpoint
def F.f75 (w:List Vl.Data)(table:List Int)(n:Nat):Option (List Int):=
 if n<=table.length then
  F.f74 w n table 0>>=fun o'33=>
  if n+1<=9223372036854775807 then
   F.f75 w o'33 (n+1)
  else none
 else
  some table
 partial_fixpoint
def F.f76 (w:List Vl.Data):Option (List Int):=
 if 0<=i64.wrap ((w.length:Int)*4)/\(i64.wrap ((w.length:Int)*4)).toNat<=67108864 then
  F.f75 w (zA ((i64.wrap ((w.length:Int)*4)).toNat) 0) 0>>=fun o'37=>
  some o'37
 else none
mutual
def F.f77 (w:List Vl.Data)(table:List Int)(t:Ty)(p:Pattern):Option (Bool):=
 if p.op=1 then
  F.f70 table t>>=fun v=>
  some (decide (0<v))
 else
  if p.op=2 then
   F.f70 table t>>=fun v6=>
   some (decide (0<v6))
  else
   if p.op=3 then
    some true
   else
    if p.op=5 then
     p.kids[0]?>>=fun x=>
     F.f77 w table t x>>=fun v13=>
     if v13=true then
      some true
     else
      p.kids[1]?>>=fun x17=>
      F.f77 w table t x17>>=fun v19=>
      some v19
    else
     if p.op=6 then
      p.kids[0]?>>=fun x23=>
      F.f77 w table t x23>>=fun v25=>
      some v25
     else
      F.f48 w t p.ctor>>=fun v27=>
      F.f78 w table p v27 0>>=fun o'=>
      match o' with
      | .ret r0=>some r0
      | .go sx=>
       some true
 partial_fixpoint
def F.f78 (w:List Vl.Data)(table:List Int)(p:Pattern)(v27:List Ty)(i:Nat):Option (Lo Bool Unit):=
 if i<v27.length then
  v27[i]?>>=fun x32=>
  p.kids[i]?>>=fun x34=>
  F.f77 w table x32 x34>>=fun v36=>
  if v36=true then
   F.f78 w table p v27 (i+1)
  else
   some (.ret false)
 else
  some (.go ())
 partial_fixpoint
end
def F.f79 (w:List Vl.Data)(t:Ty)(p:Pattern):Option (Bool):=
 F.f68 w t p>>=fun v=>
 if v=true then
  F.f76 w>>=fun v4=>
  F.f77 w v4 t p>>=fun v6=>
  some (!v6)
 else
  some false
mutual
def F.f80 (w:List Vl.Data)(table:List Int)(t:Ty)(p:Pattern):Option (Bool):=
 if p.op=1 then
  F.f70 table t>>=fun v20=>
  some (decide (v20<=10))
 else
  if p.op=2 then
   F.f70 table t>>=fun v=>
   some (decide (v<=10))
  else
   F.f51 w t p>>=fun v6=>
   F.f81 w table p v6 0>>=fun o'=>
   match o' with
   | .ret r0=>some r0
   | .go sx=>
    some true
 partial_fixpoint
def F.f81 (w:List Vl.Data)(table:List Int)(p:Pattern)(v6:List Ty)(i:Nat):Option (Lo Bool Unit):=
 if i<v6.length then
  v6[i]?>>=fun x=>
  p.kids[i]?>>=fun x12=>
  F.f80 w table x x12>>=fun v14=>
  if v14=true then
   F.f81 w table p v6 (i+1)
  else
   some (.ret false)
 else
  some (.go ())
 partial_fixpoint
end
mutual
def F.f82 (w:List Vl.Data)(table:List Int)(t:Ty):Option (Vl.Value):=
 if t.data=(-1)then
  some (⟨(-1),0,[]⟩:Vl.Value)
 else
  F.f42 w t>>=fun v=>
  F.f83 w table t v 0>>=fun o'28=>
  match o'28 with
  | .ret r0=>some r0
  | .go sx=>
   some (⟨0,0,[]⟩:Vl.Value)
 partial_fixpoint
def F.f83 (w:List Vl.Data)(table:List Int)(t:Ty)(v:List Int)(i:Nat):Option (Lo Vl.Value Unit):=
 if i<v.length then
  v[i]?>>=fun x=>
  F.f72 w table t x>>=fun v8=>
  F.f70 table t>>=fun v10=>
  if v8=v10 then
   F.f48 w t x>>=fun v15=>
   F.f84 w table x v15 [] 0>>=fun o'=>
   some (.ret (⟨x,0,o'⟩:Vl.Value))
  else
   F.f83 w table t v (i+1)
 else
  some (.go ())
 partial_fixpoint
def F.f84 (w:List Vl.Data)(table:List Int)(x:Int)(v15:List Ty)(out:List Vl.Value)(k:Nat):Option (List Vl.Value):=
 if k<v15.length then
  v15[k]?>>=fun x20=>
  F.f82 w table x20>>=fun v22=>
  if out.length+1<=67108864 then
   F.f84 w table x v15 (out++[v22]) (k+1)
  else none
 else
  some out
 partial_fixpoint
end
mutual
def F.f85 (w:List Vl.Data)(table:List Int)(t:Ty)(p:Pattern):Option (Vl.Value):=
 if p.op=1 then
  F.f82 w table t>>=fun v=>
  some v
 else
  if p.op=2 then
   F.f82 w table t>>=fun v6=>
   some v6
  else
   if p.op=3 then
    some (⟨(-1),p.n,[]⟩:Vl.Value)
   else
    if p.op=6 then
     p.kids[0]?>>=fun x=>
     F.f85 w table t x>>=fun v13=>
     some v13
    else
     if p.op=5 then
      p.kids[0]?>>=fun x17=>
      F.f77 w table t x17>>=fun v19=>
      if v19=true then
       F.f85 w table t x17>>=fun v23=>
       some v23
      else
       p.kids[1]?>>=fun x25=>
       F.f85 w table t x25>>=fun v27=>
       some v27
     else
      F.f48 w t p.ctor>>=fun v29=>
      F.f86 w table p v29 [] 0>>=fun o'=>
      some (⟨p.ctor,0,o'⟩:Vl.Value)
 partial_fixpoint
def F.f86 (w:List Vl.Data)(table:List Int)(p:Pattern)(v29:List Ty)(out:List Vl.Value)(i:Nat):Option (List Vl.Value):=
 if i<v29.length then
  v29[i]?>>=fun x34=>
  p.kids[i]?>>=fun x36=>
  F.f85 w table x34 x36>>=fun v38=>
  if out.length+1<=67108864 then
   F.f86 w table p v29 (out++[v38]) (i+1)
  else none
 else
  some out
 partial_fixpoint
end
mutual
def F.f87 (w:List Vl.Data)(t:Ty)(v:Vl.Value)(depth:Int):Option (Bool):=
 if depth<1 then
  some false
 else
  if t.data=(-1)then
   if v.ctor=(-1)then
    if 0<=v.n then
     if v.n<=9 then
      some (decide (v.kids.length=0))
     else
      some false
    else
     some false
   else
    some false
  else
   if v.n=0 then
    F.f42 w t>>=fun v13=>
    F.f44 v13 v.ctor>>=fun v15=>
    if v15=true then
     F.f48 w t v.ctor>>=fun v19=>
     if v.kids.length=v19.length then
      F.f88 w v depth v19 0>>=fun o'=>
      match o' with
      | .ret r0=>some r0
      | .go sx=>
       some true
     else
      some false
    else
     some false
   else
    some false
 partial_fixpoint
def F.f88 (w:List Vl.Data)(v:Vl.Value)(depth:Int)(v19:List Ty)(i:Nat):Option (Lo Bool Unit):=
 if i<v19.length then
  v19[i]?>>=fun x=>
  v.kids[i]?>>=fun x28=>
  F.f87 w x x28 (i64.wrap (depth-1))>>=fun v30=>
  if v30=true then
   F.f88 w v depth v19 (i+1)
  else
   some (.ret false)
 else
  some (.go ())
 partial_fixpoint
end
mutual
def F.f89 (v:Vl.Value)(most:Int):Option (Int):=
 F.f90 v most 1 0>>=fun o'=>
 some o'
 partial_fixpoint
def F.f90 (v:Vl.Value)(most:Int)(n:Int)(i:Nat):Option (Int):=
 if i<v.kids.length then
  if n<=most then
   v.kids[i]?>>=fun x=>
   F.f89 x (i64.wrap (most-n))>>=fun v7=>
   F.f90 v most (i64.wrap (n+v7)) (i+1)
  else
   some n
 else
  some n
 partial_fixpoint
end
def F.f91 (w:List Vl.Data)(t:Ty)(v:Vl.Value):Option (Bool):=
 F.f87 w t v 10>>=fun v1=>
 if v1=true then
  F.f89 v 60>>=fun v5=>
  some (decide (v5<=60))
 else
  some false
def F.f92 (w:List Vl.Data)(t:Ty)(p:Pattern):Option (Vl.Value×Bool):=
 F.f68 w t p>>=fun v=>
 if v=true then
  F.f79 w t p>>=fun v4=>
  if v4=true then
   some ((⟨0,0,[]⟩:Vl.Value),false)
  else
   F.f76 w>>=fun v8=>
   F.f80 w v8 t p>>=fun v10=>
   if v10=true then
    F.f76 w>>=fun v14=>
    F.f85 w v14 t p>>=fun v16=>
    F.f91 w t v16>>=fun v18=>
    if v18=true then
     some (v16,true)
    else
     some ((⟨0,0,[]⟩:Vl.Value),false)
   else
    some ((⟨0,0,[]⟩:Vl.Value),false)
 else
  some ((⟨0,0,[]⟩:Vl.Value),false)
def F.f93 (n:Int)(low:Int)(high:Int):Option (Bool):=
 if low<=n then
  some (decide (n<=high))
 else
  some false
def F.f94 (s:ByteArray)(i:Nat):Option (Lo Bool Unit):=
 if i<s.size then
  if byteAt s i<97 then
   some (.ret false)
  else
   if 122<byteAt s i then
    some (.ret false)
   else
    if i+1<=9223372036854775807 then
     F.f94 s (i+1)
    else none
 else
  some (.go ())
 partial_fixpoint
def F.f95 (s:ByteArray):Option (Bool):=
 F.f93 (s.size:Int) 1 5>>=fun v=>
 if v=true then
  if 0<s.size then
   if byteAt s 0<65 then
    some false
   else
    if 90<byteAt s 0 then
     some false
    else
     F.f94 s 1>>=fun o'=>
     match o' with
     | .ret r0=>some r0
     | .go sx=>
      some true
  else none
 else
  some false
def F.f96 (w:List Vl.Data)(t:Ty):Option (Bool):=
 if dec (eq2 (t.data,t.index) ((-1),0))=true then
  some true
 else
  F.f93 t.data 0 (i64.wrap ((w.length:Int) -1))>>=fun v=>
  if v=true then
   F.f93 t.index (-1) 3>>=fun v6=>
   some v6
  else
   some false
def F.f97 (t:Ty)(a1:List Vl.Data):Option (Bool):=
 F.f96 a1 t>>=fun v=>
 some (!v)
def F.f98 (s:List Ty)(k0:List Vl.Data)(i:Nat):Option (Lo Int Unit):=
 if i<s.length then
  s[i]?>>=fun x=>
  F.f97 x k0>>=fun v=>
  if v=true then
   some (.ret (i:Int))
  else
   F.f98 s k0 (i+1)
 else
  some (.go ())
 partial_fixpoint
def F.f99 (s:List Ty)(k0:List Vl.Data):Option (Int):=
 F.f98 s k0 0>>=fun o'=>
 match o' with
 | .ret r0=>some r0
 | .go sx=>
  some (-1)
def F.f100 (s:List Ty)(k0:List Vl.Data):Option (Bool):=
 F.f99 s k0>>=fun v=>
 some (decide (0<=v))
def F.f101 (w:List Vl.Data)(c':Ctor):Option (Bool):=
 F.f95 c'.name>>=fun v=>
 if v=true then
  if c'.args.length<=3 then
   F.f93 c'.index 0 3>>=fun v7=>
   if v7=true then
    F.f100 c'.args w>>=fun v11=>
    some (!v11)
   else
    some false
  else
   some false
 else
  some false
def F.f102 (w:List Vl.Data)(met4:List ByteArray)(i:Nat)(x:Vl.Data)(met26:List ByteArray)(i27:Nat):Option (Lo Bool (List ByteArray)):=
 if i27<x.ctors.length then
  x.ctors[i27]?>>=fun x31=>
  F.f101 w x31>>=fun v33=>
  if v33=true then
   if dec (x31.name∈met26)=true then
    some (.ret false)
   else
    F.f102 w met4 i x (ZCP met26 x31.name) (i27+1)
  else
   some (.ret false)
 else
  some (.go met26)
 partial_fixpoint
def F.f103 (w:List Vl.Data)(met:List ByteArray)(met4:List ByteArray)(i:Nat):Option (Lo Bool ((List ByteArray)×(List ByteArray))):=
 if i<w.length then
  w[i]?>>=fun x=>
  if x.name.size=1 then
   if 0<x.name.size then
    if byteAt x.name 0<65 then
     some (.ret false)
    else
     if 90<byteAt x.name 0 then
      some (.ret false)
     else
      if x.name.toList=(⟨#[73]⟩:ByteArray).toList then
       some (.ret false)
      else
       if dec (x.name∈met4)=true then
        some (.ret false)
       else
        F.f93 (x.ctors.length:Int) 1 4>>=fun v=>
        if v=true then
         F.f102 w met4 i x met 0>>=fun o'=>
         match o' with
         | .ret r0=>some (.ret r0)
         | .go sx=>
          if i+1<=9223372036854775807 then
           F.f103 w sx (ZCP met4 x.name) (i+1)
          else none
        else
         some (.ret false)
   else none
  else
   some (.ret false)
 else
  some (.go (met,met4))
 partial_fixpoint
def F.f104 (w:List Vl.Data):Option (Bool):=
 if 4<w.length then
  some false
 else
  F.f103 w [] [] 0>>=fun o'44=>
  match o'44 with
  | .ret r046=>some r046
  | .go sx45=>
   some true
def F.f105 (w:List Vl.Data)(t:Ty):Option (Bool):=
 if dec (eq2 (t.data,t.index) ((-1),0))=true then
  some true
 else
  F.f93 t.data 0 (i64.wrap ((w.length:Int) -1))>>=fun v=>
  if v=true then
   F.f93 t.index 0 3>>=fun v6=>
   some v6
  else
   some false
def F.f106 (w:List Vl.Data)(t:Ty):Option (Bool):=
 F.f104 w>>=fun v=>
 if v=true then
  F.f105 w t>>=fun v4=>
  some v4
 else
  some false
def F.f107 (p:Pattern)(ctor:Bool)(numbers:Bool)(variable':Bool)(kids:Int):Option (Bool):=
 if ctor=true then
  if numbers=true then
   if variable'=true then
    some (decide ((p.kids.length:Int)=kids))
   else
    if p.var=0 then
     some (decide ((p.kids.length:Int)=kids))
    else
     some false
  else
   if p.n=0 then
    if p.m=0 then
     if variable'=true then
      some (decide ((p.kids.length:Int)=kids))
     else
      if p.var=0 then
       some (decide ((p.kids.length:Int)=kids))
      else
       some false
    else
     some false
   else
    some false
 else
  if p.ctor=0 then
   if numbers=true then
    if variable'=true then
     some (decide ((p.kids.length:Int)=kids))
    else
     if p.var=0 then
      some (decide ((p.kids.length:Int)=kids))
     else
      some false
   else
    if p.n=0 then
     if p.m=0 then
      if variable'=true then
       some (decide ((p.kids.length:Int)=kids))
      else
       if p.var=0 then
        some (decide ((p.kids.length:Int)=kids))
       else
        some false
     else
      some false
    else
     some false
  else
   some false
def F.f108 (v:Int):Option (Bool):=
 F.f93 v 0 5>>=fun v1=>
 some v1
def F.f109 (t:Ty)(x:Vl.Data)(i:Nat)(out:List Int):Option (List Int):=
 if i<x.ctors.length then
  x.ctors[i]?>>=fun x7=>
  if t.index=0 then
   if out.length+1<=67108864 then
    F.f109 t x (i+1) (out++[(i:Int)])
   else none
  else
   if x7.index=0 then
    if out.length+1<=67108864 then
     F.f109 t x (i+1) (out++[(i:Int)])
    else none
   else
    if x7.index=t.index then
     if out.length+1<=67108864 then
      F.f109 t x (i+1) (out++[(i:Int)])
     else none
    else
     F.f109 t x (i+1) out
 else
  some out
 partial_fixpoint
def F.f110 (w:List Vl.Data)(t:Ty):Option (List Int):=
 if t.data=(-1)then
  some []
 else
  at? w t.data>>=fun x=>
  F.f109 t x 0 []>>=fun o'=>
  some o'
def F.f111 (s:List Int)(v:Int)(i:Nat):Option (Lo Int Unit):=
 if i<s.length then
  s[i]?>>=fun x=>
  if v=x then
   some (.ret (i:Int))
  else
   F.f111 s v (i+1)
 else
  some (.go ())
 partial_fixpoint
def F.f112 (s:List Int)(v:Int):Option (Int):=
 F.f111 s v 0>>=fun o'=>
 match o' with
 | .ret r0=>some r0
 | .go sx=>
  some (-1)
def F.f113 (s:List Int)(v:Int):Option (Bool):=
 F.f112 s v>>=fun v1=>
 some (decide (0<=v1))
def F.f114 (t:Ty)(x2:Ctor)(i:Nat)(out:List Ty):Option (List Ty):=
 if i<x2.args.length then
  x2.args[i]?>>=fun x9=>
  if x9.index=(-1)then
   if out.length+1<=67108864 then
    F.f114 t x2 (i+1) (out++[(⟨x9.data,t.index⟩:Ty)])
   else none
  else
   if out.length+1<=67108864 then
    F.f114 t x2 (i+1) (out++[x9])
   else none
 else
  some out
 partial_fixpoint
def F.f115 (x2:Ctor)(i18:Nat)(out19:List Ty):Option (List Ty):=
 if i18<x2.args.length then
  x2.args[i18]?>>=fun x23=>
  if x23.index=(-1)then
   if out19.length+1<=67108864 then
    F.f115 x2 (i18+1) (out19++[(⟨x23.data,x2.index⟩:Ty)])
   else none
  else
   if out19.length+1<=67108864 then
    F.f115 x2 (i18+1) (out19++[x23])
   else none
 else
  some out19
 partial_fixpoint
def F.f116 (w:List Vl.Data)(t:Ty)(ctor:Int):Option (List Ty):=
 at? w t.data>>=fun x=>
 at? x.ctors ctor>>=fun x2=>
 if x2.index=0 then
  F.f114 t x2 0 []>>=fun o'=>
  some o'
 else
  F.f115 x2 0 []>>=fun o'32=>
  some o'32
def F.f117 (w:List Vl.Data)(t:Ty)(p:Pattern):Option ((List Ty)×Bool):=
 if p.op=1 then
  F.f107 p false false false 0>>=fun v=>
  some ([],v)
 else
  if p.op=2 then
   F.f107 p false false true 0>>=fun v6=>
   if v6=true then
    F.f108 p.var>>=fun v10=>
    some ([],v10)
   else
    some ([],false)
  else
   if p.op=3 then
    if t.data=(-1)then
     F.f107 p false true false 0>>=fun v16=>
     if v16=true then
      if 0<=p.n then
       if p.n<=p.m then
        some ([],decide (p.m<=9))
       else
        some ([],false)
      else
       some ([],false)
     else
      some ([],false)
    else
     some ([],false)
   else
    if p.op=4 then
     F.f110 w t>>=fun v26=>
     F.f113 v26 p.ctor>>=fun v28=>
     if v28=true then
      F.f116 w t p.ctor>>=fun v32=>
      F.f107 p true false false (v32.length:Int)>>=fun v34=>
      some (v32,v34)
     else
      some ([],false)
    else
     if p.op=5 then
      F.f107 p false false false 2>>=fun v38=>
      some ([t,t],v38)
     else
      if p.op=6 then
       F.f107 p false false true 1>>=fun v42=>
       if v42=true then
        F.f108 p.var>>=fun v46=>
        some ([t],v46)
       else
        some ([t],false)
      else
       some ([],false)
def F.f118 (s:List VarType)(v:VarType)(i:Nat):Option (Lo Int Unit):=
 if i<s.length then
  s[i]?>>=fun x=>
  if dec (eq3 (v.var,v.type.data,v.type.index) (x.var,x.type.data,x.type.index))=true then
   some (.ret (i:Int))
  else
   F.f118 s v (i+1)
 else
  some (.go ())
 partial_fixpoint
def F.f119 (s:List VarType)(v:VarType):Option (Int):=
 F.f118 s v 0>>=fun o'=>
 match o' with
 | .ret r0=>some r0
 | .go sx=>
  some (-1)
def F.f120 (s:List VarType)(v:VarType):Option (Bool):=
 F.f119 s v>>=fun v1=>
 some (decide (0<=v1))
def F.f121 (v:VarType)(a1:List VarType):Option (Bool):=
 F.f120 a1 v>>=fun v1=>
 some (!v1)
def F.f122 (s:List VarType)(k0:List VarType)(i:Nat):Option (Lo Int Unit):=
 if i<s.length then
  s[i]?>>=fun x=>
  F.f121 x k0>>=fun v=>
  if v=true then
   some (.ret (i:Int))
  else
   F.f122 s k0 (i+1)
 else
  some (.go ())
 partial_fixpoint
def F.f123 (s:List VarType)(k0:List VarType):Option (Int):=
 F.f122 s k0 0>>=fun o'=>
 match o' with
 | .ret r0=>some r0
 | .go sx=>
  some (-1)
def F.f124 (s:List VarType)(k0:List VarType):Option (Bool):=
 F.f123 s k0>>=fun v=>
 some (decide (0<=v))
def F.f125 (a:List VarType)(b:List VarType):Option (Bool):=
 if a.length=b.length then
  F.f124 a b>>=fun v=>
  some (!v)
 else
  some false
def F.f126 (sx:Int×(List VarType))(set':Nat->Bool)(i37:Nat):Option (Lo ((List VarType)×Bool×Int) Unit):=
 if i37<sx.2.length then
  sx.2[i37]?>>=fun x41=>
  if 0<=x41.var/\x41.var.toNat<6 then
   if set' x41.var.toNat=true then
    some (.ret ([],false,sx.1))
   else
    F.f126 sx (updF set' x41.var.toNat true) (i37+1)
  else none
 else
  some (.go ())
 partial_fixpoint
def F.f127 (sx81:Int×(List VarType))(set'82:Nat->Bool)(i83:Nat):Option (Lo ((List VarType)×Bool×Int) Unit):=
 if i83<sx81.2.length then
  sx81.2[i83]?>>=fun x87=>
  if 0<=x87.var/\x87.var.toNat<6 then
   if set'82 x87.var.toNat=true then
    some (.ret ([],false,sx81.1))
   else
    F.f127 sx81 (updF set'82 x87.var.toNat true) (i83+1)
  else none
 else
  some (.go ())
 partial_fixpoint
def F.f128 (sx128:Int×(List VarType))(set'129:Nat->Bool)(i130:Nat):Option (Lo ((List VarType)×Bool×Int) Unit):=
 if i130<sx128.2.length then
  sx128.2[i130]?>>=fun x134=>
  if 0<=x134.var/\x134.var.toNat<6 then
   if set'129 x134.var.toNat=true then
    some (.ret ([],false,sx128.1))
   else
    F.f128 sx128 (updF set'129 x134.var.toNat true) (i130+1)
  else none
 else
  some (.go ())
 partial_fixpoint
mutual
def F.f129 (w:List Vl.Data)(t:Ty)(p:Pattern)(deep:Int)(count:Int):Option ((List VarType)×Bool×Int):=
 if 60<i64.wrap (count+1)then
  some ([],false,i64.wrap (count+1))
 else
  if 10<deep then
   some ([],false,i64.wrap (count+1))
  else
   F.f117 w t p>>=fun v=>
   if v.2=true then
    if p.op=2 then
     F.f132 w p deep v (i64.wrap (count+1)) [(⟨p.var,t⟩:VarType)] 0>>=fun o'127=>
     match o'127 with
     | .ret r0144=>some r0144
     | .go sx128=>
      F.f128 sx128 (fun _=>false) 0>>=fun o'141=>
      match o'141 with
      | .ret r0143=>some r0143
      | .go sx142=>
       some (sx128.2,true,sx128.1)
    else
     if p.op=6 then
      F.f130 w p deep v (i64.wrap (count+1)) [(⟨p.var,t⟩:VarType)] 0>>=fun o'=>
      match o' with
      | .ret r050=>some r050
      | .go sx=>
       F.f126 sx (fun _=>false) 0>>=fun o'48=>
       match o'48 with
       | .ret r0=>some r0
       | .go sx49=>
        some (sx.2,true,sx.1)
     else
      F.f131 w p deep v (i64.wrap (count+1)) [] 0>>=fun o'80=>
      match o'80 with
      | .ret r097=>some r097
      | .go sx81=>
       F.f127 sx81 (fun _=>false) 0>>=fun o'94=>
       match o'94 with
       | .ret r096=>some r096
       | .go sx95=>
        some (sx81.2,true,sx81.1)
   else
    some ([],false,i64.wrap (count+1))
 partial_fixpoint
def F.f130 (w:List Vl.Data)(p:Pattern)(deep:Int)(v:(List Ty)×Bool)(z:Int)(vars:List VarType)(i:Nat):Option (Lo ((List VarType)×Bool×Int) (Int×(List VarType))):=
 if i<p.kids.length then
  p.kids[i]?>>=fun x=>
  v.1[i]?>>=fun x16=>
  F.f129 w x16 x (i64.wrap (deep+1)) z>>=fun v18=>
  if v18.2.1=true then
   if p.op=5 then
    if i=1 then
     F.f125 vars v18.1>>=fun v27=>
     if v27=true then
      F.f130 w p deep v v18.2.2 vars (i+1)
     else
      some (.ret ([],false,v18.2.2))
    else
     if vars.length+v18.1.length<=67108864 then
      F.f130 w p deep v v18.2.2 (vars++v18.1) (i+1)
     else none
   else
    if vars.length+v18.1.length<=67108864 then
     F.f130 w p deep v v18.2.2 (vars++v18.1) (i+1)
    else none
  else
   some (.ret ([],false,v18.2.2))
 else
  some (.go (z,vars))
 partial_fixpoint
def F.f131 (w:List Vl.Data)(p:Pattern)(deep:Int)(v:(List Ty)×Bool)(z51:Int)(vars52:List VarType)(i53:Nat):Option (Lo ((List VarType)×Bool×Int) (Int×(List VarType))):=
 if i53<p.kids.length then
  p.kids[i53]?>>=fun x57=>
  v.1[i53]?>>=fun x59=>
  F.f129 w x59 x57 (i64.wrap (deep+1)) z51>>=fun v61=>
  if v61.2.1=true then
   if p.op=5 then
    if i53=1 then
     F.f125 vars52 v61.1>>=fun v70=>
     if v70=true then
      F.f131 w p deep v v61.2.2 vars52 (i53+1)
     else
      some (.ret ([],false,v61.2.2))
    else
     if vars52.length+v61.1.length<=67108864 then
      F.f131 w p deep v v61.2.2 (vars52++v61.1) (i53+1)
     else none
   else
    if vars52.length+v61.1.length<=67108864 then
     F.f131 w p deep v v61.2.2 (vars52++v61.1) (i53+1)
    else none
  else
   some (.ret ([],false,v61.2.2))
 else
  some (.go (z51,vars52))
 partial_fixpoint
def F.f132 (w:List Vl.Data)(p:Pattern)(deep:Int)(v:(List Ty)×Bool)(z98:Int)(vars99:List VarType)(i100:Nat):Option (Lo ((List VarType)×Bool×Int) (Int×(List VarType))):=
 if i100<p.kids.length then
  p.kids[i100]?>>=fun x104=>
  v.1[i100]?>>=fun x106=>
  F.f129 w x106 x104 (i64.wrap (deep+1)) z98>>=fun v108=>
  if v108.2.1=true then
   if p.op=5 then
    if i100=1 then
     F.f125 vars99 v108.1>>=fun v117=>
     if v117=true then
      F.f132 w p deep v v108.2.2 vars99 (i100+1)
     else
      some (.ret ([],false,v108.2.2))
    else
     if vars99.length+v108.1.length<=67108864 then
      F.f132 w p deep v v108.2.2 (vars99++v108.1) (i100+1)
     else none
   else
    if vars99.length+v108.1.length<=67108864 then
     F.f132 w p deep v v108.2.2 (vars99++v108.1) (i100+1)
    else none
  else
   some (.ret ([],false,v108.2.2))
 else
  some (.go (z98,vars99))
 partial_fixpoint
end
def F.f133 (w:List Vl.Data)(t:Ty)(p:Pattern):Option ((List VarType)×Bool):=
 F.f129 w t p 1 0>>=fun v=>
 some (v.1,v.2.1)
def F.f134 (w:List Vl.Data)(t:Ty)(p:Pattern):Option (Bool):=
 F.f133 w t p>>=fun v=>
 some v.2
def F.f135 (w:List Vl.Data)(t:Ty)(p:Pattern):Option (Bool):=
 F.f106 w t>>=fun v=>
 if v=true then
  F.f134 w t p>>=fun v4=>
  some v4
 else
  some false
def F.f136 (d:Nat->Int)(t:Ty):Option (Int):=
 if t.data=(-1)then
  some 1
 else
  if 0<=t.data/\t.data.toNat<4 then
   if 0<=t.index/\t.index.toNat<4 then
    some (d (t.data.toNat*4+t.index.toNat))
   else none
  else none
def F.f137 (d:Nat->Int)(v:List Ty)(i:Nat)(most:Int):Option (Lo Int Int):=
 if i<v.length then
  v[i]?>>=fun x=>
  F.f136 d x>>=fun v6=>
  if v6=0 then
   some (.ret 0)
  else
   F.f137 d v (i+1) (if v6>most then v6 else most)
 else
  some (.go most)
 partial_fixpoint
def F.f138 (d:Nat->Int)(w:List Vl.Data)(t:Ty)(ctor:Int):Option (Int):=
 F.f116 w t ctor>>=fun v=>
 F.f137 d v 0 0>>=fun o'=>
 match o' with
 | .ret r0=>some r0
 | .go sx=>
  some (i64.wrap (sx+1))
def F.f139 (w:List Vl.Data)(i:Nat)(index':Nat)(v:List Int)(set'14:Nat->Int)(i15:Nat)(changed16:Bool):Option ((Nat->Int)×Bool):=
 if i15<v.length then
  v[i15]?>>=fun x=>
  F.f138 set'14 w (⟨(i:Int),(index':Int)⟩:Ty) x>>=fun v21=>
  if 0<v21 then
   F.f136 set'14 (⟨(i:Int),(index':Int)⟩:Ty)>>=fun v25=>
   if v25=0 then
    if i<4 then
     if index'<4 then
      F.f139 w i index' v (updF set'14 (i*4+index') v21) (i15+1) true
     else none
    else none
   else
    F.f136 set'14 (⟨(i:Int),(index':Int)⟩:Ty)>>=fun v29=>
    if v21<v29 then
     if i<4 then
      if index'<4 then
       F.f139 w i index' v (updF set'14 (i*4+index') v21) (i15+1) true
      else none
     else none
    else
     F.f139 w i index' v set'14 (i15+1) changed16
  else
   F.f139 w i index' v set'14 (i15+1) changed16
 else
  some (set'14,changed16)
 partial_fixpoint
def F.f140 (w:List Vl.Data)(i:Nat)(set'8:Nat->Int)(changed9:Bool)(index':Nat):Option ((Nat->Int)×Bool):=
 if index'<=3 then
  F.f110 w (⟨(i:Int),(index':Int)⟩:Ty)>>=fun v=>
  F.f139 w i index' v set'8 0 changed9>>=fun o'=>
  if index'+1<=9223372036854775807 then
   F.f140 w i o'.1 o'.2 (index'+1)
  else none
 else
  some (set'8,changed9)
 partial_fixpoint
def F.f141 (w:List Vl.Data)(set'3:Nat->Int)(i:Nat)(changed4:Bool):Option ((Nat->Int)×Bool):=
 if i<w.length then
  F.f140 w i set'3 changed4 0>>=fun o'47=>
  if i+1<=9223372036854775807 then
   F.f141 w o'47.1 (i+1) o'47.2
  else none
 else
  some (set'3,changed4)
 partial_fixpoint
def F.f142 (w:List Vl.Data)(set':Nat->Int)(changed:Bool):Option (Nat->Int):=
 if changed=true then
  F.f141 w set' 0 false>>=fun o'51=>
  F.f142 w o'51.1 o'51.2
 else
  some set'
 partial_fixpoint
def F.f143 (w:List Vl.Data):Option (Nat->Int):=
 F.f142 w (fun _=>0) true>>=fun o'53=>
 some o'53
def F.f144 (w:List Vl.Data)(t:Ty)(p:Pattern):Option (List Ty):=
 F.f117 w t p>>=fun v=>
 some v.1
mutual
def F.f145 (s:ZL)(t:Ty)(p:Pattern):Option (Bool):=
 if p.op=1 then
  F.f136 s.f1 t>>=fun v=>
  some (decide (v=0))
 else
  if p.op=2 then
   F.f136 s.f1 t>>=fun v6=>
   some (decide (v6=0))
  else
   if p.op=5 then
    p.kids[0]?>>=fun x=>
    F.f145 s t x>>=fun v11=>
    if v11=true then
     p.kids[1]?>>=fun x15=>
     F.f145 s t x15>>=fun v17=>
     some v17
    else
     some false
   else
    F.f144 s.f0 t p>>=fun v19=>
    F.f146 s p v19 0>>=fun o'=>
    match o' with
    | .ret r0=>some r0
    | .go sx=>
     some false
 partial_fixpoint
def F.f146 (s:ZL)(p:Pattern)(v19:List Ty)(i:Nat):Option (Lo Bool Unit):=
 if i<v19.length then
  v19[i]?>>=fun x24=>
  p.kids[i]?>>=fun x26=>
  F.f145 s x24 x26>>=fun v28=>
  if v28=true then
   some (.ret true)
  else
   F.f146 s p v19 (i+1)
 else
  some (.go ())
 partial_fixpoint
end
mutual
def F.f147 (s:ZL)(t:Ty)(p:Pattern):Option (Bool):=
 if p.op=1 then
  F.f136 s.f1 t>>=fun v20=>
  some (decide (10<v20))
 else
  if p.op=2 then
   F.f136 s.f1 t>>=fun v=>
   some (decide (10<v))
  else
   F.f144 s.f0 t p>>=fun v6=>
   F.f148 s p v6 0>>=fun o'=>
   match o' with
   | .ret r0=>some r0
   | .go sx=>
    some false
 partial_fixpoint
def F.f148 (s:ZL)(p:Pattern)(v6:List Ty)(i:Nat):Option (Lo Bool Unit):=
 if i<v6.length then
  v6[i]?>>=fun x=>
  p.kids[i]?>>=fun x12=>
  F.f147 s x x12>>=fun v14=>
  if v14=true then
   some (.ret true)
  else
   F.f148 s p v6 (i+1)
 else
  some (.go ())
 partial_fixpoint
end
def F.f149 (n:Int):Option (Vl.Value):=
 some (⟨(-1),n,[]⟩:Vl.Value)
mutual
def F.f150 (w:List Vl.Data)(d:Nat->Int)(t:Ty):Option (Vl.Value):=
 if t.data=(-1)then
  F.f149 0>>=fun v=>
  some v
 else
  F.f110 w t>>=fun v4=>
  F.f151 w d t v4 0>>=fun o'34=>
  match o'34 with
  | .ret r0=>some r0
  | .go sx=>
   some (⟨0,0,[]⟩:Vl.Value)
 partial_fixpoint
def F.f151 (w:List Vl.Data)(d:Nat->Int)(t:Ty)(v4:List Int)(i:Nat):Option (Lo Vl.Value Unit):=
 if i<v4.length then
  v4[i]?>>=fun x=>
  F.f138 d w t x>>=fun v10=>
  F.f136 d t>>=fun v12=>
  if v10=v12 then
   F.f116 w t x>>=fun v17=>
   F.f152 w d x v17 [] 0>>=fun o'=>
   some (.ret (⟨x,0,o'⟩:Vl.Value))
  else
   F.f151 w d t v4 (i+1)
 else
  some (.go ())
 partial_fixpoint
def F.f152 (w:List Vl.Data)(d:Nat->Int)(x:Int)(v17:List Ty)(out:List Vl.Value)(i20:Nat):Option (List Vl.Value):=
 if i20<v17.length then
  v17[i20]?>>=fun x25=>
  F.f150 w d x25>>=fun v27=>
  if out.length+1<=67108864 then
   F.f152 w d x v17 (out++[v27]) (i20+1)
  else none
 else
  some out
 partial_fixpoint
end
mutual
def F.f153 (s:ZL)(t:Ty)(p:Pattern):Option (Vl.Value):=
 if p.op=1 then
  F.f150 s.f0 s.f1 t>>=fun v=>
  some v
 else
  if p.op=2 then
   F.f150 s.f0 s.f1 t>>=fun v6=>
   some v6
  else
   if p.op=3 then
    F.f149 p.n>>=fun v11=>
    some v11
   else
    if p.op=6 then
     p.kids[0]?>>=fun x=>
     F.f153 s t x>>=fun v17=>
     some v17
    else
     if p.op=5 then
      p.kids[0]?>>=fun x22=>
      F.f145 s t x22>>=fun v24=>
      if v24=true then
       p.kids[1]?>>=fun x28=>
       F.f153 s t x28>>=fun v30=>
       some v30
      else
       F.f153 s t x22>>=fun v33=>
       some v33
     else
      F.f116 s.f0 t p.ctor>>=fun v36=>
      F.f154 s p v36 [] 0>>=fun o'=>
      some (⟨p.ctor,0,o'⟩:Vl.Value)
 partial_fixpoint
def F.f154 (s:ZL)(p:Pattern)(v36:List Ty)(out:List Vl.Value)(i:Nat):Option (List Vl.Value):=
 if i<v36.length then
  v36[i]?>>=fun x43=>
  p.kids[i]?>>=fun x45=>
  F.f153 s x43 x45>>=fun v47=>
  if out.length+1<=67108864 then
   F.f154 s p v36 (out++[v47]) (i+1)
  else none
 else
  some out
 partial_fixpoint
end
mutual
def F.f155 (w:List Vl.Data)(t:Ty)(v:Vl.Value)(deep:Int)(holes:Bool)(count:Int):Option (Bool×Int):=
 if 60<i64.wrap (count+1)then
  some (false,i64.wrap (count+1))
 else
  if 10<deep then
   some (false,i64.wrap (count+1))
  else
   if holes=true then
    if v.ctor=(-2)then
     if v.n=0 then
      some (decide (v.kids.length=0),i64.wrap (count+1))
     else
      some (false,i64.wrap (count+1))
    else
     if t.data=(-1)then
      if v.ctor=(-1)then
       F.f93 v.n 0 9>>=fun v15=>
       if v15=true then
        some (decide (v.kids.length=0),i64.wrap (count+1))
       else
        some (false,i64.wrap (count+1))
      else
       some (false,i64.wrap (count+1))
     else
      if v.n=0 then
       F.f110 w t>>=fun v21=>
       F.f113 v21 v.ctor>>=fun v23=>
       if v23=true then
        F.f116 w t v.ctor>>=fun v27=>
        if v27.length=v.kids.length then
         F.f156 w v deep holes v27 (i64.wrap (count+1)) 0>>=fun o'=>
         match o' with
         | .ret r0=>some r0
         | .go sx=>
          some (true,sx)
        else
         some (false,i64.wrap (count+1))
       else
        some (false,i64.wrap (count+1))
      else
       some (false,i64.wrap (count+1))
   else
    if t.data=(-1)then
     if v.ctor=(-1)then
      F.f93 v.n 0 9>>=fun v48=>
      if v48=true then
       some (decide (v.kids.length=0),i64.wrap (count+1))
      else
       some (false,i64.wrap (count+1))
     else
      some (false,i64.wrap (count+1))
    else
     if v.n=0 then
      F.f110 w t>>=fun v54=>
      F.f113 v54 v.ctor>>=fun v56=>
      if v56=true then
       F.f116 w t v.ctor>>=fun v60=>
       if v60.length=v.kids.length then
        F.f157 w v deep holes v60 (i64.wrap (count+1)) 0>>=fun o'80=>
        match o'80 with
        | .ret r082=>some r082
        | .go sx81=>
         some (true,sx81)
       else
        some (false,i64.wrap (count+1))
      else
       some (false,i64.wrap (count+1))
     else
      some (false,i64.wrap (count+1))
 partial_fixpoint
def F.f156 (w:List Vl.Data)(v:Vl.Value)(deep:Int)(holes:Bool)(v27:List Ty)(z:Int)(i:Nat):Option (Lo (Bool×Int) Int):=
 if i<v.kids.length then
  v.kids[i]?>>=fun x=>
  v27[i]?>>=fun x36=>
  F.f155 w x36 x (i64.wrap (deep+1)) holes z>>=fun v38=>
  if v38.1=true then
   F.f156 w v deep holes v27 v38.2 (i+1)
  else
   some (.ret (false,v38.2))
 else
  some (.go z)
 partial_fixpoint
def F.f157 (w:List Vl.Data)(v:Vl.Value)(deep:Int)(holes:Bool)(v60:List Ty)(z65:Int)(i66:Nat):Option (Lo (Bool×Int) Int):=
 if i66<v.kids.length then
  v.kids[i66]?>>=fun x70=>
  v60[i66]?>>=fun x72=>
  F.f155 w x72 x70 (i64.wrap (deep+1)) holes z65>>=fun v74=>
  if v74.1=true then
   F.f157 w v deep holes v60 v74.2 (i66+1)
  else
   some (.ret (false,v74.2))
 else
  some (.go z65)
 partial_fixpoint
end
def F.f158 (w:List Vl.Data)(t:Ty)(v:Vl.Value):Option (Bool):=
 F.f155 w t v 1 false 0>>=fun v1=>
 some v1.1
def F.f159 (w:List Vl.Data)(t:Ty)(p:Pattern):Option (Vl.Value×Bool):=
 F.f135 w t p>>=fun v=>
 if v=true then
  F.f143 w>>=fun p4=>
  F.f145 (⟨w,p4⟩:ZL) t p>>=fun v6=>
  if v6=true then
   some ((⟨0,0,[]⟩:Vl.Value),false)
  else
   F.f147 (⟨w,p4⟩:ZL) t p>>=fun v10=>
   if v10=true then
    some ((⟨0,0,[]⟩:Vl.Value),false)
   else
    F.f153 (⟨w,p4⟩:ZL) t p>>=fun v14=>
    F.f158 w t v14>>=fun v16=>
    if v16=true then
     some (v14,true)
    else
     some ((⟨0,0,[]⟩:Vl.Value),false)
 else
  some ((⟨0,0,[]⟩:Vl.Value),false)
mutual
def F.f160 (a:Vl.Value)(b:Vl.Value):Option (Bool):=
 if a.ctor=b.ctor then
  if a.n=b.n then
   F.f161 a.kids b.kids>>=fun v=>
   if v=true then
    some true
   else
    some false
  else
   some false
 else
  some false
 partial_fixpoint
def F.f161 (a:List Vl.Value)(b:List Vl.Value):Option (Bool):=
 if a.length=b.length then
  F.f162 a b 0>>=fun o'=>
  match o' with
  | .ret r0=>some r0
  | .go sx=>
   some true
 else
  some false
 partial_fixpoint
def F.f162 (a:List Vl.Value)(b:List Vl.Value)(i:Nat):Option (Lo Bool Unit):=
 if i<a.length then
  a[i]?>>=fun x=>
  b[i]?>>=fun x8=>
  F.f160 x x8>>=fun v=>
  if v=true then
   F.f162 a b (i+1)
  else
   some (.ret false)
 else
  some (.go ())
 partial_fixpoint
end
def F.f163 (a:Ty)(b:Ty):Option (Bool):=
 if a.data=b.data then
  if a.index=b.index then
   some true
  else
   some false
 else
  some false
def F.f164 (a:List Ty)(b:List Ty)(i:Nat):Option (Lo Bool Unit):=
 if i<a.length then
  a[i]?>>=fun x=>
  b[i]?>>=fun x8=>
  F.f163 x x8>>=fun v=>
  if v=true then
   F.f164 a b (i+1)
  else
   some (.ret false)
 else
  some (.go ())
 partial_fixpoint
def F.f165 (a:List Ty)(b:List Ty):Option (Bool):=
 if a.length=b.length then
  F.f164 a b 0>>=fun o'=>
  match o' with
  | .ret r0=>some r0
  | .go sx=>
   some true
 else
  some false
def F.f166 (a:Ctor)(b:Ctor):Option (Bool):=
 if a.name.toList=b.name.toList then
  F.f165 a.args b.args>>=fun v=>
  if v=true then
   if a.index=b.index then
    some true
   else
    some false
  else
   some false
 else
  some false
def F.f167 (a:List Ctor)(b:List Ctor)(i:Nat):Option (Lo Bool Unit):=
 if i<a.length then
  a[i]?>>=fun x=>
  b[i]?>>=fun x8=>
  F.f166 x x8>>=fun v=>
  if v=true then
   F.f167 a b (i+1)
  else
   some (.ret false)
 else
  some (.go ())
 partial_fixpoint
def F.f168 (a:List Ctor)(b:List Ctor):Option (Bool):=
 if a.length=b.length then
  F.f167 a b 0>>=fun o'=>
  match o' with
  | .ret r0=>some r0
  | .go sx=>
   some true
 else
  some false
def F.f169 (a:Vl.Data)(b:Vl.Data):Option (Bool):=
 if a.name.toList=b.name.toList then
  F.f168 a.ctors b.ctors>>=fun v=>
  if v=true then
   some true
  else
   some false
 else
  some false
def F.f170 (a:List Vl.Data)(b:List Vl.Data)(i:Nat):Option (Lo Bool Unit):=
 if i<a.length then
  a[i]?>>=fun x=>
  b[i]?>>=fun x8=>
  F.f169 x x8>>=fun v=>
  if v=true then
   F.f170 a b (i+1)
  else
   some (.ret false)
 else
  some (.go ())
 partial_fixpoint
def F.f171 (a:List Vl.Data)(b:List Vl.Data):Option (Bool):=
 if a.length=b.length then
  F.f170 a b 0>>=fun o'=>
  match o' with
  | .ret r0=>some r0
  | .go sx=>
   some true
 else
  some false
mutual
def F.f172 (a:Pattern)(b:Pattern):Option (Bool):=
 if a.op=b.op then
  if a.ctor=b.ctor then
   if a.n=b.n then
    if a.m=b.m then
     if a.var=b.var then
      F.f173 a.kids b.kids>>=fun v=>
      if v=true then
       some true
      else
       some false
     else
      some false
    else
     some false
   else
    some false
  else
   some false
 else
  some false
 partial_fixpoint
def F.f173 (a:List Pattern)(b:List Pattern):Option (Bool):=
 if a.length=b.length then
  F.f174 a b 0>>=fun o'=>
  match o' with
  | .ret r0=>some r0
  | .go sx=>
   some true
 else
  some false
 partial_fixpoint
def F.f174 (a:List Pattern)(b:List Pattern)(i:Nat):Option (Lo Bool Unit):=
 if i<a.length then
  a[i]?>>=fun x=>
  b[i]?>>=fun x8=>
  F.f172 x x8>>=fun v=>
  if v=true then
   F.f174 a b (i+1)
  else
   some (.ret false)
 else
  some (.go ())
 partial_fixpoint
end
mutual
def F.f175 (a:List Vl.Value)(k:Int):Option (Int):=
 F.f176 a k 0>>=fun o'=>
 match o' with
 | .ret r0=>some r0
 | .go sx=>
  some sx
 partial_fixpoint
def F.f176 (a:List Vl.Value)(k1:Int)(i:Nat):Option (Lo Int Int):=
 if i<a.length then
  a[i]?>>=fun x=>
  if x.ctor=k1 then
   if x.n=i64.wrap (k1+1)then
    F.f175 x.kids (i64.wrap (i64.wrap (k1+1)+1))>>=fun v=>
    if v<0 then
     some (.ret (-1))
    else
     F.f176 a v (i+1)
   else
    some (.ret (-1))
  else
   some (.ret (-1))
 else
  some (.go k1)
 partial_fixpoint
end
def F.f177 (a:Vl.Value)(k:Int):Option (Int):=
 F.f175 a.kids k>>=fun v=>
 if v<0 then
  some (-1)
 else
  some v
theorem F.markText_run :∀(f:Nat) (k:Int) (out:ByteArray),k<10^f->k<=9223372036854775807->out.size+f<=9223372036854775807->∃r,F.f0 k out=some r/\r.size<=out.size+f
 |0,k,out,h1,h2,h3=>⟨out,by rw[F.f0,iN (by simp at h1;omega)],by omega⟩
 |f+1,k,out,h1,h2,h3=>by
  rw[F.f0]
  by_cases h:0<k
  ·rw[iP h]
   have e1:∀n:Int,(ZHC [n]).size=1:=fun n=>rfl
   have e2:k.tdiv 10=k/10:=Int.tdiv_eq_ediv_of_nonneg (by omega)
   rw[e2,show i64.wrap (k/10)=k/10 from ZB (by omega) (by omega),iP (by rw[e1];omega)]
   obtain⟨r,q1,q2⟩:=F.markText_run f (k/10) (ZHC [zF.wrap (i64.wrap (48+k.tmod 10))]++out) (by rw[Int.pow_succ]at h1;omega) (by omega) (by rw[zC,e1];omega)
   exact⟨r,q1,by rw[zC,e1]at q2;omega⟩
  ·rw[iN h];exact⟨out,rfl,by omega⟩
theorem F.markText_ex (k:Int):∃r,F.f1 k=some r:=by
 have e1:zE ⟨#[109]⟩=1:=rfl
 have e2:zD.size=0:=rfl
 have e3:∀n:Int,(ZHC [n]).size=1:=fun n=>rfl
 have key:∃r,F.f0 k zD=some r/\r.size<=20:=by
  by_cases h:k<=9223372036854775807
  ·obtain⟨r,q1,q2⟩:=F.markText_run 19 k zD (by omega) h (by decide)
   exact⟨r,q1,by omega⟩
  ·rw[F.f0,iP (by omega),iP (by rw[e3];omega)]
   have hw:i64.wrap (k.tdiv 10)<=9223372036854775807:=by
    simp only[zG,zI,zH];simp;omega
   obtain⟨r,q1,q2⟩:=F.markText_run 19 (i64.wrap (k.tdiv 10)) (ZHC [zF.wrap (i64.wrap (48+k.tmod 10))]++zD) (by omega) hw (by rw[zC,e3];omega)
   exact⟨r,q1,by rw[zC,e3]at q2;omega⟩
 unfold F.f1
 split
 ·exact⟨_,rfl⟩
 ·obtain⟨r,q1,q2⟩:=key
  rw[q1]
  simp only[Option.bind_eq_bind,Option.bind_some]
  rw[iP (by rw[e1];omega)]
  exact⟨_,rfl⟩
def mtF (k:Int):ByteArray:=(F.markText_ex k).choose
theorem ZLX (k:Int):F.f1 k=some (mtF k):=(F.markText_ex k).choose_spec
def F.f178 (a:List Pattern)(k:Int):Option (List Pattern×Int):=some (Pattern.mkL a k)
def F.f179 (a:List Vl.Value)(k:Int):Option (List Vl.Value×Int):=some (Vl.Value.mkL a k)
def F.f180 (a:List Ty)(k:Int):Option (List Ty×Int):=some (Ty.mkL a k)
def F.f181 (a:List Ctor)(k:Int):Option (List Ctor×Int):=some (Ctor.mkL mtF a k)
def F.f182 (a:List Vl.Data)(k:Int):Option (List Vl.Data×Int):=some (Vl.Data.mkL mtF a k)
def F.f183 (aW:List Vl.Data)(aT:Ty)(aP:Pattern):Option (Bool):=
 F.f8 aW 1048576>>=fun v=>
 if v<0 then
  some true
 else
  F.f9 aP v>>=fun v4=>
  if v4<0 then
   some true
  else
   F.f20 aW>>=fun v8=>
   F.f12 aT>>=fun v10=>
   F.f21 aP>>=fun v12=>
   F.f92 v8 v10 v12>>=fun v14=>
   F.f20 aW>>=fun v16=>
   F.f21 aP>>=fun v18=>
   F.f12 aT>>=fun v21=>
   F.f159 v16 v21 v18>>=fun v23=>
   F.f160 v23.1 v14.1>>=fun v26=>
   if v26=true then
    if v23.2=v14.2 then
     F.f20 aW>>=fun v32=>
     F.f171 v16 v32>>=fun v34=>
     if v34=true then
      F.f21 aP>>=fun v38=>
      F.f172 v18 v38>>=fun v40=>
      if v40=true then
       F.f182 v16 1>>=fun v44=>
       F.f178 v18.kids v44.2>>=fun v46=>
       if v46.2<0 then
        some false
       else
        F.f160 v23.1 v14.1>>=fun v50=>
        if v50=true then
         F.f179 v23.1.kids 1>>=fun v54=>
         F.f177 (⟨v23.1.ctor,v23.1.n,v54.1⟩:Vl.Value) 1>>=fun v56=>
         if v56<0 then
          some false
         else
          if v56=v54.2 then
           F.f20 aW>>=fun v62=>
           F.f12 aT>>=fun v64=>
           F.f21 aP>>=fun v66=>
           F.f159 v62 v64 v66>>=fun v68=>
           F.f160 v68.1 v14.1>>=fun v71=>
           if v71=true then
            if v68.2=v14.2 then
             F.f177 (⟨v23.1.ctor,v23.1.n,v54.1⟩:Vl.Value) 1>>=fun v77=>
             if v77<0 then
              some false
             else
              if v77=v54.2 then
               some true
              else
               some false
            else
             some false
           else
            some false
          else
           some false
        else
         some false
      else
       some false
     else
      some false
    else
     some false
   else
    some false
end
end Go.Vl
