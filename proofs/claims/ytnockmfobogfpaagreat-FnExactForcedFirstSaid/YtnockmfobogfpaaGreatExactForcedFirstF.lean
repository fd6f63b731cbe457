/- Part. -/
import Derived.Test.YtnockmfobogfpaaGreatVlFa
import Derived.Test.YtnockmfobogfpaaGreatVlMk
import Derived.Test.YtnockmfobogfpaaGreatVlDgb
import Derived.Test.YtnockmfobogfpaaGreatVlSortL
set_option linter.all false
set_option synthInstance.maxSize 100000
set_option synthInstance.maxHeartbeats 4000000
set_option maxHeartbeats 4000000
open ByteArray renaming size_append->zA,empty->zB,size->zC
open List renaming replicate->zD
namespace Go.Vl
open Go
open Go.IntKind renaming u8->zE,wrap->zF,signed->zG,bits->zH
open Go.IntKind (i64)
noncomputable section
def F.f0 (k3:Int)(out:ByteArray):Option (ByteArray):=
 if 0<k3 then
  if(ZIN [zE.wrap (i64.wrap (48+k3.tmod 10))]).size+out.size<=9223372036854775807 then
   F.f0 (i64.wrap (k3.tdiv 10)) ((ZIN [zE.wrap (i64.wrap (48+k3.tmod 10))])++out)
  else none
 else
  some out
 partial_fixpoint
def F.f1 (k:Int):Option (ByteArray):=
 if k<=0 then
  some (⟨#[109,48]⟩:ByteArray)
 else
  F.f0 k zB>>=fun o'=>
  if(⟨#[109]⟩:ByteArray).size+o'.size<=9223372036854775807 then
   some ((⟨#[109]⟩:ByteArray)++o')
  else none
def F.f2 (a:List Ty)(left':Int):Option (Int):=
 if i64.wrap (left'- (a.length:Int))<0 then
  some (-1)
 else
  some (i64.wrap (left'- (a.length:Int)))
def F.f3 (a:Ctor)(left':Int):Option (Int):=
 if i64.wrap (left'- (a.name.size:Int))<0 then
  some (-1)
 else
  F.f2 a.args (i64.wrap (left'- (a.name.size:Int)))>>=fun v=>
  if v<0 then
   some (-1)
  else
   some v
def F.f4 (a:List Ctor)(left'3:Int)(i:Nat):Option (Lo Int Int):=
 if i<a.length then
  a[i]?>>=fun x=>
  F.f3 x left'3>>=fun v=>
  if v<0 then
   some (.ret (-1))
  else
   F.f4 a v (i+1)
 else
  some (.go left'3)
 partial_fixpoint
def F.f5 (a:List Ctor)(left':Int):Option (Int):=
 if i64.wrap (left'- (a.length:Int))<0 then
  some (-1)
 else
  F.f4 a (i64.wrap (left'- (a.length:Int))) 0>>=fun o'=>
  match o' with
  | .ret r0=>some r0
  | .go sx=>
   some sx
def F.f6 (a:Vl.Data)(left':Int):Option (Int):=
 if i64.wrap (left'- (a.name.size:Int))<0 then
  some (-1)
 else
  F.f5 a.ctors (i64.wrap (left'- (a.name.size:Int)))>>=fun v=>
  if v<0 then
   some (-1)
  else
   some v
def F.f7 (a:List Vl.Data)(left'3:Int)(i:Nat):Option (Lo Int Int):=
 if i<a.length then
  a[i]?>>=fun x=>
  F.f6 x left'3>>=fun v=>
  if v<0 then
   some (.ret (-1))
  else
   F.f7 a v (i+1)
 else
  some (.go left'3)
 partial_fixpoint
def F.f8 (a:List Vl.Data)(left':Int):Option (Int):=
 if i64.wrap (left'- (a.length:Int))<0 then
  some (-1)
 else
  F.f7 a (i64.wrap (left'- (a.length:Int))) 0>>=fun o'=>
  match o' with
  | .ret r0=>some r0
  | .go sx=>
   some sx
mutual
def F.f9 (a:Pattern)(left':Int):Option (Int):=
 F.f10 a.kids left'>>=fun v=>
 if v<0 then
  some (-1)
 else
  some v
 partial_fixpoint
def F.f10 (a:List Pattern)(left':Int):Option (Int):=
 if i64.wrap (left'- (a.length:Int))<0 then
  some (-1)
 else
  F.f11 a (i64.wrap (left'- (a.length:Int))) 0>>=fun o'=>
  match o' with
  | .ret r0=>some r0
  | .go sx=>
   some sx
 partial_fixpoint
def F.f11 (a:List Pattern)(left'3:Int)(i:Nat):Option (Lo Int Int):=
 if i<a.length then
  a[i]?>>=fun x=>
  F.f9 x left'3>>=fun v=>
  if v<0 then
   some (.ret (-1))
  else
   F.f11 a v (i+1)
 else
  some (.go left'3)
 partial_fixpoint
end
def F.f12 (a:Clause)(left':Int):Option (Int):=
 F.f9 a.pat left'>>=fun v=>
 if v<0 then
  some (-1)
 else
  some v
def F.f13 (a:List Clause)(left'3:Int)(i:Nat):Option (Lo Int Int):=
 if i<a.length then
  a[i]?>>=fun x=>
  F.f12 x left'3>>=fun v=>
  if v<0 then
   some (.ret (-1))
  else
   F.f13 a v (i+1)
 else
  some (.go left'3)
 partial_fixpoint
def F.f14 (a:List Clause)(left':Int):Option (Int):=
 if i64.wrap (left'- (a.length:Int))<0 then
  some (-1)
 else
  F.f13 a (i64.wrap (left'- (a.length:Int))) 0>>=fun o'=>
  match o' with
  | .ret r0=>some r0
  | .go sx=>
   some sx
mutual
def F.f15 (a:Vl.Value)(left':Int):Option (Int):=
 F.f16 a.kids left'>>=fun v=>
 if v<0 then
  some (-1)
 else
  some v
 partial_fixpoint
def F.f16 (a:List Vl.Value)(left':Int):Option (Int):=
 if i64.wrap (left'- (a.length:Int))<0 then
  some (-1)
 else
  F.f17 a (i64.wrap (left'- (a.length:Int))) 0>>=fun o'=>
  match o' with
  | .ret r0=>some r0
  | .go sx=>
   some sx
 partial_fixpoint
def F.f17 (a:List Vl.Value)(left'3:Int)(i:Nat):Option (Lo Int Int):=
 if i<a.length then
  a[i]?>>=fun x=>
  F.f15 x left'3>>=fun v=>
  if v<0 then
   some (.ret (-1))
  else
   F.f17 a v (i+1)
 else
  some (.go left'3)
 partial_fixpoint
end
def F.f18 (a:Ty):Option (Ty):=
 some a
def F.f19 (a:List Ty)(out:List Ty)(i:Nat):Option (List Ty):=
 if i<a.length then
  a[i]?>>=fun x=>
  F.f18 x>>=fun v=>
  out[i]?>>=fun x7=>
  F.f19 a (out.set i v) (i+1)
 else
  some out
 partial_fixpoint
def F.f20 (a:List Ty):Option (List Ty):=
 if a.length<=67108864 then
  F.f19 a (zD a.length Ty.z) 0>>=fun o'=>
  some o'
 else none
def F.f21 (a:Ctor):Option (Ctor):=
 F.f20 a.args>>=fun v=>
 some (⟨a.name,v,a.index⟩:Ctor)
def F.f22 (a:List Ctor)(out:List Ctor)(i:Nat):Option (List Ctor):=
 if i<a.length then
  a[i]?>>=fun x=>
  F.f21 x>>=fun v=>
  out[i]?>>=fun x7=>
  F.f22 a (out.set i v) (i+1)
 else
  some out
 partial_fixpoint
def F.f23 (a:List Ctor):Option (List Ctor):=
 if a.length<=67108864 then
  F.f22 a (zD a.length Ctor.z) 0>>=fun o'=>
  some o'
 else none
def F.f24 (a:Vl.Data):Option (Vl.Data):=
 F.f23 a.ctors>>=fun v=>
 some (⟨a.name,v⟩:Vl.Data)
def F.f25 (a:List Vl.Data)(out:List Vl.Data)(i:Nat):Option (List Vl.Data):=
 if i<a.length then
  a[i]?>>=fun x=>
  F.f24 x>>=fun v=>
  out[i]?>>=fun x7=>
  F.f25 a (out.set i v) (i+1)
 else
  some out
 partial_fixpoint
def F.f26 (a:List Vl.Data):Option (List Vl.Data):=
 if a.length<=67108864 then
  F.f25 a (zD a.length Vl.Data.z) 0>>=fun o'=>
  some o'
 else none
mutual
def F.f27 (a:Pattern):Option (Pattern):=
 F.f28 a.kids>>=fun v=>
 some (⟨a.op,a.ctor,a.n,a.m,a.var,v⟩:Pattern)
 partial_fixpoint
def F.f28 (a:List Pattern):Option (List Pattern):=
 if a.length<=67108864 then
  F.f29 a (zD a.length Pattern.z) 0>>=fun o'=>
  some o'
 else none
 partial_fixpoint
def F.f29 (a:List Pattern)(out:List Pattern)(i:Nat):Option (List Pattern):=
 if i<a.length then
  a[i]?>>=fun x=>
  F.f27 x>>=fun v=>
  out[i]?>>=fun x7=>
  F.f29 a (out.set i v) (i+1)
 else
  some out
 partial_fixpoint
end
def F.f30 (a:Guard):Option (Guard):=
 some a
def F.f31 (a:Clause):Option (Clause):=
 F.f27 a.pat>>=fun v=>
 F.f30 a.guard>>=fun v2=>
 some (⟨v,v2⟩:Clause)
def F.f32 (a:List Clause)(out:List Clause)(i:Nat):Option (List Clause):=
 if i<a.length then
  a[i]?>>=fun x=>
  F.f31 x>>=fun v=>
  out[i]?>>=fun x7=>
  F.f32 a (out.set i v) (i+1)
 else
  some out
 partial_fixpoint
def F.f33 (a:List Clause):Option (List Clause):=
 if a.length<=67108864 then
  F.f32 a (zD a.length Clause.z) 0>>=fun o'=>
  some o'
 else none
mutual
def F.f34 (a:Vl.Value):Option (Vl.Value):=
 F.f35 a.kids>>=fun v=>
 some (⟨a.ctor,a.n,v⟩:Vl.Value)
 partial_fixpoint
def F.f35 (a:List Vl.Value):Option (List Vl.Value):=
 if a.length<=67108864 then
  F.f36 a (zD a.length Vl.Value.z) 0>>=fun o'=>
  some o'
 else none
 partial_fixpoint
def F.f36 (a:List Vl.Value)(out:List Vl.Value)(i:Nat):Option (List Vl.Value):=
 if i<a.length then
  a[i]?>>=fun x=>
  F.f34 x>>=fun v=>
  out[i]?>>=fun x7=>
  F.f36 a (out.set i v) (i+1)
 else
  some out
 partial_fixpoint
end
def F.f37 (c':Int):Option (Bool):=
 if 65<=c' then
  some (decide (c'<=90))
 else
  some false
def F.f38 (s:ByteArray):Option (Bool):=
 if s.size=1 then
  if 0<s.size then
   F.f37 ((byteAt s 0:Nat):Int)>>=fun v=>
   if v=true then
    some (decide (¬(s.toList=(⟨#[73]⟩:ByteArray).toList)))
   else
    some false
  else none
 else
  some false
def F.f39 (s:ByteArray)(i:Nat):Option (Lo Bool Unit):=
 if i<s.size then
  if byteAt s i<97 then
   some (.ret false)
  else
   if 122<byteAt s i then
    some (.ret false)
   else
    if i+1<=9223372036854775807 then
     F.f39 s (i+1)
    else none
 else
  some (.go ())
 partial_fixpoint
def F.f40 (s:ByteArray):Option (Bool):=
 if s.size=0 then
  some false
 else
  if 5<s.size then
   some false
  else
   if 0<s.size then
    F.f37 ((byteAt s 0:Nat):Int)>>=fun v=>
    if v=true then
     F.f39 s 1>>=fun o'=>
     match o' with
     | .ret r0=>some r0
     | .go sx=>
      some true
    else
     some false
   else none
def F.f41 (n:Int)(t:Ty):Option (Bool):=
 if t.data=(-1)then
  some (decide (t.index=0))
 else
  if 0<=t.data then
   if t.data<n then
    if(-1)<=t.index then
     some (decide (t.index<=3))
    else
     some false
   else
    some false
  else
   some false
def F.f42 (n:Int)(c':Ctor)(i:Nat):Option (Lo Bool Unit):=
 if i<c'.args.length then
  c'.args[i]?>>=fun x=>
  F.f41 n x>>=fun v15=>
  if v15=true then
   F.f42 n c' (i+1)
  else
   some (.ret false)
 else
  some (.go ())
 partial_fixpoint
def F.f43 (n:Int)(c':Ctor):Option (Bool):=
 F.f40 c'.name>>=fun v=>
 if v=true then
  if 3<c'.args.length then
   some false
  else
   if c'.index<0 then
    some false
   else
    if 3<c'.index then
     some false
    else
     F.f42 n c' 0>>=fun o'=>
     match o' with
     | .ret r0=>some r0
     | .go sx=>
      some true
 else
  some false
def F.f44 (w:List Vl.Data)(d:Int)(k:Int)(i:Nat)(j:Nat):Option (Lo Bool Unit):=
 w[i]?>>=fun x10=>
 if j<x10.ctors.length then
  if(i:Int)<d then
   at? w d>>=fun x33=>
   if k<(x33.ctors.length:Int)then
    x10.ctors[j]?>>=fun x37=>
    at? x33.ctors k>>=fun x39=>
    if x37.name.toList=x39.name.toList then
     some (.ret true)
    else
     if j+1<=9223372036854775807 then
      F.f44 w d k i (j+1)
     else none
   else
    if j+1<=9223372036854775807 then
     F.f44 w d k i (j+1)
    else none
  else
   if(j:Int)<k then
    at? w d>>=fun x19=>
    if k<(x19.ctors.length:Int)then
     x10.ctors[j]?>>=fun x23=>
     at? x19.ctors k>>=fun x25=>
     if x23.name.toList=x25.name.toList then
      some (.ret true)
     else
      if j+1<=9223372036854775807 then
       F.f44 w d k i (j+1)
      else none
    else
     if j+1<=9223372036854775807 then
      F.f44 w d k i (j+1)
     else none
   else
    some (.go ())
 else
  some (.go ())
 partial_fixpoint
def F.f45 (w:List Vl.Data)(d:Int)(k:Int)(i:Nat)(j50:Nat):Option (Lo Bool Unit):=
 w[i]?>>=fun x51=>
 if j50<x51.ctors.length then
  if(i:Int)<d then
   at? w d>>=fun x74=>
   if k<(x74.ctors.length:Int)then
    x51.ctors[j50]?>>=fun x78=>
    at? x74.ctors k>>=fun x80=>
    if x78.name.toList=x80.name.toList then
     some (.ret true)
    else
     if j50+1<=9223372036854775807 then
      F.f45 w d k i (j50+1)
     else none
   else
    if j50+1<=9223372036854775807 then
     F.f45 w d k i (j50+1)
    else none
  else
   if(j50:Int)<k then
    at? w d>>=fun x60=>
    if k<(x60.ctors.length:Int)then
     x51.ctors[j50]?>>=fun x64=>
     at? x60.ctors k>>=fun x66=>
     if x64.name.toList=x66.name.toList then
      some (.ret true)
     else
      if j50+1<=9223372036854775807 then
       F.f45 w d k i (j50+1)
      else none
    else
     if j50+1<=9223372036854775807 then
      F.f45 w d k i (j50+1)
     else none
   else
    some (.go ())
 else
  some (.go ())
 partial_fixpoint
def F.f46 (w:List Vl.Data)(d:Int)(k:Int)(i:Nat):Option (Lo Bool Unit):=
 if(i:Int)<=d then
  if(i:Int)<d then
   w[i]?>>=fun x=>
   at? w d>>=fun x6=>
   if x.name.toList=x6.name.toList then
    some (.ret true)
   else
    F.f44 w d k i 0>>=fun o'=>
    match o' with
    | .ret r0=>some (.ret r0)
    | .go sx=>
     if i+1<=9223372036854775807 then
      F.f46 w d k (i+1)
     else none
  else
   F.f45 w d k i 0>>=fun o'89=>
   match o'89 with
   | .ret r093=>some (.ret r093)
   | .go sx90=>
    if i+1<=9223372036854775807 then
     F.f46 w d k (i+1)
    else none
 else
  some (.go ())
 partial_fixpoint
def F.f47 (w:List Vl.Data)(d:Int)(k:Int):Option (Bool):=
 F.f46 w d k 0>>=fun o'95=>
 match o'95 with
 | .ret r097=>some r097
 | .go sx96=>
  some false
def F.f48 (w:List Vl.Data)(d:Nat)(k:Nat):Option (Lo Bool Unit):=
 w[d]?>>=fun x17=>
 if k<x17.ctors.length then
  x17.ctors[k]?>>=fun x22=>
  F.f43 (w.length:Int) x22>>=fun v24=>
  if v24=true then
   F.f47 w (d:Int) (k:Int)>>=fun v28=>
   if v28=true then
    some (.ret false)
   else
    if k+1<=9223372036854775807 then
     F.f48 w d (k+1)
    else none
  else
   some (.ret false)
 else
  some (.go ())
 partial_fixpoint
def F.f49 (w:List Vl.Data)(d:Nat):Option (Lo Bool Unit):=
 if d<w.length then
  w[d]?>>=fun x=>
  F.f38 x.name>>=fun v=>
  if v=true then
   if x.ctors.length=0 then
    some (.ret false)
   else
    if 4<x.ctors.length then
     some (.ret false)
    else
     F.f48 w d 0>>=fun o'=>
     match o' with
     | .ret r0=>some (.ret r0)
     | .go sx=>
      if d+1<=9223372036854775807 then
       F.f49 w (d+1)
      else none
  else
   some (.ret false)
 else
  some (.go ())
 partial_fixpoint
def F.f50 (w:List Vl.Data):Option (Bool):=
 if 4<w.length then
  some false
 else
  F.f49 w 0>>=fun o'38=>
  match o'38 with
  | .ret r040=>some r040
  | .go sx39=>
   some true
def F.f51 (w:List Vl.Data)(t:Ty):Option (Bool):=
 F.f41 (w.length:Int) t>>=fun v=>
 if v=true then
  some (decide (0<=t.index))
 else
  some false
def F.f52 (w:List Vl.Data)(t:Ty):Option (Bool):=
 F.f50 w>>=fun v=>
 if v=true then
  F.f51 w t>>=fun v4=>
  some v4
 else
  some false
def F.f53 (c':Ctor)(index':Int):Option (Bool):=
 if c'.index=0 then
  some true
 else
  if index'=0 then
   some true
  else
   some (decide (c'.index=index'))
def F.f54 (w:List Vl.Data)(t:Ty)(out:List Int)(k:Nat):Option (List Int):=
 at? w t.data>>=fun x=>
 if k<x.ctors.length then
  x.ctors[k]?>>=fun x7=>
  F.f53 x7 t.index>>=fun v=>
  if v=true then
   if out.length+1<=67108864 then
    if k+1<=9223372036854775807 then
     F.f54 w t (out++[(k:Int)]) (k+1)
    else none
   else none
  else
   if k+1<=9223372036854775807 then
    F.f54 w t out (k+1)
   else none
 else
  some out
 partial_fixpoint
def F.f55 (w:List Vl.Data)(t:Ty):Option (List Int):=
 if t.data=(-1)then
  some []
 else
  F.f54 w t [] 0>>=fun o'=>
  some o'
def F.f56 (list:List Int)(n:Int)(i:Nat):Option (Lo Bool Unit):=
 if i<list.length then
  list[i]?>>=fun x=>
  if x=n then
   some (.ret true)
  else
   F.f56 list n (i+1)
 else
  some (.go ())
 partial_fixpoint
def F.f57 (list:List Int)(n:Int):Option (Bool):=
 F.f56 list n 0>>=fun o'=>
 match o' with
 | .ret r0=>some r0
 | .go sx=>
  some false
def F.f58 (w:List Vl.Data)(t:Ty)(p:Pattern):Option (Bool):=
 if p.op=2 then
  if p.var<0 then
   some false
  else
   if 5<p.var then
    some false
   else
    if p.n=0 then
     if p.m=0 then
      if p.ctor=0 then
       some true
      else
       some false
     else
      some false
    else
     some false
 else
  if p.op=6 then
   if p.var<0 then
    some false
   else
    if 5<p.var then
     some false
    else
     if p.n=0 then
      if p.m=0 then
       if p.ctor=0 then
        some true
       else
        some false
      else
       some false
     else
      some false
  else
   if p.var=0 then
    if p.op=3 then
     if p.ctor=0 then
      if t.data=(-1)then
       if 0<=p.n then
        if p.n<=p.m then
         some (decide (p.m<=9))
        else
         some false
       else
        some false
      else
       some false
     else
      some false
    else
     if p.n=0 then
      if p.m=0 then
       if p.op=4 then
        F.f55 w t>>=fun v=>
        F.f57 v p.ctor>>=fun v38=>
        some v38
       else
        if p.ctor=0 then
         if p.op=1 then
          some true
         else
          if p.op=5 then
           some true
          else
           some false
        else
         some false
      else
       some false
     else
      some false
   else
    some false
def F.f59 (c':Ctor)(index':Int):Option (Int):=
 if c'.index=0 then
  some index'
 else
  some c'.index
def F.f60 (t:Ty)(x2:Ctor)(out:List Ty)(i:Nat):Option (List Ty):=
 if i<x2.args.length then
  x2.args[i]?>>=fun x7=>
  if x7.index=(-1)then
   F.f59 x2 t.index>>=fun v=>
   if out.length+1<=67108864 then
    F.f60 t x2 (out++[(⟨x7.data,v⟩:Ty)]) (i+1)
   else none
  else
   if out.length+1<=67108864 then
    F.f60 t x2 (out++[x7]) (i+1)
   else none
 else
  some out
 partial_fixpoint
def F.f61 (w:List Vl.Data)(t:Ty)(ctor:Int):Option (List Ty):=
 at? w t.data>>=fun x=>
 at? x.ctors ctor>>=fun x2=>
 F.f60 t x2 [] 0>>=fun o'=>
 some o'
def F.f62 (op:Int):Option (Int):=
 if op=5 then
  some 2
 else
  if op=6 then
   some 1
  else
   if op=4 then
    some (-1)
   else
    some 0
def F.f63 (t:Ty)(p:Pattern)(out:List Ty)(i:Nat):Option (List Ty):=
 F.f62 p.op>>=fun v4=>
 if(i:Int)<v4 then
  if out.length+1<=67108864 then
   if i+1<=9223372036854775807 then
    F.f63 t p (out++[t]) (i+1)
   else none
  else none
 else
  some out
 partial_fixpoint
def F.f64 (w:List Vl.Data)(t:Ty)(p:Pattern):Option (List Ty):=
 if p.op=4 then
  F.f61 w t p.ctor>>=fun v=>
  some v
 else
  F.f63 t p [] 0>>=fun o'=>
  some o'
mutual
def F.f65 (w:List Vl.Data)(t:Ty)(p:Pattern)(depth:Int):Option (Bool):=
 if depth<1 then
  some false
 else
  F.f58 w t p>>=fun v=>
  if v=true then
   F.f64 w t p>>=fun v6=>
   if p.kids.length=v6.length then
    F.f66 w p depth v6 0>>=fun o'=>
    match o' with
    | .ret r0=>some r0
    | .go sx=>
     some true
   else
    some false
  else
   some false
 partial_fixpoint
def F.f66 (w:List Vl.Data)(p:Pattern)(depth:Int)(v6:List Ty)(i:Nat):Option (Lo Bool Unit):=
 if i<v6.length then
  v6[i]?>>=fun x=>
  p.kids[i]?>>=fun x15=>
  F.f65 w x x15 (i64.wrap (depth-1))>>=fun v17=>
  if v17=true then
   F.f66 w p depth v6 (i+1)
  else
   some (.ret false)
 else
  some (.go ())
 partial_fixpoint
end
mutual
def F.f67 (p:Pattern)(most:Int):Option (Int):=
 F.f68 p most 1 0>>=fun o'=>
 some o'
 partial_fixpoint
def F.f68 (p:Pattern)(most:Int)(n:Int)(i:Nat):Option (Int):=
 if i<p.kids.length then
  if n<=most then
   p.kids[i]?>>=fun x=>
   F.f67 x (i64.wrap (most-n))>>=fun v=>
   F.f68 p most (i64.wrap (n+v)) (i+1)
  else
   some n
 else
  some n
 partial_fixpoint
end
mutual
def F.f69 (out:List VarType)(w:List Vl.Data)(t:Ty)(p:Pattern):Option (List VarType):=
 if p.op=2 then
  if out.length+1<=67108864 then
   F.f64 w t p>>=fun v59=>
   F.f72 w p v59 (out++[(⟨p.var,t⟩:VarType)]) 0>>=fun o'86=>
   some o'86
  else none
 else
  if p.op=6 then
   if out.length+1<=67108864 then
    F.f64 w t p>>=fun v=>
    F.f70 w p v (out++[(⟨p.var,t⟩:VarType)]) 0>>=fun o'=>
    some o'
   else none
  else
   F.f64 w t p>>=fun v30=>
   F.f71 w p v30 out 0>>=fun o'57=>
   some o'57
 partial_fixpoint
def F.f70 (w:List Vl.Data)(p:Pattern)(v:List Ty)(out7:List VarType)(i:Nat):Option (List VarType):=
 if i<v.length then
  if i=0 then
   v[i]?>>=fun x22=>
   p.kids[i]?>>=fun x24=>
   F.f69 out7 w x22 x24>>=fun v26=>
   F.f70 w p v v26 (i+1)
  else
   if p.op=5 then
    some out7
   else
    v[i]?>>=fun x=>
    p.kids[i]?>>=fun x17=>
    F.f69 out7 w x x17>>=fun v19=>
    F.f70 w p v v19 (i+1)
 else
  some out7
 partial_fixpoint
def F.f71 (w:List Vl.Data)(p:Pattern)(v30:List Ty)(out32:List VarType)(i33:Nat):Option (List VarType):=
 if i33<v30.length then
  if i33=0 then
   v30[i33]?>>=fun x49=>
   p.kids[i33]?>>=fun x51=>
   F.f69 out32 w x49 x51>>=fun v53=>
   F.f71 w p v30 v53 (i33+1)
  else
   if p.op=5 then
    some out32
   else
    v30[i33]?>>=fun x42=>
    p.kids[i33]?>>=fun x44=>
    F.f69 out32 w x42 x44>>=fun v46=>
    F.f71 w p v30 v46 (i33+1)
 else
  some out32
 partial_fixpoint
def F.f72 (w:List Vl.Data)(p:Pattern)(v59:List Ty)(out61:List VarType)(i62:Nat):Option (List VarType):=
 if i62<v59.length then
  if i62=0 then
   v59[i62]?>>=fun x78=>
   p.kids[i62]?>>=fun x80=>
   F.f69 out61 w x78 x80>>=fun v82=>
   F.f72 w p v59 v82 (i62+1)
  else
   if p.op=5 then
    some out61
   else
    v59[i62]?>>=fun x71=>
    p.kids[i62]?>>=fun x73=>
    F.f69 out61 w x71 x73>>=fun v75=>
    F.f72 w p v59 v75 (i62+1)
 else
  some out61
 partial_fixpoint
end
def F.f73 (list:List VarType)(n:Int)(i:Nat):Option (Lo Int Unit):=
 if i<list.length then
  list[i]?>>=fun x=>
  if x.var=n then
   some (.ret (i:Int))
  else
   F.f73 list n (i+1)
 else
  some (.go ())
 partial_fixpoint
def F.f74 (list:List VarType)(n:Int):Option (Int):=
 F.f73 list n 0>>=fun o'=>
 match o' with
 | .ret r0=>some r0
 | .go sx=>
  some (-1)
def F.f75 (a:List VarType)(b:List VarType)(i:Nat):Option (Lo Bool Unit):=
 if i<a.length then
  a[i]?>>=fun x=>
  F.f74 b x.var>>=fun v=>
  if v<0 then
   some (.ret false)
  else
   at? b v>>=fun x8=>
   if dec (eq2 (x8.type.data,x8.type.index) (x.type.data,x.type.index))=true then
    F.f75 a b (i+1)
   else
    some (.ret false)
 else
  some (.go ())
 partial_fixpoint
def F.f76 (a:List VarType)(b:List VarType):Option (Bool):=
 F.f75 a b 0>>=fun o'=>
 match o' with
 | .ret r0=>some r0
 | .go sx=>
  some (decide (a.length=b.length))
def F.f77 (v26:List VarType)(i28:Nat):Option (Lo Bool Unit):=
 if i28<v26.length then
  v26[i28]?>>=fun x32=>
  F.f74 v26 x32.var>>=fun v34=>
  if v34=(i28:Int)then
   F.f77 v26 (i28+1)
  else
   some (.ret false)
 else
  some (.go ())
 partial_fixpoint
mutual
def F.f78 (w:List Vl.Data)(t:Ty)(p:Pattern):Option (Bool):=
 F.f64 w t p>>=fun v=>
 F.f79 w t p v 0>>=fun o'=>
 match o' with
 | .ret r042=>some r042
 | .go sx=>
  if p.op=5 then
   p.kids[0]?>>=fun x16=>
   F.f69 [] w t x16>>=fun v18=>
   p.kids[1]?>>=fun x20=>
   F.f69 [] w t x20>>=fun v22=>
   F.f76 v18 v22>>=fun v24=>
   some v24
  else
   F.f69 [] w t p>>=fun v26=>
   F.f77 v26 0>>=fun o'40=>
   match o'40 with
   | .ret r0=>some r0
   | .go sx41=>
    some true
 partial_fixpoint
def F.f79 (w:List Vl.Data)(t:Ty)(p:Pattern)(v:List Ty)(i:Nat):Option (Lo Bool Unit):=
 if i<v.length then
  v[i]?>>=fun x=>
  p.kids[i]?>>=fun x6=>
  F.f78 w x x6>>=fun v8=>
  if v8=true then
   F.f79 w t p v (i+1)
  else
   some (.ret false)
 else
  some (.go ())
 partial_fixpoint
end
def F.f80 (w:List Vl.Data)(t:Ty)(p:Pattern):Option (Bool):=
 F.f65 w t p 10>>=fun v=>
 if v=true then
  F.f67 p 60>>=fun v4=>
  if v4<=60 then
   F.f78 w t p>>=fun v8=>
   some v8
  else
   some false
 else
  some false
def F.f81 (g:Guard)(vars:List VarType):Option (Bool):=
 if g.op=0 then
  if g.var=0 then
   some (decide (g.n=0))
  else
   some false
 else
  if g.op=1 then
   if g.n<0 then
    some false
   else
    if 9<g.n then
     some false
    else
     F.f74 vars g.var>>=fun v21=>
     if 0<=v21 then
      at? vars v21>>=fun x25=>
      some (decide (x25.type.data=(-1)))
     else
      some false
  else
   if g.op=2 then
    if g.n<0 then
     some false
    else
     if 9<g.n then
      some false
     else
      F.f74 vars g.var>>=fun v=>
      if 0<=v then
       at? vars v>>=fun x=>
       some (decide (x.type.data=(-1)))
      else
       some false
   else
    some false
def F.f82 (w:List Vl.Data)(t:Ty)(c':Clause):Option (Bool):=
 F.f80 w t c'.pat>>=fun v=>
 if v=true then
  F.f69 [] w t c'.pat>>=fun v4=>
  F.f81 c'.guard v4>>=fun v6=>
  some v6
 else
  some false
def F.f83 (w:List Vl.Data)(t:Ty)(list:List Clause)(i:Nat):Option (Lo Bool Unit):=
 if i<list.length then
  list[i]?>>=fun x=>
  F.f82 w t x>>=fun v11=>
  if v11=true then
   F.f83 w t list (i+1)
  else
   some (.ret false)
 else
  some (.go ())
 partial_fixpoint
def F.f84 (w:List Vl.Data)(t:Ty)(list:List Clause):Option (Bool):=
 F.f52 w t>>=fun v=>
 if v=true then
  if 8<list.length then
   some false
  else
   F.f83 w t list 0>>=fun o'=>
   match o' with
   | .ret r0=>some r0
   | .go sx=>
    some true
 else
  some false
def F.f85 (lists:List (List Pattern))(out:List (List Pattern))(i:Nat)(k:Nat)(next10:List (List Pattern))(j:Nat):Option (List (List Pattern)):=
 lists[i]?>>=fun x=>
 if j<x.length then
  if next10.length<=400 then
   out[k]?>>=fun x18=>
   if x18.length<=67108864 then
    x[j]?>>=fun x21=>
    if x18.length+1<=67108864 then
     if next10.length+1<=67108864 then
      if j+1<=9223372036854775807 then
       F.f85 lists out i k (next10++[x18++[x21]]) (j+1)
      else none
     else none
    else none
   else none
  else
   some next10
 else
  some next10
 partial_fixpoint
def F.f86 (lists:List (List Pattern))(out:List (List Pattern))(i:Nat)(next:List (List Pattern))(k:Nat):Option (List (List Pattern)):=
 if k<out.length then
  if next.length<=400 then
   F.f85 lists out i k next 0>>=fun o'=>
   if k+1<=9223372036854775807 then
    F.f86 lists out i o' (k+1)
   else none
  else
   some next
 else
  some next
 partial_fixpoint
def F.f87 (lists:List (List Pattern))(out:List (List Pattern))(i:Nat):Option (List (List Pattern)):=
 if i<lists.length then
  F.f86 lists out i [] 0>>=fun o'31=>
  if i+1<=9223372036854775807 then
   F.f87 lists o'31 (i+1)
  else none
 else
  some out
 partial_fixpoint
def F.f88 (lists:List (List Pattern)):Option (List (List Pattern)):=
 F.f87 lists [[]] 0>>=fun o'35=>
 some o'35
def F.f89 (p:Pattern)(v24:List (List Pattern))(out:List Pattern)(i26:Nat):Option (List Pattern):=
 if i26<v24.length then
  v24[i26]?>>=fun x30=>
  if out.length+1<=67108864 then
   F.f89 p v24 (out++[(⟨p.op,p.ctor,p.n,p.m,p.var,x30⟩:Pattern)]) (i26+1)
  else none
 else
  some out
 partial_fixpoint
mutual
def F.f90 (p:Pattern):Option (List Pattern):=
 if p.op=5 then
  p.kids[0]?>>=fun x=>
  F.f90 x>>=fun v=>
  p.kids[1]?>>=fun x5=>
  F.f90 x5>>=fun v7=>
  if v.length+v7.length<=67108864 then
   if 401<(v++v7).length then
    if 401<=(v++v7).length then
     some (List.take 401 (v++v7))
    else none
   else
    some (v++v7)
  else none
 else
  F.f91 p [] 0>>=fun o'=>
  F.f88 o'>>=fun v24=>
  F.f89 p v24 [] 0>>=fun o'35=>
  some o'35
 partial_fixpoint
def F.f91 (p:Pattern)(lists:List (List Pattern))(i:Nat):Option (List (List Pattern)):=
 if i<p.kids.length then
  p.kids[i]?>>=fun x17=>
  F.f90 x17>>=fun v19=>
  if lists.length+1<=67108864 then
   F.f91 p (lists++[v19]) (i+1)
  else none
 else
  some lists
 partial_fixpoint
end
def F.f92 (path:List Int)(i:Int):Option (List Int):=
 if path.length<=67108864 then
  if path.length+1<=67108864 then
   some (path++[i])
  else none
 else none
mutual
def F.f93 (out:List Step)(p:Pattern)(path:List Int):Option (List Step):=
 if p.op=6 then
  p.kids[0]?>>=fun x=>
  F.f93 out x path>>=fun v=>
  some v
 else
  if p.op=3 then
   if path.length<=67108864 then
    if out.length+1<=67108864 then
     some (out++[(⟨1,path,(-1),p.n,p.m,0,[],0⟩:Step)])
    else none
   else none
  else
   if p.op=4 then
    if path.length<=67108864 then
     if out.length+1<=67108864 then
      F.f94 p path (out++[(⟨1,path,p.ctor,0,0,0,[],0⟩:Step)]) 0>>=fun o'=>
      some o'
     else none
    else none
   else
    some out
 partial_fixpoint
def F.f94 (p:Pattern)(path:List Int)(out13:List Step)(i:Nat):Option (List Step):=
 if i<p.kids.length then
  p.kids[i]?>>=fun x17=>
  F.f92 path (i:Int)>>=fun v19=>
  F.f93 out13 x17 v19>>=fun v21=>
  F.f94 p path v21 (i+1)
 else
  some out13
 partial_fixpoint
end
mutual
def F.f95 (out:List PathBind)(p:Pattern)(path:List Int):Option (List PathBind):=
 if p.op=2 then
  if path.length<=67108864 then
   if out.length+1<=67108864 then
    F.f98 p path (out++[(⟨p.var,path⟩:PathBind)]) 0>>=fun o'67=>
    some o'67
   else none
  else none
 else
  if p.op=6 then
   if path.length<=67108864 then
    if out.length+1<=67108864 then
     F.f96 p path (out++[(⟨p.var,path⟩:PathBind)]) 0>>=fun o'=>
     some o'
    else none
   else none
  else
   F.f97 p path out 0>>=fun o'44=>
   some o'44
 partial_fixpoint
def F.f96 (p:Pattern)(path:List Int)(out7:List PathBind)(i:Nat):Option (List PathBind):=
 if i<p.kids.length then
  if p.op=4 then
   F.f92 path (i:Int)>>=fun v=>
   p.kids[i]?>>=fun x=>
   F.f95 out7 x v>>=fun v15=>
   F.f96 p path v15 (i+1)
  else
   p.kids[i]?>>=fun x18=>
   F.f95 out7 x18 path>>=fun v20=>
   F.f96 p path v20 (i+1)
 else
  some out7
 partial_fixpoint
def F.f97 (p:Pattern)(path:List Int)(out24:List PathBind)(i25:Nat):Option (List PathBind):=
 if i25<p.kids.length then
  if p.op=4 then
   F.f92 path (i25:Int)>>=fun v31=>
   p.kids[i25]?>>=fun x33=>
   F.f95 out24 x33 v31>>=fun v35=>
   F.f97 p path v35 (i25+1)
  else
   p.kids[i25]?>>=fun x38=>
   F.f95 out24 x38 path>>=fun v40=>
   F.f97 p path v40 (i25+1)
 else
  some out24
 partial_fixpoint
def F.f98 (p:Pattern)(path:List Int)(out47:List PathBind)(i48:Nat):Option (List PathBind):=
 if i48<p.kids.length then
  if p.op=4 then
   F.f92 path (i48:Int)>>=fun v54=>
   p.kids[i48]?>>=fun x56=>
   F.f95 out47 x56 v54>>=fun v58=>
   F.f98 p path v58 (i48+1)
  else
   p.kids[i48]?>>=fun x61=>
   F.f95 out47 x61 path>>=fun v63=>
   F.f98 p path v63 (i48+1)
 else
  some out47
 partial_fixpoint
end
def F.f99 (list:List PathBind)(n:Nat)(out4:List PathBind)(i:Nat):Option (List PathBind):=
 if i<list.length then
  list[i]?>>=fun x=>
  if x.var=(n:Int)then
   if x.path.length<=67108864 then
    if out4.length+1<=67108864 then
     F.f99 list n (out4++[(⟨(n:Int),x.path⟩:PathBind)]) (i+1)
    else none
   else none
  else
   F.f99 list n out4 (i+1)
 else
  some out4
 partial_fixpoint
def F.f100 (list:List PathBind)(out:List PathBind)(n:Nat):Option (List PathBind):=
 if n<=5 then
  F.f99 list n out 0>>=fun o'=>
  if n+1<=9223372036854775807 then
   F.f100 list o' (n+1)
  else none
 else
  some out
 partial_fixpoint
def F.f101 (list:List PathBind):Option (List PathBind):=
 F.f100 list [] 0>>=fun o'19=>
 some o'19
def F.f102 (list:List Clause)(out:List Step)(i:Nat)(v:List Pattern)(k:Nat)(out19:List Step)(n:Nat):Option (List Step):=
 if n<out19.length then
  out19[n]?>>=fun x23=>
  F.f102 list out i v k (out19.set n (⟨x23.op,x23.path,x23.ctor,x23.n,x23.m,x23.clause,x23.binds,(out19.length:Int)⟩:Step)) (n+1)
 else
  some out19
 partial_fixpoint
def F.f103 (list:List Clause)(out:List Step)(i:Nat)(v:List Pattern)(out6:List Step)(k:Nat):Option (List Step):=
 if k<v.length then
  v[k]?>>=fun x10=>
  F.f93 out6 x10 []>>=fun v12=>
  F.f95 [] x10 []>>=fun v14=>
  F.f101 v14>>=fun v16=>
  if v12.length+1<=67108864 then
   F.f102 list out i v k (v12++[(⟨2,[],0,0,0,(i:Int),v16,0⟩:Step)]) out6.length>>=fun o'=>
   if k+1<=9223372036854775807 then
    F.f103 list out i v o' (k+1)
   else none
  else none
 else
  some out6
 partial_fixpoint
def F.f104 (list:List Clause)(i:Nat)(out31:List Step)(n32:Nat):Option (List Step):=
 if n32<out31.length then
  out31[n32]?>>=fun x36=>
  if x36.op=2 then
   F.f104 list i (out31.set n32 (⟨x36.op,x36.path,x36.ctor,x36.n,x36.m,x36.clause,x36.binds,(out31.length:Int)⟩:Step)) (n32+1)
  else
   F.f104 list i out31 (n32+1)
 else
  some out31
 partial_fixpoint
def F.f105 (list:List Clause)(out:List Step)(i:Nat):Option (List Step):=
 if i<list.length then
  list[i]?>>=fun x=>
  F.f90 x.pat>>=fun v=>
  F.f103 list out i v out 0>>=fun o'30=>
  F.f104 list i o'30 out.length>>=fun o'43=>
  if i+1<=9223372036854775807 then
   F.f105 list o'43 (i+1)
  else none
 else
  some out
 partial_fixpoint
def F.f106 (list:List Clause):Option (List Step):=
 F.f105 list [] 0>>=fun o'47=>
 if o'47.length+1<=67108864 then
  some (o'47++[(⟨3,[],0,0,0,0,[],0⟩:Step)])
 else none
def F.f107 (list:List Clause)(i:Nat):Option (Lo ((List Step)×Bool) Unit):=
 if i<list.length then
  list[i]?>>=fun x=>
  F.f90 x.pat>>=fun v8=>
  if 40<v8.length then
   some (.ret ([],false))
  else
   F.f107 list (i+1)
 else
  some (.go ())
 partial_fixpoint
def F.f108 (w:List Vl.Data)(t:Ty)(list:List Clause):Option ((List Step)×Bool):=
 F.f84 w t list>>=fun v=>
 if v=true then
  F.f107 list 0>>=fun o'=>
  match o' with
  | .ret r0=>some r0
  | .go sx=>
   F.f106 list>>=fun v15=>
   some (v15,true)
 else
  some ([],false)
mutual
def F.f109 (w:List Vl.Data)(t:Ty)(v:Vl.Value)(depth:Int):Option (Bool):=
 if depth<1 then
  some false
 else
  if t.data=(-1)then
   if v.ctor=(-1)then
    if 0<=v.n then
     if v.n<=9 then
      some (decide (v.kids.length=0))
     else
      some false
    else
     some false
   else
    some false
  else
   if v.n=0 then
    F.f55 w t>>=fun v13=>
    F.f57 v13 v.ctor>>=fun v15=>
    if v15=true then
     F.f61 w t v.ctor>>=fun v19=>
     if v.kids.length=v19.length then
      F.f110 w v depth v19 0>>=fun o'=>
      match o' with
      | .ret r0=>some r0
      | .go sx=>
       some true
     else
      some false
    else
     some false
   else
    some false
 partial_fixpoint
def F.f110 (w:List Vl.Data)(v:Vl.Value)(depth:Int)(v19:List Ty)(i:Nat):Option (Lo Bool Unit):=
 if i<v19.length then
  v19[i]?>>=fun x=>
  v.kids[i]?>>=fun x28=>
  F.f109 w x x28 (i64.wrap (depth-1))>>=fun v30=>
  if v30=true then
   F.f110 w v depth v19 (i+1)
  else
   some (.ret false)
 else
  some (.go ())
 partial_fixpoint
end
mutual
def F.f111 (v:Vl.Value)(most:Int):Option (Int):=
 F.f112 v most 1 0>>=fun o'=>
 some o'
 partial_fixpoint
def F.f112 (v:Vl.Value)(most:Int)(n:Int)(i:Nat):Option (Int):=
 if i<v.kids.length then
  if n<=most then
   v.kids[i]?>>=fun x=>
   F.f111 x (i64.wrap (most-n))>>=fun v7=>
   F.f112 v most (i64.wrap (n+v7)) (i+1)
  else
   some n
 else
  some n
 partial_fixpoint
end
def F.f113 (w:List Vl.Data)(t:Ty)(v:Vl.Value):Option (Bool):=
 F.f109 w t v 10>>=fun v1=>
 if v1=true then
  F.f111 v 60>>=fun v5=>
  some (decide (v5<=60))
 else
  some false
def F.f114 (path:List Int)(z:Int)(z1:Int)(z2:List Vl.Value)(i:Nat):Option (Int×Int×(List Vl.Value)):=
 if i<path.length then
  path[i]?>>=fun x=>
  at? z2 x>>=fun x7=>
  F.f114 path x7.ctor x7.n x7.kids (i+1)
 else
  some (z,z1,z2)
 partial_fixpoint
def F.f115 (v:Vl.Value)(path:List Int):Option (Vl.Value):=
 F.f114 path v.ctor v.n v.kids 0>>=fun o'=>
 some (⟨o'.1,o'.2.1,o'.2.2⟩:Vl.Value)
def F.f116 (x:Step)(v:Vl.Value):Option (Bool):=
 if v.ctor=x.ctor then
  if x.ctor=(-1)then
   if x.n<=v.n then
    some (decide (v.n<=x.m))
   else
    some false
  else
   some true
 else
  some false
def F.f117 (g:Guard)(binds:List PathBind)(i:Nat):Option (Lo ((List Int)×Bool) Unit):=
 if i<binds.length then
  if g.op=0 then
   some (.go ())
  else
   binds[i]?>>=fun x=>
   if x.var=g.var then
    some (.ret (x.path,true))
   else
    F.f117 g binds (i+1)
 else
  some (.go ())
 partial_fixpoint
def F.f118 (g:Guard)(binds:List PathBind):Option ((List Int)×Bool):=
 F.f117 g binds 0>>=fun o'=>
 match o' with
 | .ret r0=>some r0
 | .go sx=>
  some ([],false)
def F.f119 (a:List Int)(b:List Int)(i:Nat):Option (Lo Bool Unit):=
 if i<a.length then
  a[i]?>>=fun x=>
  b[i]?>>=fun x8=>
  if x=x8 then
   F.f119 a b (i+1)
  else
   some (.ret false)
 else
  some (.go ())
 partial_fixpoint
def F.f120 (a:List Int)(b:List Int):Option (Bool):=
 if a.length=b.length then
  F.f119 a b 0>>=fun o'=>
  match o' with
  | .ret r0=>some r0
  | .go sx=>
   some true
 else
  some false
def F.f121 (list:List (List Int))(path:List Int)(i:Nat):Option (Lo Bool Unit):=
 if i<list.length then
  list[i]?>>=fun x=>
  F.f120 x path>>=fun v=>
  if v=true then
   some (.ret true)
  else
   F.f121 list path (i+1)
 else
  some (.go ())
 partial_fixpoint
def F.f122 (list:List (List Int))(path:List Int):Option (Bool):=
 F.f121 list path 0>>=fun o'=>
 match o' with
 | .ret r0=>some r0
 | .go sx=>
  some false
def F.f123 (list:List (List Int))(out:List (List Int))(i:Nat):Option (List (List Int)):=
 if i<list.length then
  list[i]?>>=fun x=>
  F.f122 out x>>=fun v=>
  if v=true then
   F.f123 list out (i+1)
  else
   if x.length<=67108864 then
    if out.length+1<=67108864 then
     F.f123 list (out++[x]) (i+1)
    else none
   else none
 else
  some out
 partial_fixpoint
def F.f124 (list:List (List Int)):Option (List (List Int)):=
 F.f123 list [] 0>>=fun o'=>
 some o'
def F.f125 (g:Guard)(n:Int):Option (Bool):=
 if g.op=1 then
  if n<g.n then
   some true
  else
   some false
 else
  if g.op=2 then
   some (decide (n=g.n))
  else
   some false
def F.f126 (list:List Clause)(v:Vl.Value)(v1:(List Step)×Bool)(used:List (List Int))(at':Int):Option (Lo (List (List Int)) (List (List Int))):=
 at? v1.1 at'>>=fun x=>
 if x.op=3 then
  some (.go used)
 else
  if x.op=1 then
   if used.length+1<=67108864 then
    F.f115 v x.path>>=fun v15=>
    F.f116 x v15>>=fun v17=>
    if v17=true then
     F.f126 list v v1 (used++[x.path]) (i64.wrap (at'+1))
    else
     F.f126 list v v1 (used++[x.path]) x.to
   else none
  else
   at? list x.clause>>=fun x21=>
   F.f118 x21.guard x.binds>>=fun v23=>
   if v23.2=true then
    if used.length+1<=67108864 then
     F.f115 v v23.1>>=fun v30=>
     F.f125 x21.guard v30.n>>=fun v32=>
     if v32=true then
      F.f124 (used++[v23.1])>>=fun v36=>
      some (.ret v36)
     else
      F.f126 list v v1 (used++[v23.1]) x.to
    else none
   else
    F.f124 used>>=fun v27=>
    some (.ret v27)
 partial_fixpoint
def F.f127 (w:List Vl.Data)(t:Ty)(list:List Clause)(v:Vl.Value):Option (List (List Int)):=
 F.f108 w t list>>=fun v1=>
 if v1.2=true then
  F.f113 w t v>>=fun v5=>
  if v5=true then
   F.f126 list v v1 [] 0>>=fun o'=>
   match o' with
   | .ret r0=>some r0
   | .go sx=>
    F.f124 sx>>=fun v39=>
    some v39
  else
   some []
 else
  some []
def F.f128 (n:Int)(low:Int)(high:Int):Option (Bool):=
 if low<=n then
  some (decide (n<=high))
 else
  some false
def F.f129 (s:ByteArray)(i:Nat):Option (Lo Bool Unit):=
 if i<s.size then
  if byteAt s i<97 then
   some (.ret false)
  else
   if 122<byteAt s i then
    some (.ret false)
   else
    if i+1<=9223372036854775807 then
     F.f129 s (i+1)
    else none
 else
  some (.go ())
 partial_fixpoint
def F.f130 (s:ByteArray):Option (Bool):=
 F.f128 (s.size:Int) 1 5>>=fun v=>
 if v=true then
  if 0<s.size then
   if byteAt s 0<65 then
    some false
   else
    if 90<byteAt s 0 then
     some false
    else
     F.f129 s 1>>=fun o'=>
     match o' with
     | .ret r0=>some r0
     | .go sx=>
      some true
  else none
 else
  some false
def F.f131 (w:List Vl.Data)(t:Ty):Option (Bool):=
 if dec (eq2 (t.data,t.index) ((-1),0))=true then
  some true
 else
  F.f128 t.data 0 (i64.wrap ((w.length:Int) -1))>>=fun v=>
  if v=true then
   F.f128 t.index (-1) 3>>=fun v6=>
   some v6
  else
   some false
def F.f132 (t:Ty)(a1:List Vl.Data):Option (Bool):=
 F.f131 a1 t>>=fun v=>
 some (!v)
def F.f133 (s:List Ty)(k0:List Vl.Data)(i:Nat):Option (Lo Int Unit):=
 if i<s.length then
  s[i]?>>=fun x=>
  F.f132 x k0>>=fun v=>
  if v=true then
   some (.ret (i:Int))
  else
   F.f133 s k0 (i+1)
 else
  some (.go ())
 partial_fixpoint
def F.f134 (s:List Ty)(k0:List Vl.Data):Option (Int):=
 F.f133 s k0 0>>=fun o'=>
 match o' with
 | .ret r0=>some r0
 | .go sx=>
  some (-1)
def F.f135 (s:List Ty)(k0:List Vl.Data):Option (Bool):=
 F.f134 s k0>>=fun v=>
 some (decide (0<=v))
def F.f136 (w:List Vl.Data)(c':Ctor):Option (Bool):=
 F.f130 c'.name>>=fun v=>
 if v=true then
  if c'.args.length<=3 then
   F.f128 c'.index 0 3>>=fun v7=>
   if v7=true then
    F.f135 c'.args w>>=fun v11=>
    some (!v11)
   else
    some false
  else
   some false
 else
  some false
def F.f137 (w:List Vl.Data)(met4:List ByteArray)(i:Nat)(x:Vl.Data)(met26:List ByteArray)(i27:Nat):Option (Lo Bool (List ByteArray)):=
 if i27<x.ctors.length then
  x.ctors[i27]?>>=fun x31=>
  F.f136 w x31>>=fun v33=>
  if v33=true then
   if dec (x31.name∈met26)=true then
    some (.ret false)
   else
    F.f137 w met4 i x (ZCV met26 x31.name) (i27+1)
  else
   some (.ret false)
 else
  some (.go met26)
 partial_fixpoint
def F.f138 (w:List Vl.Data)(met:List ByteArray)(met4:List ByteArray)(i:Nat):Option (Lo Bool ((List ByteArray)×(List ByteArray))):=
 if i<w.length then
  w[i]?>>=fun x=>
  if x.name.size=1 then
   if 0<x.name.size then
    if byteAt x.name 0<65 then
     some (.ret false)
    else
     if 90<byteAt x.name 0 then
      some (.ret false)
     else
      if x.name.toList=(⟨#[73]⟩:ByteArray).toList then
       some (.ret false)
      else
       if dec (x.name∈met4)=true then
        some (.ret false)
       else
        F.f128 (x.ctors.length:Int) 1 4>>=fun v=>
        if v=true then
         F.f137 w met4 i x met 0>>=fun o'=>
         match o' with
         | .ret r0=>some (.ret r0)
         | .go sx=>
          if i+1<=9223372036854775807 then
           F.f138 w sx (ZCV met4 x.name) (i+1)
          else none
        else
         some (.ret false)
   else none
  else
   some (.ret false)
 else
  some (.go (met,met4))
 partial_fixpoint
def F.f139 (w:List Vl.Data):Option (Bool):=
 if 4<w.length then
  some false
 else
  F.f138 w [] [] 0>>=fun o'44=>
  match o'44 with
  | .ret r046=>some r046
  | .go sx45=>
   some true
def F.f140 (w:List Vl.Data)(t:Ty):Option (Bool):=
 if dec (eq2 (t.data,t.index) ((-1),0))=true then
  some true
 else
  F.f128 t.data 0 (i64.wrap ((w.length:Int) -1))>>=fun v=>
  if v=true then
   F.f128 t.index 0 3>>=fun v6=>
   some v6
  else
   some false
def F.f141 (w:List Vl.Data)(t:Ty):Option (Bool):=
 F.f139 w>>=fun v=>
 if v=true then
  F.f140 w t>>=fun v4=>
  some v4
 else
  some false
def F.f142 (p:Pattern)(ctor:Bool)(numbers:Bool)(variable':Bool)(kids:Int):Option (Bool):=
 if ctor=true then
  if numbers=true then
   if variable'=true then
    some (decide ((p.kids.length:Int)=kids))
   else
    if p.var=0 then
     some (decide ((p.kids.length:Int)=kids))
    else
     some false
  else
   if p.n=0 then
    if p.m=0 then
     if variable'=true then
      some (decide ((p.kids.length:Int)=kids))
     else
      if p.var=0 then
       some (decide ((p.kids.length:Int)=kids))
      else
       some false
    else
     some false
   else
    some false
 else
  if p.ctor=0 then
   if numbers=true then
    if variable'=true then
     some (decide ((p.kids.length:Int)=kids))
    else
     if p.var=0 then
      some (decide ((p.kids.length:Int)=kids))
     else
      some false
   else
    if p.n=0 then
     if p.m=0 then
      if variable'=true then
       some (decide ((p.kids.length:Int)=kids))
      else
       if p.var=0 then
        some (decide ((p.kids.length:Int)=kids))
       else
        some false
     else
      some false
    else
     some false
  else
   some false
def F.f143 (v:Int):Option (Bool):=
 F.f128 v 0 5>>=fun v1=>
 some v1
def F.f144 (t:Ty)(x:Vl.Data)(i:Nat)(out:List Int):Option (List Int):=
 if i<x.ctors.length then
  x.ctors[i]?>>=fun x7=>
  if t.index=0 then
   if out.length+1<=67108864 then
    F.f144 t x (i+1) (out++[(i:Int)])
   else none
  else
   if x7.index=0 then
    if out.length+1<=67108864 then
     F.f144 t x (i+1) (out++[(i:Int)])
    else none
   else
    if x7.index=t.index then
     if out.length+1<=67108864 then
      F.f144 t x (i+1) (out++[(i:Int)])
     else none
    else
     F.f144 t x (i+1) out
 else
  some out
 partial_fixpoint
def F.f145 (w:List Vl.Data)(t:Ty):Option (List Int):=
 if t.data=(-1)then
  some []
 else
  at? w t.data>>=fun x=>
  F.f144 t x 0 []>>=fun o'=>
  some o'
def F.f146 (s:List Int)(v:Int)(i:Nat):Option (Lo Int Unit):=
 if i<s.length then
  s[i]?>>=fun x=>
  if v=x then
   some (.ret (i:Int))
  else
   F.f146 s v (i+1)
 else
  some (.go ())
 partial_fixpoint
def F.f147 (s:List Int)(v:Int):Option (Int):=
 F.f146 s v 0>>=fun o'=>
 match o' with
 | .ret r0=>some r0
 | .go sx=>
  some (-1)
def F.f148 (s:List Int)(v:Int):Option (Bool):=
 F.f147 s v>>=fun v1=>
 some (decide (0<=v1))
def F.f149 (t:Ty)(x2:Ctor)(i:Nat)(out:List Ty):Option (List Ty):=
 if i<x2.args.length then
  x2.args[i]?>>=fun x9=>
  if x9.index=(-1)then
   if out.length+1<=67108864 then
    F.f149 t x2 (i+1) (out++[(⟨x9.data,t.index⟩:Ty)])
   else none
  else
   if out.length+1<=67108864 then
    F.f149 t x2 (i+1) (out++[x9])
   else none
 else
  some out
 partial_fixpoint
def F.f150 (x2:Ctor)(i18:Nat)(out19:List Ty):Option (List Ty):=
 if i18<x2.args.length then
  x2.args[i18]?>>=fun x23=>
  if x23.index=(-1)then
   if out19.length+1<=67108864 then
    F.f150 x2 (i18+1) (out19++[(⟨x23.data,x2.index⟩:Ty)])
   else none
  else
   if out19.length+1<=67108864 then
    F.f150 x2 (i18+1) (out19++[x23])
   else none
 else
  some out19
 partial_fixpoint
def F.f151 (w:List Vl.Data)(t:Ty)(ctor:Int):Option (List Ty):=
 at? w t.data>>=fun x=>
 at? x.ctors ctor>>=fun x2=>
 if x2.index=0 then
  F.f149 t x2 0 []>>=fun o'=>
  some o'
 else
  F.f150 x2 0 []>>=fun o'32=>
  some o'32
def F.f152 (w:List Vl.Data)(t:Ty)(p:Pattern):Option ((List Ty)×Bool):=
 if p.op=1 then
  F.f142 p false false false 0>>=fun v=>
  some ([],v)
 else
  if p.op=2 then
   F.f142 p false false true 0>>=fun v6=>
   if v6=true then
    F.f143 p.var>>=fun v10=>
    some ([],v10)
   else
    some ([],false)
  else
   if p.op=3 then
    if t.data=(-1)then
     F.f142 p false true false 0>>=fun v16=>
     if v16=true then
      if 0<=p.n then
       if p.n<=p.m then
        some ([],decide (p.m<=9))
       else
        some ([],false)
      else
       some ([],false)
     else
      some ([],false)
    else
     some ([],false)
   else
    if p.op=4 then
     F.f145 w t>>=fun v26=>
     F.f148 v26 p.ctor>>=fun v28=>
     if v28=true then
      F.f151 w t p.ctor>>=fun v32=>
      F.f142 p true false false (v32.length:Int)>>=fun v34=>
      some (v32,v34)
     else
      some ([],false)
    else
     if p.op=5 then
      F.f142 p false false false 2>>=fun v38=>
      some ([t,t],v38)
     else
      if p.op=6 then
       F.f142 p false false true 1>>=fun v42=>
       if v42=true then
        F.f143 p.var>>=fun v46=>
        some ([t],v46)
       else
        some ([t],false)
      else
       some ([],false)
def F.f153 (s:List VarType)(v:VarType)(i:Nat):Option (Lo Int Unit):=
 if i<s.length then
  s[i]?>>=fun x=>
  if dec (eq3 (v.var,v.type.data,v.type.index) (x.var,x.type.data,x.type.index))=true then
   some (.ret (i:Int))
  else
   F.f153 s v (i+1)
 else
  some (.go ())
 partial_fixpoint
def F.f154 (s:List VarType)(v:VarType):Option (Int):=
 F.f153 s v 0>>=fun o'=>
 match o' with
 | .ret r0=>some r0
 | .go sx=>
  some (-1)
def F.f155 (s:List VarType)(v:VarType):Option (Bool):=
 F.f154 s v>>=fun v1=>
 some (decide (0<=v1))
def F.f156 (v:VarType)(a1:List VarType):Option (Bool):=
 F.f155 a1 v>>=fun v1=>
 some (!v1)
def F.f157 (s:List VarType)(k0:List VarType)(i:Nat):Option (Lo Int Unit):=
 if i<s.length then
  s[i]?>>=fun x=>
  F.f156 x k0>>=fun v=>
  if v=true then
   some (.ret (i:Int))
  else
   F.f157 s k0 (i+1)
 else
  some (.go ())
 partial_fixpoint
def F.f158 (s:List VarType)(k0:List VarType):Option (Int):=
 F.f157 s k0 0>>=fun o'=>
 match o' with
 | .ret r0=>some r0
 | .go sx=>
  some (-1)
def F.f159 (s:List VarType)(k0:List VarType):Option (Bool):=
 F.f158 s k0>>=fun v=>
 some (decide (0<=v))
def F.f160 (a:List VarType)(b:List VarType):Option (Bool):=
 if a.length=b.length then
  F.f159 a b>>=fun v=>
  some (!v)
 else
  some false
def F.f161 (sx:Int×(List VarType))(set':Nat->Bool)(i37:Nat):Option (Lo ((List VarType)×Bool×Int) Unit):=
 if i37<sx.2.length then
  sx.2[i37]?>>=fun x41=>
  if 0<=x41.var/\x41.var.toNat<6 then
   if set' x41.var.toNat=true then
    some (.ret ([],false,sx.1))
   else
    F.f161 sx (ZG5 set' x41.var.toNat true) (i37+1)
  else none
 else
  some (.go ())
 partial_fixpoint
def F.f162 (sx81:Int×(List VarType))(set'82:Nat->Bool)(i83:Nat):Option (Lo ((List VarType)×Bool×Int) Unit):=
 if i83<sx81.2.length then
  sx81.2[i83]?>>=fun x87=>
  if 0<=x87.var/\x87.var.toNat<6 then
   if set'82 x87.var.toNat=true then
    some (.ret ([],false,sx81.1))
   else
    F.f162 sx81 (ZG5 set'82 x87.var.toNat true) (i83+1)
  else none
 else
  some (.go ())
 partial_fixpoint
def F.f163 (sx128:Int×(List VarType))(set'129:Nat->Bool)(i130:Nat):Option (Lo ((List VarType)×Bool×Int) Unit):=
 if i130<sx128.2.length then
  sx128.2[i130]?>>=fun x134=>
  if 0<=x134.var/\x134.var.toNat<6 then
   if set'129 x134.var.toNat=true then
    some (.ret ([],false,sx128.1))
   else
    F.f163 sx128 (ZG5 set'129 x134.var.toNat true) (i130+1)
  else none
 else
  some (.go ())
 partial_fixpoint
mutual
def F.f164 (w:List Vl.Data)(t:Ty)(p:Pattern)(deep:Int)(count:Int):Option ((List VarType)×Bool×Int):=
 if 60<i64.wrap (count+1)then
  some ([],false,i64.wrap (count+1))
 else
  if 10<deep then
   some ([],false,i64.wrap (count+1))
  else
   F.f152 w t p>>=fun v=>
   if v.2=true then
    if p.op=2 then
     F.f167 w p deep v (i64.wrap (count+1)) [(⟨p.var,t⟩:VarType)] 0>>=fun o'127=>
     match o'127 with
     | .ret r0144=>some r0144
     | .go sx128=>
      F.f163 sx128 (fun _=>false) 0>>=fun o'141=>
      match o'141 with
      | .ret r0143=>some r0143
      | .go sx142=>
       some (sx128.2,true,sx128.1)
    else
     if p.op=6 then
      F.f165 w p deep v (i64.wrap (count+1)) [(⟨p.var,t⟩:VarType)] 0>>=fun o'=>
      match o' with
      | .ret r050=>some r050
      | .go sx=>
       F.f161 sx (fun _=>false) 0>>=fun o'48=>
       match o'48 with
       | .ret r0=>some r0
       | .go sx49=>
        some (sx.2,true,sx.1)
     else
      F.f166 w p deep v (i64.wrap (count+1)) [] 0>>=fun o'80=>
      match o'80 with
      | .ret r097=>some r097
      | .go sx81=>
       F.f162 sx81 (fun _=>false) 0>>=fun o'94=>
       match o'94 with
       | .ret r096=>some r096
       | .go sx95=>
        some (sx81.2,true,sx81.1)
   else
    some ([],false,i64.wrap (count+1))
 partial_fixpoint
def F.f165 (w:List Vl.Data)(p:Pattern)(deep:Int)(v:(List Ty)×Bool)(z:Int)(vars:List VarType)(i:Nat):Option (Lo ((List VarType)×Bool×Int) (Int×(List VarType))):=
 if i<p.kids.length then
  p.kids[i]?>>=fun x=>
  v.1[i]?>>=fun x16=>
  F.f164 w x16 x (i64.wrap (deep+1)) z>>=fun v18=>
  if v18.2.1=true then
   if p.op=5 then
    if i=1 then
     F.f160 vars v18.1>>=fun v27=>
     if v27=true then
      F.f165 w p deep v v18.2.2 vars (i+1)
     else
      some (.ret ([],false,v18.2.2))
    else
     if vars.length+v18.1.length<=67108864 then
      F.f165 w p deep v v18.2.2 (vars++v18.1) (i+1)
     else none
   else
    if vars.length+v18.1.length<=67108864 then
     F.f165 w p deep v v18.2.2 (vars++v18.1) (i+1)
    else none
  else
   some (.ret ([],false,v18.2.2))
 else
  some (.go (z,vars))
 partial_fixpoint
def F.f166 (w:List Vl.Data)(p:Pattern)(deep:Int)(v:(List Ty)×Bool)(z51:Int)(vars52:List VarType)(i53:Nat):Option (Lo ((List VarType)×Bool×Int) (Int×(List VarType))):=
 if i53<p.kids.length then
  p.kids[i53]?>>=fun x57=>
  v.1[i53]?>>=fun x59=>
  F.f164 w x59 x57 (i64.wrap (deep+1)) z51>>=fun v61=>
  if v61.2.1=true then
   if p.op=5 then
    if i53=1 then
     F.f160 vars52 v61.1>>=fun v70=>
     if v70=true then
      F.f166 w p deep v v61.2.2 vars52 (i53+1)
     else
      some (.ret ([],false,v61.2.2))
    else
     if vars52.length+v61.1.length<=67108864 then
      F.f166 w p deep v v61.2.2 (vars52++v61.1) (i53+1)
     else none
   else
    if vars52.length+v61.1.length<=67108864 then
     F.f166 w p deep v v61.2.2 (vars52++v61.1) (i53+1)
    else none
  else
   some (.ret ([],false,v61.2.2))
 else
  some (.go (z51,vars52))
 partial_fixpoint
def F.f167 (w:List Vl.Data)(p:Pattern)(deep:Int)(v:(List Ty)×Bool)(z98:Int)(vars99:List VarType)(i100:Nat):Option (Lo ((List VarType)×Bool×Int) (Int×(List VarType))):=
 if i100<p.kids.length then
  p.kids[i100]?>>=fun x104=>
  v.1[i100]?>>=fun x106=>
  F.f164 w x106 x104 (i64.wrap (deep+1)) z98>>=fun v108=>
  if v108.2.1=true then
   if p.op=5 then
    if i100=1 then
     F.f160 vars99 v108.1>>=fun v117=>
     if v117=true then
      F.f167 w p deep v v108.2.2 vars99 (i100+1)
     else
      some (.ret ([],false,v108.2.2))
    else
     if vars99.length+v108.1.length<=67108864 then
      F.f167 w p deep v v108.2.2 (vars99++v108.1) (i100+1)
     else none
   else
    if vars99.length+v108.1.length<=67108864 then
     F.f167 w p deep v v108.2.2 (vars99++v108.1) (i100+1)
    else none
  else
   some (.ret ([],false,v108.2.2))
 else
  some (.go (z98,vars99))
 partial_fixpoint
end
def F.f168 (w:List Vl.Data)(t:Ty)(p:Pattern):Option ((List VarType)×Bool):=
 F.f164 w t p 1 0>>=fun v=>
 some (v.1,v.2.1)
def F.f169 (g:Guard)(vars:List VarType):Option (Bool):=
 if g.op=0 then
  some (dec (eq3 (g.op,g.var,g.n) (0,0,0)))
 else
  F.f128 g.op 1 2>>=fun v=>
  if v=true then
   F.f128 g.n 0 9>>=fun v6=>
   if v6=true then
    F.f155 vars (⟨g.var,(⟨(-1),0⟩:Ty)⟩:VarType)>>=fun v10=>
    some v10
   else
    some false
  else
   some false
def F.f170 (w:List Vl.Data)(t:Ty)(c':Clause):Option (Bool):=
 F.f168 w t c'.pat>>=fun v=>
 if v.2=true then
  F.f169 c'.guard v.1>>=fun v4=>
  some v4
 else
  some false
def F.f171 (c':Clause)(a1:List Vl.Data)(a2:Ty):Option (Bool):=
 F.f170 a1 a2 c'>>=fun v=>
 some (!v)
def F.f172 (s:List Clause)(k0:List Vl.Data)(k1:Ty)(i:Nat):Option (Lo Int Unit):=
 if i<s.length then
  s[i]?>>=fun x=>
  F.f171 x k0 k1>>=fun v=>
  if v=true then
   some (.ret (i:Int))
  else
   F.f172 s k0 k1 (i+1)
 else
  some (.go ())
 partial_fixpoint
def F.f173 (s:List Clause)(k0:List Vl.Data)(k1:Ty):Option (Int):=
 F.f172 s k0 k1 0>>=fun o'=>
 match o' with
 | .ret r0=>some r0
 | .go sx=>
  some (-1)
def F.f174 (s:List Clause)(k0:List Vl.Data)(k1:Ty):Option (Bool):=
 F.f173 s k0 k1>>=fun v=>
 some (decide (0<=v))
def F.f175 (w:List Vl.Data)(t:Ty)(list:List Clause):Option (Bool):=
 F.f141 w t>>=fun v=>
 if v=true then
  if list.length<=8 then
   F.f174 list w t>>=fun v7=>
   some (!v7)
  else
   some false
 else
  some false
mutual
def F.f176 (p:Pattern):Option (Int):=
 if p.op=5 then
  F.f177 p 0 0>>=fun o'=>
  some o'
 else
  F.f178 p 0 1>>=fun o'31=>
  some o'31
 partial_fixpoint
def F.f177 (p:Pattern)(i:Nat)(n:Int):Option (Int):=
 if i<p.kids.length then
  p.kids[i]?>>=fun x=>
  if p.op=5 then
   F.f176 x>>=fun v=>
   F.f177 p (i+1) (if 401<i64.wrap (n+v)then 401 else i64.wrap (n+v))
  else
   F.f176 x>>=fun v11=>
   F.f177 p (i+1) (if 401<i64.wrap (n*v11)then 401 else i64.wrap (n*v11))
 else
  some n
 partial_fixpoint
def F.f178 (p:Pattern)(i15:Nat)(n16:Int):Option (Int):=
 if i15<p.kids.length then
  p.kids[i15]?>>=fun x20=>
  if p.op=5 then
   F.f176 x20>>=fun v24=>
   F.f178 p (i15+1) (if 401<i64.wrap (n16+v24)then 401 else i64.wrap (n16+v24))
  else
   F.f176 x20>>=fun v27=>
   F.f178 p (i15+1) (if 401<i64.wrap (n16*v27)then 401 else i64.wrap (n16*v27))
 else
  some n16
 partial_fixpoint
end
def F.f179 (s:List Pattern):Option (List Pattern):=
 if s.length<=67108864 then
  some s
 else none
def F.f180 (p:Pattern)(list:List Pattern)(i:Nat)(v15:List Pattern)(i17:Nat)(x21:Pattern)(more23:List Pattern)(i24:Nat):Option (List Pattern):=
 if i24<v15.length then
  v15[i24]?>>=fun x28=>
  F.f179 x21.kids>>=fun v30=>
  if v30.length+1<=67108864 then
   if more23.length+1<=67108864 then
    F.f180 p list i v15 i17 x21 (more23++[(⟨x21.op,x21.ctor,x21.n,x21.m,x21.var,v30++[x28]⟩:Pattern)]) (i24+1)
   else none
  else none
 else
  some more23
 partial_fixpoint
def F.f181 (p:Pattern)(list:List Pattern)(i:Nat)(v15:List Pattern)(more:List Pattern)(i17:Nat):Option (List Pattern):=
 if i17<list.length then
  list[i17]?>>=fun x21=>
  F.f180 p list i v15 i17 x21 more 0>>=fun o'=>
  if i17+1<=9223372036854775807 then
   F.f181 p list i v15 o' (i17+1)
  else none
 else
  some more
 partial_fixpoint
mutual
def F.f182 (p:Pattern):Option (List Pattern):=
 if p.op=5 then
  p.kids[0]?>>=fun x=>
  F.f182 x>>=fun v=>
  p.kids[1]?>>=fun x5=>
  F.f182 x5>>=fun v7=>
  if v.length+v7.length<=67108864 then
   some (v++v7)
  else none
 else
  F.f183 p [(⟨p.op,p.ctor,p.n,p.m,p.var,[]⟩:Pattern)] 0>>=fun o'43=>
  some o'43
 partial_fixpoint
def F.f183 (p:Pattern)(list:List Pattern)(i:Nat):Option (List Pattern):=
 if i<p.kids.length then
  p.kids[i]?>>=fun x13=>
  F.f182 x13>>=fun v15=>
  F.f181 p list i v15 [] 0>>=fun o'39=>
  if i+1<=9223372036854775807 then
   F.f183 p o'39 (i+1)
  else none
 else
  some list
 partial_fixpoint
end
def F.f184 (list:List Clause)(out:List (List Pattern))(i:Nat):Option (Lo ((List (List Pattern))×Bool) (List (List Pattern))):=
 if i<list.length then
  list[i]?>>=fun x=>
  F.f176 x.pat>>=fun v=>
  if 40<v then
   some (.ret ([],false))
  else
   F.f182 x.pat>>=fun v8=>
   if out.length+1<=67108864 then
    F.f184 list (out++[v8]) (i+1)
   else none
 else
  some (.go out)
 partial_fixpoint
def F.f185 (list:List Clause):Option ((List (List Pattern))×Bool):=
 F.f184 list [] 0>>=fun o'=>
 match o' with
 | .ret r0=>some r0
 | .go sx=>
  some (sx,true)
def F.f186 (s:List Int):Option (List Int):=
 if s.length<=67108864 then
  some s
 else none
mutual
def F.f187 (p:Pattern)(path:List Int)(steps':List Step)(binds:List PathBind):Option ((List Step)×(List PathBind)):=
 F.f186 path>>=fun v=>
 if p.op=2 then
  if binds.length+1<=67108864 then
   F.f188 p path steps' (binds++[(⟨p.var,v⟩:PathBind)]) 0>>=fun o'=>
   some (o'.1,o'.2)
  else none
 else
  if p.op=6 then
   if binds.length+1<=67108864 then
    F.f189 p path steps' (binds++[(⟨p.var,v⟩:PathBind)]) 0>>=fun o'45=>
    some (o'45.1,o'45.2)
   else none
  else
   if p.op=3 then
    if steps'.length+1<=67108864 then
     F.f190 p path (steps'++[(⟨1,v,(-1),p.n,p.m,0,[],0⟩:Step)]) binds 0>>=fun o'69=>
     some (o'69.1,o'69.2)
    else none
   else
    if p.op=4 then
     if steps'.length+1<=67108864 then
      F.f191 p path (steps'++[(⟨1,v,p.ctor,0,0,0,[],0⟩:Step)]) binds 0>>=fun o'93=>
      some (o'93.1,o'93.2)
     else none
    else
     F.f192 p path steps' binds 0>>=fun o'114=>
     some (o'114.1,o'114.2)
 partial_fixpoint
def F.f188 (p:Pattern)(path:List Int)(out:List Step)(out5:List PathBind)(i:Nat):Option ((List Step)×(List PathBind)):=
 if i<p.kids.length then
  p.kids[i]?>>=fun x=>
  if p.op=4 then
   F.f186 path>>=fun v12=>
   if v12.length+1<=67108864 then
    F.f187 x (v12++[(i:Int)]) out out5>>=fun v15=>
    F.f188 p path v15.1 v15.2 (i+1)
   else none
  else
   F.f187 x path out out5>>=fun v18=>
   F.f188 p path v18.1 v18.2 (i+1)
 else
  some (out,out5)
 partial_fixpoint
def F.f189 (p:Pattern)(path:List Int)(out25:List Step)(out26:List PathBind)(i27:Nat):Option ((List Step)×(List PathBind)):=
 if i27<p.kids.length then
  p.kids[i27]?>>=fun x31=>
  if p.op=4 then
   F.f186 path>>=fun v35=>
   if v35.length+1<=67108864 then
    F.f187 x31 (v35++[(i27:Int)]) out25 out26>>=fun v38=>
    F.f189 p path v38.1 v38.2 (i27+1)
   else none
  else
   F.f187 x31 path out25 out26>>=fun v41=>
   F.f189 p path v41.1 v41.2 (i27+1)
 else
  some (out25,out26)
 partial_fixpoint
def F.f190 (p:Pattern)(path:List Int)(out49:List Step)(out50:List PathBind)(i51:Nat):Option ((List Step)×(List PathBind)):=
 if i51<p.kids.length then
  p.kids[i51]?>>=fun x55=>
  if p.op=4 then
   F.f186 path>>=fun v59=>
   if v59.length+1<=67108864 then
    F.f187 x55 (v59++[(i51:Int)]) out49 out50>>=fun v62=>
    F.f190 p path v62.1 v62.2 (i51+1)
   else none
  else
   F.f187 x55 path out49 out50>>=fun v65=>
   F.f190 p path v65.1 v65.2 (i51+1)
 else
  some (out49,out50)
 partial_fixpoint
def F.f191 (p:Pattern)(path:List Int)(out73:List Step)(out74:List PathBind)(i75:Nat):Option ((List Step)×(List PathBind)):=
 if i75<p.kids.length then
  p.kids[i75]?>>=fun x79=>
  if p.op=4 then
   F.f186 path>>=fun v83=>
   if v83.length+1<=67108864 then
    F.f187 x79 (v83++[(i75:Int)]) out73 out74>>=fun v86=>
    F.f191 p path v86.1 v86.2 (i75+1)
   else none
  else
   F.f187 x79 path out73 out74>>=fun v89=>
   F.f191 p path v89.1 v89.2 (i75+1)
 else
  some (out73,out74)
 partial_fixpoint
def F.f192 (p:Pattern)(path:List Int)(out94:List Step)(out95:List PathBind)(i96:Nat):Option ((List Step)×(List PathBind)):=
 if i96<p.kids.length then
  p.kids[i96]?>>=fun x100=>
  if p.op=4 then
   F.f186 path>>=fun v104=>
   if v104.length+1<=67108864 then
    F.f187 x100 (v104++[(i96:Int)]) out94 out95>>=fun v107=>
    F.f192 p path v107.1 v107.2 (i96+1)
   else none
  else
   F.f187 x100 path out94 out95>>=fun v110=>
   F.f192 p path v110.1 v110.2 (i96+1)
 else
  some (out94,out95)
 partial_fixpoint
end
def F.f193 (x:List PathBind):Option (List PathBind):=
 if(List.map (fun x=>x.var) x).Nodup/\x.length<=67108864 then
  some (sortI (fun x=>x.var) x)
 else none
def F.f194 (v4:(List (List Pattern))×Bool)(out:List Step)(i:Nat)(x:List Pattern)(i13:Nat)(v21:List PathBind)(out24:List Step)(k:Nat):Option (List Step):=
 if k<out24.length then
  if out24.length+1<=9223372036854775807 then
   out24[k]?>>=fun x30=>
   F.f194 v4 out i x i13 v21 (out24.set k (⟨x30.op,x30.path,x30.ctor,x30.n,x30.m,x30.clause,x30.binds,((out24.length+1:Nat):Int)⟩:Step)) (k+1)
  else none
 else
  some out24
 partial_fixpoint
def F.f195 (v4:(List (List Pattern))×Bool)(out:List Step)(i:Nat)(x:List Pattern)(out12:List Step)(i13:Nat):Option (List Step):=
 if i13<x.length then
  x[i13]?>>=fun x17=>
  F.f187 x17 [] out12 []>>=fun v19=>
  F.f193 v19.2>>=fun v21=>
  F.f194 v4 out i x i13 v21 v19.1 out12.length>>=fun o'=>
  if o'.length+1<=67108864 then
   if i13+1<=9223372036854775807 then
    F.f195 v4 out i x (o'++[(⟨2,[],0,0,0,(i:Int),v21,0⟩:Step)]) (i13+1)
   else none
  else none
 else
  some out12
 partial_fixpoint
def F.f196 (v4:(List (List Pattern))×Bool)(i:Nat)(out39:List Step)(k40:Nat):Option (List Step):=
 if k40<out39.length then
  out39[k40]?>>=fun x44=>
  if x44.op=2 then
   F.f196 v4 i (out39.set k40 (⟨x44.op,x44.path,x44.ctor,x44.n,x44.m,x44.clause,x44.binds,(out39.length:Int)⟩:Step)) (k40+1)
  else
   F.f196 v4 i out39 (k40+1)
 else
  some out39
 partial_fixpoint
def F.f197 (v4:(List (List Pattern))×Bool)(out:List Step)(i:Nat):Option (List Step):=
 if i<v4.1.length then
  v4.1[i]?>>=fun x=>
  F.f195 v4 out i x out 0>>=fun o'38=>
  F.f196 v4 i o'38 out.length>>=fun o'51=>
  if i+1<=9223372036854775807 then
   F.f197 v4 o'51 (i+1)
  else none
 else
  some out
 partial_fixpoint
def F.f198 (w:List Vl.Data)(t:Ty)(list:List Clause):Option ((List Step)×Bool):=
 F.f175 w t list>>=fun v=>
 if v=true then
  F.f185 list>>=fun v4=>
  if v4.2=true then
   F.f197 v4 [] 0>>=fun o'55=>
   if o'55.length+1<=67108864 then
    some (o'55++[(⟨3,[],0,0,0,0,[],0⟩:Step)],true)
   else none
  else
   some ([],false)
 else
  some ([],false)
mutual
def F.f199 (w:List Vl.Data)(t:Ty)(v:Vl.Value)(deep:Int)(holes:Bool)(count:Int):Option (Bool×Int):=
 if 60<i64.wrap (count+1)then
  some (false,i64.wrap (count+1))
 else
  if 10<deep then
   some (false,i64.wrap (count+1))
  else
   if holes=true then
    if v.ctor=(-2)then
     if v.n=0 then
      some (decide (v.kids.length=0),i64.wrap (count+1))
     else
      some (false,i64.wrap (count+1))
    else
     if t.data=(-1)then
      if v.ctor=(-1)then
       F.f128 v.n 0 9>>=fun v15=>
       if v15=true then
        some (decide (v.kids.length=0),i64.wrap (count+1))
       else
        some (false,i64.wrap (count+1))
      else
       some (false,i64.wrap (count+1))
     else
      if v.n=0 then
       F.f145 w t>>=fun v21=>
       F.f148 v21 v.ctor>>=fun v23=>
       if v23=true then
        F.f151 w t v.ctor>>=fun v27=>
        if v27.length=v.kids.length then
         F.f200 w v deep holes v27 (i64.wrap (count+1)) 0>>=fun o'=>
         match o' with
         | .ret r0=>some r0
         | .go sx=>
          some (true,sx)
        else
         some (false,i64.wrap (count+1))
       else
        some (false,i64.wrap (count+1))
      else
       some (false,i64.wrap (count+1))
   else
    if t.data=(-1)then
     if v.ctor=(-1)then
      F.f128 v.n 0 9>>=fun v48=>
      if v48=true then
       some (decide (v.kids.length=0),i64.wrap (count+1))
      else
       some (false,i64.wrap (count+1))
     else
      some (false,i64.wrap (count+1))
    else
     if v.n=0 then
      F.f145 w t>>=fun v54=>
      F.f148 v54 v.ctor>>=fun v56=>
      if v56=true then
       F.f151 w t v.ctor>>=fun v60=>
       if v60.length=v.kids.length then
        F.f201 w v deep holes v60 (i64.wrap (count+1)) 0>>=fun o'80=>
        match o'80 with
        | .ret r082=>some r082
        | .go sx81=>
         some (true,sx81)
       else
        some (false,i64.wrap (count+1))
      else
       some (false,i64.wrap (count+1))
     else
      some (false,i64.wrap (count+1))
 partial_fixpoint
def F.f200 (w:List Vl.Data)(v:Vl.Value)(deep:Int)(holes:Bool)(v27:List Ty)(z:Int)(i:Nat):Option (Lo (Bool×Int) Int):=
 if i<v.kids.length then
  v.kids[i]?>>=fun x=>
  v27[i]?>>=fun x36=>
  F.f199 w x36 x (i64.wrap (deep+1)) holes z>>=fun v38=>
  if v38.1=true then
   F.f200 w v deep holes v27 v38.2 (i+1)
  else
   some (.ret (false,v38.2))
 else
  some (.go z)
 partial_fixpoint
def F.f201 (w:List Vl.Data)(v:Vl.Value)(deep:Int)(holes:Bool)(v60:List Ty)(z65:Int)(i66:Nat):Option (Lo (Bool×Int) Int):=
 if i66<v.kids.length then
  v.kids[i66]?>>=fun x70=>
  v60[i66]?>>=fun x72=>
  F.f199 w x72 x70 (i64.wrap (deep+1)) holes z65>>=fun v74=>
  if v74.1=true then
   F.f201 w v deep holes v60 v74.2 (i66+1)
  else
   some (.ret (false,v74.2))
 else
  some (.go z65)
 partial_fixpoint
end
def F.f202 (w:List Vl.Data)(t:Ty)(v:Vl.Value):Option (Bool):=
 F.f199 w t v 1 false 0>>=fun v1=>
 some v1.1
def F.f203 (s1:List Int)(s2:List Int)(i:Nat):Option (Lo Bool Unit):=
 if i<s1.length then
  s1[i]?>>=fun x=>
  s2[i]?>>=fun x8=>
  if x=x8 then
   F.f203 s1 s2 (i+1)
  else
   some (.ret false)
 else
  some (.go ())
 partial_fixpoint
def F.f204 (s1:List Int)(s2:List Int):Option (Bool):=
 if s1.length=s2.length then
  F.f203 s1 s2 0>>=fun o'=>
  match o' with
  | .ret r0=>some r0
  | .go sx=>
   some true
 else
  some false
def F.f205 (p:List Int)(a1:List Int):Option (Bool):=
 F.f204 p a1>>=fun v=>
 some v
def F.f206 (s:List (List Int))(k0:List Int)(i:Nat):Option (Lo Int Unit):=
 if i<s.length then
  s[i]?>>=fun x=>
  F.f205 x k0>>=fun v=>
  if v=true then
   some (.ret (i:Int))
  else
   F.f206 s k0 (i+1)
 else
  some (.go ())
 partial_fixpoint
def F.f207 (s:List (List Int))(k0:List Int):Option (Int):=
 F.f206 s k0 0>>=fun o'=>
 match o' with
 | .ret r0=>some r0
 | .go sx=>
  some (-1)
def F.f208 (s:List (List Int))(k0:List Int):Option (Bool):=
 F.f207 s k0>>=fun v=>
 some (decide (0<=v))
def F.f209 (list:List (List Int))(path:List Int):Option (List (List Int)):=
 F.f208 list path>>=fun v=>
 if v=true then
  some list
 else
  F.f186 path>>=fun v5=>
  if list.length+1<=67108864 then
   some (list++[v5])
  else none
def F.f210 (b:PathBind)(a1:Int):Option (Bool):=
 some (decide (b.var=a1))
def F.f211 (s:List PathBind)(k0:Int)(i:Nat):Option (Lo Int Unit):=
 if i<s.length then
  s[i]?>>=fun x=>
  F.f210 x k0>>=fun v=>
  if v=true then
   some (.ret (i:Int))
  else
   F.f211 s k0 (i+1)
 else
  some (.go ())
 partial_fixpoint
def F.f212 (s:List PathBind)(k0:Int):Option (Int):=
 F.f211 s k0 0>>=fun o'=>
 match o' with
 | .ret r0=>some r0
 | .go sx=>
  some (-1)
def F.f213 (list:List PathBind)(v:Int):Option (List Int):=
 F.f212 list v>>=fun v1=>
 at? list v1>>=fun x=>
 some x.path
def F.f214 (s:Step)(a1:List (List Int))(a2:List Clause):Option (List (List Int)):=
 if s.op=1 then
  F.f209 a1 s.path>>=fun v=>
  some v
 else
  at? a2 s.clause>>=fun x=>
  if x.guard.op=0 then
   some a1
  else
   F.f213 s.binds x.guard.var>>=fun v11=>
   F.f209 a1 v11>>=fun v13=>
   some v13
def F.f215 (path:List Int)(z:Int)(z1:Int)(z2:List Vl.Value)(i:Nat):Option (Int×Int×(List Vl.Value)):=
 if i<path.length then
  path[i]?>>=fun x=>
  at? z2 x>>=fun x7=>
  F.f215 path x7.ctor x7.n x7.kids (i+1)
 else
  some (z,z1,z2)
 partial_fixpoint
def F.f216 (v:Vl.Value)(path:List Int):Option (Vl.Value):=
 F.f215 path v.ctor v.n v.kids 0>>=fun o'=>
 some (⟨o'.1,o'.2.1,o'.2.2⟩:Vl.Value)
def F.f217 (ctor:Int)(n:Int)(m:Int)(x:Vl.Value):Option (Bool):=
 if ctor=x.ctor then
  if ctor=(-1)then
   F.f128 x.n n m>>=fun v=>
   some v
  else
   some true
 else
  some false
mutual
def F.f218 (v:Vl.Value):Option (Vl.Value):=
 F.f219 v [] 0>>=fun o'=>
 some (⟨v.ctor,v.n,o'⟩:Vl.Value)
 partial_fixpoint
def F.f219 (v:Vl.Value)(out:List Vl.Value)(i:Nat):Option (List Vl.Value):=
 if i<v.kids.length then
  v.kids[i]?>>=fun x=>
  F.f218 x>>=fun v5=>
  if out.length+1<=67108864 then
   F.f219 v (out++[v5]) (i+1)
  else none
 else
  some out
 partial_fixpoint
end
def F.f220 (list:List PathBind)(v:Vl.Value)(i:Nat)(out:List Bind):Option (List Bind):=
 if i<list.length then
  list[i]?>>=fun x=>
  F.f216 v x.path>>=fun v5=>
  F.f218 v5>>=fun v7=>
  if out.length+1<=67108864 then
   F.f220 list v (i+1) (out++[(⟨x.var,v7⟩:Bind)])
  else none
 else
  some out
 partial_fixpoint
def F.f221 (list:List PathBind)(v:Vl.Value):Option (List Bind):=
 F.f220 list v 0 []>>=fun o'=>
 some o'
def F.f222 (b:Bind)(a1:Guard):Option (Bool):=
 some (decide (b.var=a1.var))
def F.f223 (s:List Bind)(k0:Guard)(i:Nat):Option (Lo Int Unit):=
 if i<s.length then
  s[i]?>>=fun x=>
  F.f222 x k0>>=fun v=>
  if v=true then
   some (.ret (i:Int))
  else
   F.f223 s k0 (i+1)
 else
  some (.go ())
 partial_fixpoint
def F.f224 (s:List Bind)(k0:Guard):Option (Int):=
 F.f223 s k0 0>>=fun o'=>
 match o' with
 | .ret r0=>some r0
 | .go sx=>
  some (-1)
def F.f225 (g:Guard)(binds:List Bind):Option (Bool):=
 if g.op=0 then
  some true
 else
  F.f224 binds g>>=fun v=>
  if v<0 then
   some false
  else
   at? binds v>>=fun x=>
   if x.value.ctor=(-1)then
    if g.op=1 then
     if x.value.n<g.n then
      some true
     else
      some false
    else
     if g.op=2 then
      some (decide (x.value.n=g.n))
     else
      some false
   else
    some false
def F.f226 (steps':List Step)(list:List Clause)(v:Vl.Value)(k1:List Clause)(out:List (List Int))(count:Nat)(at':Int):Option (Int×(List Bind)×Int×(List (List Int))):=
 at? steps' at'>>=fun x=>
 if x.op=3 then
  some ((-1),[],(count:Int),out)
 else
  F.f214 x out k1>>=fun v8=>
  if x.op=1 then
   if count+1<=9223372036854775807 then
    F.f216 v x.path>>=fun v17=>
    F.f217 x.ctor x.n x.m v17>>=fun v19=>
    if v19=true then
     F.f226 steps' list v k1 v8 (count+1) (i64.wrap (at'+1))
    else
     F.f226 steps' list v k1 v8 (count+1) x.to
   else none
  else
   F.f221 x.binds v>>=fun v23=>
   at? list x.clause>>=fun x25=>
   F.f225 x25.guard v23>>=fun v27=>
   if v27=true then
    some (x.clause,v23,(count:Int),v8)
   else
    F.f226 steps' list v k1 v8 count x.to
 partial_fixpoint
def F.f227 (steps':List Step)(list:List Clause)(v:Vl.Value)(k0:List (List Int))(k1:List Clause):Option (Int×(List Bind)×Int×(List (List Int))):=
 F.f226 steps' list v k1 k0 0 0>>=fun o'=>
 some o'
def F.f228 (w:List Vl.Data)(t:Ty)(list:List Clause)(v:Vl.Value):Option (List (List Int)):=
 F.f198 w t list>>=fun v1=>
 if v1.2=true then
  F.f202 w t v>>=fun v5=>
  if v5=true then
   F.f227 v1.1 list v [] list>>=fun v9=>
   some v9.2.2.2
  else
   some []
 else
  some []
def F.f229 (a:List Int)(b:List Int)(i:Nat):Option (Lo Bool Unit):=
 if i<a.length then
  a[i]?>>=fun x=>
  b[i]?>>=fun x8=>
  if x=x8 then
   F.f229 a b (i+1)
  else
   some (.ret false)
 else
  some (.go ())
 partial_fixpoint
def F.f230 (a:List Int)(b:List Int):Option (Bool):=
 if a.length=b.length then
  F.f229 a b 0>>=fun o'=>
  match o' with
  | .ret r0=>some r0
  | .go sx=>
   some true
 else
  some false
def F.f231 (a:List (List Int))(b:List (List Int))(i:Nat):Option (Lo Bool Unit):=
 if i<a.length then
  a[i]?>>=fun x=>
  b[i]?>>=fun x8=>
  F.f230 x x8>>=fun v=>
  if v=true then
   F.f231 a b (i+1)
  else
   some (.ret false)
 else
  some (.go ())
 partial_fixpoint
def F.f232 (a:List (List Int))(b:List (List Int)):Option (Bool):=
 if a.length=b.length then
  F.f231 a b 0>>=fun o'=>
  match o' with
  | .ret r0=>some r0
  | .go sx=>
   some true
 else
  some false
def F.f233 (a:Ty)(b:Ty):Option (Bool):=
 if a.data=b.data then
  if a.index=b.index then
   some true
  else
   some false
 else
  some false
def F.f234 (a:List Ty)(b:List Ty)(i:Nat):Option (Lo Bool Unit):=
 if i<a.length then
  a[i]?>>=fun x=>
  b[i]?>>=fun x8=>
  F.f233 x x8>>=fun v=>
  if v=true then
   F.f234 a b (i+1)
  else
   some (.ret false)
 else
  some (.go ())
 partial_fixpoint
def F.f235 (a:List Ty)(b:List Ty):Option (Bool):=
 if a.length=b.length then
  F.f234 a b 0>>=fun o'=>
  match o' with
  | .ret r0=>some r0
  | .go sx=>
   some true
 else
  some false
def F.f236 (a:Ctor)(b:Ctor):Option (Bool):=
 if a.name.toList=b.name.toList then
  F.f235 a.args b.args>>=fun v=>
  if v=true then
   if a.index=b.index then
    some true
   else
    some false
  else
   some false
 else
  some false
def F.f237 (a:List Ctor)(b:List Ctor)(i:Nat):Option (Lo Bool Unit):=
 if i<a.length then
  a[i]?>>=fun x=>
  b[i]?>>=fun x8=>
  F.f236 x x8>>=fun v=>
  if v=true then
   F.f237 a b (i+1)
  else
   some (.ret false)
 else
  some (.go ())
 partial_fixpoint
def F.f238 (a:List Ctor)(b:List Ctor):Option (Bool):=
 if a.length=b.length then
  F.f237 a b 0>>=fun o'=>
  match o' with
  | .ret r0=>some r0
  | .go sx=>
   some true
 else
  some false
def F.f239 (a:Vl.Data)(b:Vl.Data):Option (Bool):=
 if a.name.toList=b.name.toList then
  F.f238 a.ctors b.ctors>>=fun v=>
  if v=true then
   some true
  else
   some false
 else
  some false
def F.f240 (a:List Vl.Data)(b:List Vl.Data)(i:Nat):Option (Lo Bool Unit):=
 if i<a.length then
  a[i]?>>=fun x=>
  b[i]?>>=fun x8=>
  F.f239 x x8>>=fun v=>
  if v=true then
   F.f240 a b (i+1)
  else
   some (.ret false)
 else
  some (.go ())
 partial_fixpoint
def F.f241 (a:List Vl.Data)(b:List Vl.Data):Option (Bool):=
 if a.length=b.length then
  F.f240 a b 0>>=fun o'=>
  match o' with
  | .ret r0=>some r0
  | .go sx=>
   some true
 else
  some false
mutual
def F.f242 (a:Pattern)(b:Pattern):Option (Bool):=
 if a.op=b.op then
  if a.ctor=b.ctor then
   if a.n=b.n then
    if a.m=b.m then
     if a.var=b.var then
      F.f243 a.kids b.kids>>=fun v=>
      if v=true then
       some true
      else
       some false
     else
      some false
    else
     some false
   else
    some false
  else
   some false
 else
  some false
 partial_fixpoint
def F.f243 (a:List Pattern)(b:List Pattern):Option (Bool):=
 if a.length=b.length then
  F.f244 a b 0>>=fun o'=>
  match o' with
  | .ret r0=>some r0
  | .go sx=>
   some true
 else
  some false
 partial_fixpoint
def F.f244 (a:List Pattern)(b:List Pattern)(i:Nat):Option (Lo Bool Unit):=
 if i<a.length then
  a[i]?>>=fun x=>
  b[i]?>>=fun x8=>
  F.f242 x x8>>=fun v=>
  if v=true then
   F.f244 a b (i+1)
  else
   some (.ret false)
 else
  some (.go ())
 partial_fixpoint
end
def F.f245 (a:Guard)(b:Guard):Option (Bool):=
 if a.op=b.op then
  if a.var=b.var then
   if a.n=b.n then
    some true
   else
    some false
  else
   some false
 else
  some false
def F.f246 (a:Clause)(b:Clause):Option (Bool):=
 F.f242 a.pat b.pat>>=fun v=>
 if v=true then
  F.f245 a.guard b.guard>>=fun v4=>
  if v4=true then
   some true
  else
   some false
 else
  some false
def F.f247 (a:List Clause)(b:List Clause)(i:Nat):Option (Lo Bool Unit):=
 if i<a.length then
  a[i]?>>=fun x=>
  b[i]?>>=fun x8=>
  F.f246 x x8>>=fun v=>
  if v=true then
   F.f247 a b (i+1)
  else
   some (.ret false)
 else
  some (.go ())
 partial_fixpoint
def F.f248 (a:List Clause)(b:List Clause):Option (Bool):=
 if a.length=b.length then
  F.f247 a b 0>>=fun o'=>
  match o' with
  | .ret r0=>some r0
  | .go sx=>
   some true
 else
  some false
mutual
def F.f249 (a:Vl.Value)(b:Vl.Value):Option (Bool):=
 if a.ctor=b.ctor then
  if a.n=b.n then
   F.f250 a.kids b.kids>>=fun v=>
   if v=true then
    some true
   else
    some false
  else
   some false
 else
  some false
 partial_fixpoint
def F.f250 (a:List Vl.Value)(b:List Vl.Value):Option (Bool):=
 if a.length=b.length then
  F.f251 a b 0>>=fun o'=>
  match o' with
  | .ret r0=>some r0
  | .go sx=>
   some true
 else
  some false
 partial_fixpoint
def F.f251 (a:List Vl.Value)(b:List Vl.Value)(i:Nat):Option (Lo Bool Unit):=
 if i<a.length then
  a[i]?>>=fun x=>
  b[i]?>>=fun x8=>
  F.f249 x x8>>=fun v=>
  if v=true then
   F.f251 a b (i+1)
  else
   some (.ret false)
 else
  some (.go ())
 partial_fixpoint
end
def F.f252 (a:List Int)(k1:Int)(i:Nat):Option (Lo Int Int):=
 if i<a.length then
  a[i]?>>=fun x=>
  if x=k1 then
   F.f252 a (i64.wrap (k1+1)) (i+1)
  else
   some (.ret (-1))
 else
  some (.go k1)
 partial_fixpoint
def F.f253 (a:List Int)(k:Int):Option (Int):=
 F.f252 a k 0>>=fun o'=>
 match o' with
 | .ret r0=>some r0
 | .go sx=>
  some sx
def F.f254 (a:List (List Int))(k1:Int)(i:Nat):Option (Lo Int Int):=
 if i<a.length then
  a[i]?>>=fun x=>
  F.f253 x k1>>=fun v=>
  if v<0 then
   some (.ret (-1))
  else
   F.f254 a v (i+1)
 else
  some (.go k1)
 partial_fixpoint
def F.f255 (a:List (List Int))(k:Int):Option (Int):=
 F.f254 a k 0>>=fun o'=>
 match o' with
 | .ret r0=>some r0
 | .go sx=>
  some sx
theorem F.markText_run :∀(f:Nat) (k:Int) (out:ByteArray),k<10^f->k<=9223372036854775807->out.size+f<=9223372036854775807->∃r,F.f0 k out=some r/\r.size<=out.size+f
 |0,k,out,h1,h2,h3=>⟨out,by rw[F.f0,iN (by simp at h1;omega)],by omega⟩
 |f+1,k,out,h1,h2,h3=>by
  rw[F.f0]
  by_cases h:0<k
  ·rw[iP h]
   have e1:∀n:Int,(ZIN [n]).size=1:=fun n=>rfl
   have e2:k.tdiv 10=k/10:=Int.tdiv_eq_ediv_of_nonneg (by omega)
   rw[e2,show i64.wrap (k/10)=k/10 from ZD (by omega) (by omega),iP (by rw[e1];omega)]
   obtain⟨r,q1,q2⟩:=F.markText_run f (k/10) (ZIN [zE.wrap (i64.wrap (48+k.tmod 10))]++out) (by rw[Int.pow_succ]at h1;omega) (by omega) (by rw[zA,e1];omega)
   exact⟨r,q1,by rw[zA,e1]at q2;omega⟩
  ·rw[iN h];exact⟨out,rfl,by omega⟩
theorem F.markText_ex (k:Int):∃r,F.f1 k=some r:=by
 have e1:zC ⟨#[109]⟩=1:=rfl
 have e2:zB.size=0:=rfl
 have e3:∀n:Int,(ZIN [n]).size=1:=fun n=>rfl
 have key:∃r,F.f0 k zB=some r/\r.size<=20:=by
  by_cases h:k<=9223372036854775807
  ·obtain⟨r,q1,q2⟩:=F.markText_run 19 k zB (by omega) h (by decide)
   exact⟨r,q1,by omega⟩
  ·rw[F.f0,iP (by omega),iP (by rw[e3];omega)]
   have hw:i64.wrap (k.tdiv 10)<=9223372036854775807:=by
    simp only[zF,zH,zG];simp;omega
   obtain⟨r,q1,q2⟩:=F.markText_run 19 (i64.wrap (k.tdiv 10)) (ZIN [zE.wrap (i64.wrap (48+k.tmod 10))]++zB) (by omega) hw (by rw[zA,e3];omega)
   exact⟨r,q1,by rw[zA,e3]at q2;omega⟩
 unfold F.f1
 split
 ·exact⟨_,rfl⟩
 ·obtain⟨r,q1,q2⟩:=key
  rw[q1]
  simp only[Option.bind_eq_bind,Option.bind_some]
  rw[iP (by rw[e1];omega)]
  exact⟨_,rfl⟩
def mtF (k:Int):ByteArray:=(F.markText_ex k).choose
theorem ZM8 (k:Int):F.f1 k=some (mtF k):=(F.markText_ex k).choose_spec
def F.f256 (a:List Vl.Value)(k:Int):Option (List Vl.Value×Int):=some (Vl.Value.mkL a k)
def F.f257 (a:List Pattern)(k:Int):Option (List Pattern×Int):=some (Pattern.mkL a k)
def F.f258 (a:List Clause)(k:Int):Option (List Clause×Int):=some (Clause.mkL a k)
def F.f259 (a:List Int)(k:Int):Option (List Int×Int):=some (mkI a k)
def F.f260 (a:List (List Int))(k:Int):Option (List (List Int)×Int):=some (ZDI a k)
def F.f261 (a:List Ty)(k:Int):Option (List Ty×Int):=some (Ty.mkL a k)
def F.f262 (a:List Ctor)(k:Int):Option (List Ctor×Int):=some (Ctor.mkL mtF a k)
def F.f263 (a:List Vl.Data)(k:Int):Option (List Vl.Data×Int):=some (Vl.Data.mkL mtF a k)
def F.f264 (aW:List Vl.Data)(aT:Ty)(aList:List Clause)(aV:Vl.Value):Option (Bool):=
 F.f8 aW 1048576>>=fun v=>
 if v<0 then
  some true
 else
  F.f14 aList v>>=fun v4=>
  if v4<0 then
   some true
  else
   F.f15 aV v4>>=fun v8=>
   if v8<0 then
    some true
   else
    F.f26 aW>>=fun v12=>
    F.f18 aT>>=fun v14=>
    F.f33 aList>>=fun v16=>
    F.f34 aV>>=fun v18=>
    F.f127 v12 v14 v16 v18>>=fun v20=>
    F.f26 aW>>=fun v22=>
    F.f33 aList>>=fun v24=>
    F.f34 aV>>=fun v27=>
    F.f18 aT>>=fun v30=>
    F.f228 v22 v30 v24 v27>>=fun v32=>
    F.f232 v32 v20>>=fun v35=>
    if v35=true then
     F.f26 aW>>=fun v39=>
     F.f241 v22 v39>>=fun v41=>
     if v41=true then
      F.f33 aList>>=fun v45=>
      F.f248 v24 v45>>=fun v47=>
      if v47=true then
       F.f34 aV>>=fun v51=>
       F.f249 v27 v51>>=fun v53=>
       if v53=true then
        F.f263 v22 1>>=fun v57=>
        F.f258 v24 v57.2>>=fun v59=>
        F.f256 v27.kids v59.2>>=fun v61=>
        if v61.2<0 then
         some false
        else
         F.f232 v32 v20>>=fun v65=>
         if v65=true then
          F.f260 v32 1>>=fun v69=>
          F.f255 v69.1 1>>=fun v71=>
          if v71<0 then
           some false
          else
           if v71=v69.2 then
            F.f26 aW>>=fun v77=>
            F.f18 aT>>=fun v79=>
            F.f33 aList>>=fun v81=>
            F.f34 aV>>=fun v83=>
            F.f228 v77 v79 v81 v83>>=fun v85=>
            F.f232 v85 v20>>=fun v88=>
            if v88=true then
             F.f255 v69.1 1>>=fun v92=>
             if v92<0 then
              some false
             else
              if v92=v69.2 then
               some true
              else
               some false
            else
             some false
           else
            some false
         else
          some false
       else
        some false
      else
       some false
     else
      some false
    else
     some false
end
end Go.Vl
