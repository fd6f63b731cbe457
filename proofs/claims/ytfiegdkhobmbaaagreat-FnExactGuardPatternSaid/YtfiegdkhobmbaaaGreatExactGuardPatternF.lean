/- The functions of the program as Lean functions (printed by gen.py). -/
import Derived.Test.YtfiegdkhobmbaaaGreatVlG
import Derived.Test.YtfiegdkhobmbaaaGreatVlDraw3
import Derived.Test.YtfiegdkhobmbaaaGreatVlFa
import Derived.Test.YtfiegdkhobmbaaaGreatVlSplit
import Derived.Test.YtfiegdkhobmbaaaGreatVlDeep
import Derived.Test.YtfiegdkhobmbaaaGreatVlMk
import Derived.Test.YtfiegdkhobmbaaaGreatVlFork
set_option linter.unusedVariables false
set_option linter.unusedSimpArgs false
set_option linter.unusedVariables false
namespace Go.Vl
open Go
noncomputable section
def F.f0 (k3:Int)(out:ByteArray):Option (ByteArray):=
 if 0<k3 then
  if(strB [IntKind.u8.wrap (IntKind.i64.wrap (48+k3.tmod 10))]).size+out.size≤9223372036854775807 then
   F.f0 (IntKind.i64.wrap (k3.tdiv 10)) ((strB [IntKind.u8.wrap (IntKind.i64.wrap (48+k3.tmod 10))])++out)
  else none
 else
  some out
 partial_fixpoint
def F.f1 (k:Int):Option (ByteArray):=
 if k≤0 then
  some (⟨#[109,48]⟩:ByteArray)
 else
  (F.f0 k ByteArray.empty)>>=fun o'=>
  if(⟨#[109]⟩:ByteArray).size+o'.size≤9223372036854775807 then
   some ((⟨#[109]⟩:ByteArray)++o')
  else none
def F.f2 (a:List Vl.Ty)(left':Int):Option (Int):=
 if IntKind.i64.wrap (left'- (a.length:Int))<0 then
  some (-1:Int)
 else
  some (IntKind.i64.wrap (left'- (a.length:Int)))
def F.f3 (a:Vl.Ctor)(left':Int):Option (Int):=
 if IntKind.i64.wrap (left'- (a.name.size:Int))<0 then
  some (-1:Int)
 else
  (F.f2 a.args (IntKind.i64.wrap (left'- (a.name.size:Int))))>>=fun v=>
  if v<0 then
   some (-1:Int)
  else
   some v
def F.f4 (a:List Vl.Ctor)(left'3:Int)(i:Nat):Option (Lo Int Int):=
 if i<a.length then
  (a[i]?)>>=fun x=>
  (F.f3 x left'3)>>=fun v=>
  if v<0 then
   some (.ret (-1:Int))
  else
   F.f4 a v (i+1)
 else
  some (.go left'3)
 partial_fixpoint
def F.f5 (a:List Vl.Ctor)(left':Int):Option (Int):=
 if IntKind.i64.wrap (left'- (a.length:Int))<0 then
  some (-1:Int)
 else
  (F.f4 a (IntKind.i64.wrap (left'- (a.length:Int))) 0)>>=fun o'=>
  match o' with
  | .ret r0=>some r0
  | .go sx=>
   some sx
def F.f6 (a:Vl.Data)(left':Int):Option (Int):=
 if IntKind.i64.wrap (left'- (a.name.size:Int))<0 then
  some (-1:Int)
 else
  (F.f5 a.ctors (IntKind.i64.wrap (left'- (a.name.size:Int))))>>=fun v=>
  if v<0 then
   some (-1:Int)
  else
   some v
def F.f7 (a:List Vl.Data)(left'3:Int)(i:Nat):Option (Lo Int Int):=
 if i<a.length then
  (a[i]?)>>=fun x=>
  (F.f6 x left'3)>>=fun v=>
  if v<0 then
   some (.ret (-1:Int))
  else
   F.f7 a v (i+1)
 else
  some (.go left'3)
 partial_fixpoint
def F.f8 (a:List Vl.Data)(left':Int):Option (Int):=
 if IntKind.i64.wrap (left'- (a.length:Int))<0 then
  some (-1:Int)
 else
  (F.f7 a (IntKind.i64.wrap (left'- (a.length:Int))) 0)>>=fun o'=>
  match o' with
  | .ret r0=>some r0
  | .go sx=>
   some sx
mutual
def F.f9 (a:Vl.Pattern)(left':Int):Option (Int):=
 (F.f10 a.kids left')>>=fun v=>
 if v<0 then
  some (-1:Int)
 else
  some v
 partial_fixpoint
def F.f10 (a:List Vl.Pattern)(left':Int):Option (Int):=
 if IntKind.i64.wrap (left'- (a.length:Int))<0 then
  some (-1:Int)
 else
  (F.f11 a (IntKind.i64.wrap (left'- (a.length:Int))) 0)>>=fun o'=>
  match o' with
  | .ret r0=>some r0
  | .go sx=>
   some sx
 partial_fixpoint
def F.f11 (a:List Vl.Pattern)(left'3:Int)(i:Nat):Option (Lo Int Int):=
 if i<a.length then
  (a[i]?)>>=fun x=>
  (F.f9 x left'3)>>=fun v=>
  if v<0 then
   some (.ret (-1:Int))
  else
   F.f11 a v (i+1)
 else
  some (.go left'3)
 partial_fixpoint
end
def F.f12 (a:Vl.Clause)(left':Int):Option (Int):=
 (F.f9 a.pat left')>>=fun v=>
 if v<0 then
  some (-1:Int)
 else
  some v
def F.f13 (a:Vl.Ty):Option (Vl.Ty):=
 some a
def F.f14 (a:List Vl.Ty)(out:List Vl.Ty)(i:Nat):Option (List Vl.Ty):=
 if i<a.length then
  (a[i]?)>>=fun x=>
  (F.f13 x)>>=fun v=>
  (out[i]?)>>=fun x7=>
  F.f14 a (out.set i v) (i+1)
 else
  some out
 partial_fixpoint
def F.f15 (a:List Vl.Ty):Option (List Vl.Ty):=
 if a.length≤67108864 then
  (F.f14 a (List.replicate a.length Vl.Ty.z) 0)>>=fun o'=>
  some o'
 else none
def F.f16 (a:Vl.Ctor):Option (Vl.Ctor):=
 (F.f15 a.args)>>=fun v=>
 some (⟨a.name,v,a.index⟩:Vl.Ctor)
def F.f17 (a:List Vl.Ctor)(out:List Vl.Ctor)(i:Nat):Option (List Vl.Ctor):=
 if i<a.length then
  (a[i]?)>>=fun x=>
  (F.f16 x)>>=fun v=>
  (out[i]?)>>=fun x7=>
  F.f17 a (out.set i v) (i+1)
 else
  some out
 partial_fixpoint
def F.f18 (a:List Vl.Ctor):Option (List Vl.Ctor):=
 if a.length≤67108864 then
  (F.f17 a (List.replicate a.length Vl.Ctor.z) 0)>>=fun o'=>
  some o'
 else none
def F.f19 (a:Vl.Data):Option (Vl.Data):=
 (F.f18 a.ctors)>>=fun v=>
 some (⟨a.name,v⟩:Vl.Data)
def F.f20 (a:List Vl.Data)(out:List Vl.Data)(i:Nat):Option (List Vl.Data):=
 if i<a.length then
  (a[i]?)>>=fun x=>
  (F.f19 x)>>=fun v=>
  (out[i]?)>>=fun x7=>
  F.f20 a (out.set i v) (i+1)
 else
  some out
 partial_fixpoint
def F.f21 (a:List Vl.Data):Option (List Vl.Data):=
 if a.length≤67108864 then
  (F.f20 a (List.replicate a.length Vl.Data.z) 0)>>=fun o'=>
  some o'
 else none
mutual
def F.f22 (a:Vl.Pattern):Option (Vl.Pattern):=
 (F.f23 a.kids)>>=fun v=>
 some (⟨a.op,a.ctor,a.n,a.m,a.var,v⟩:Vl.Pattern)
 partial_fixpoint
def F.f23 (a:List Vl.Pattern):Option (List Vl.Pattern):=
 if a.length≤67108864 then
  (F.f24 a (List.replicate a.length Vl.Pattern.z) 0)>>=fun o'=>
  some o'
 else none
 partial_fixpoint
def F.f24 (a:List Vl.Pattern)(out:List Vl.Pattern)(i:Nat):Option (List Vl.Pattern):=
 if i<a.length then
  (a[i]?)>>=fun x=>
  (F.f22 x)>>=fun v=>
  (out[i]?)>>=fun x7=>
  F.f24 a (out.set i v) (i+1)
 else
  some out
 partial_fixpoint
end
def F.f25 (a:Vl.Guard):Option (Vl.Guard):=
 some a
def F.f26 (a:Vl.Clause):Option (Vl.Clause):=
 (F.f22 a.pat)>>=fun v=>
 (F.f25 a.guard)>>=fun v2=>
 some (⟨v,v2⟩:Vl.Clause)
def F.f27 (c':Int):Option (Bool):=
 if 65≤c' then
  some (decide (c'≤90))
 else
  some false
def F.f28 (s:ByteArray):Option (Bool):=
 if s.size=1 then
  if 0<s.size then
   (F.f27 ((byteAt s 0:Nat):Int))>>=fun v=>
   if v=true then
    some (decide (¬(s.toList=(⟨#[73]⟩:ByteArray).toList)))
   else
    some false
  else none
 else
  some false
def F.f29 (s:ByteArray)(i:Nat):Option (Lo Bool Unit):=
 if i<s.size then
  if byteAt s i<97 then
   some (.ret false)
  else
   if 122<byteAt s i then
    some (.ret false)
   else
    if i+1≤9223372036854775807 then
     F.f29 s (i+1)
    else none
 else
  some (.go ())
 partial_fixpoint
def F.f30 (s:ByteArray):Option (Bool):=
 if s.size=0 then
  some false
 else
  if 5<s.size then
   some false
  else
   if 0<s.size then
    (F.f27 ((byteAt s 0:Nat):Int))>>=fun v=>
    if v=true then
     (F.f29 s 1)>>=fun o'=>
     match o' with
     | .ret r0=>some r0
     | .go sx=>
      some true
    else
     some false
   else none
def F.f31 (n:Int)(t:Vl.Ty):Option (Bool):=
 if t.data=(-1)then
  some (decide (t.index=0))
 else
  if 0≤t.data then
   if t.data<n then
    if(-1)≤t.index then
     some (decide (t.index≤3))
    else
     some false
   else
    some false
  else
   some false
def F.f32 (n:Int)(c':Vl.Ctor)(i:Nat):Option (Lo Bool Unit):=
 if i<c'.args.length then
  (c'.args[i]?)>>=fun x=>
  (F.f31 n x)>>=fun v15=>
  if v15=true then
   F.f32 n c' (i+1)
  else
   some (.ret false)
 else
  some (.go ())
 partial_fixpoint
def F.f33 (n:Int)(c':Vl.Ctor):Option (Bool):=
 (F.f30 c'.name)>>=fun v=>
 if v=true then
  if 3<c'.args.length then
   some false
  else
   if c'.index<0 then
    some false
   else
    if 3<c'.index then
     some false
    else
     (F.f32 n c' 0)>>=fun o'=>
     match o' with
     | .ret r0=>some r0
     | .go sx=>
      some true
 else
  some false
def F.f34 (w:List Vl.Data)(d:Int)(k:Int)(i:Nat)(j:Nat):Option (Lo Bool Unit):=
 (w[i]?)>>=fun x10=>
 if j<x10.ctors.length then
  if(i:Int)<d then
   (at? w d)>>=fun x33=>
   if k<(x33.ctors.length:Int)then
    (x10.ctors[j]?)>>=fun x37=>
    (at? x33.ctors k)>>=fun x39=>
    if x37.name.toList=x39.name.toList then
     some (.ret true)
    else
     if j+1≤9223372036854775807 then
      F.f34 w d k i (j+1)
     else none
   else
    if j+1≤9223372036854775807 then
     F.f34 w d k i (j+1)
    else none
  else
   if(j:Int)<k then
    (at? w d)>>=fun x19=>
    if k<(x19.ctors.length:Int)then
     (x10.ctors[j]?)>>=fun x23=>
     (at? x19.ctors k)>>=fun x25=>
     if x23.name.toList=x25.name.toList then
      some (.ret true)
     else
      if j+1≤9223372036854775807 then
       F.f34 w d k i (j+1)
      else none
    else
     if j+1≤9223372036854775807 then
      F.f34 w d k i (j+1)
     else none
   else
    some (.go ())
 else
  some (.go ())
 partial_fixpoint
def F.f35 (w:List Vl.Data)(d:Int)(k:Int)(i:Nat)(j50:Nat):Option (Lo Bool Unit):=
 (w[i]?)>>=fun x51=>
 if j50<x51.ctors.length then
  if(i:Int)<d then
   (at? w d)>>=fun x74=>
   if k<(x74.ctors.length:Int)then
    (x51.ctors[j50]?)>>=fun x78=>
    (at? x74.ctors k)>>=fun x80=>
    if x78.name.toList=x80.name.toList then
     some (.ret true)
    else
     if j50+1≤9223372036854775807 then
      F.f35 w d k i (j50+1)
     else none
   else
    if j50+1≤9223372036854775807 then
     F.f35 w d k i (j50+1)
    else none
  else
   if(j50:Int)<k then
    (at? w d)>>=fun x60=>
    if k<(x60.ctors.length:Int)then
     (x51.ctors[j50]?)>>=fun x64=>
     (at? x60.ctors k)>>=fun x66=>
     if x64.name.toList=x66.name.toList then
      some (.ret true)
     else
      if j50+1≤9223372036854775807 then
       F.f35 w d k i (j50+1)
      else none
    else
     if j50+1≤9223372036854775807 then
      F.f35 w d k i (j50+1)
     else none
   else
    some (.go ())
 else
  some (.go ())
 partial_fixpoint
def F.f36 (w:List Vl.Data)(d:Int)(k:Int)(i:Nat):Option (Lo Bool Unit):=
 if(i:Int)≤d then
  if(i:Int)<d then
   (w[i]?)>>=fun x=>
   (at? w d)>>=fun x6=>
   if x.name.toList=x6.name.toList then
    some (.ret true)
   else
    (F.f34 w d k i 0)>>=fun o'=>
    match o' with
    | .ret r0=>some (.ret r0)
    | .go sx=>
     if i+1≤9223372036854775807 then
      F.f36 w d k (i+1)
     else none
  else
   (F.f35 w d k i 0)>>=fun o'89=>
   match o'89 with
   | .ret r093=>some (.ret r093)
   | .go sx90=>
    if i+1≤9223372036854775807 then
     F.f36 w d k (i+1)
    else none
 else
  some (.go ())
 partial_fixpoint
def F.f37 (w:List Vl.Data)(d:Int)(k:Int):Option (Bool):=
 (F.f36 w d k 0)>>=fun o'95=>
 match o'95 with
 | .ret r097=>some r097
 | .go sx96=>
  some false
def F.f38 (w:List Vl.Data)(d:Nat)(k:Nat):Option (Lo Bool Unit):=
 (w[d]?)>>=fun x17=>
 if k<x17.ctors.length then
  (x17.ctors[k]?)>>=fun x22=>
  (F.f33 (w.length:Int) x22)>>=fun v24=>
  if v24=true then
   (F.f37 w (d:Int) (k:Int))>>=fun v28=>
   if v28=true then
    some (.ret false)
   else
    if k+1≤9223372036854775807 then
     F.f38 w d (k+1)
    else none
  else
   some (.ret false)
 else
  some (.go ())
 partial_fixpoint
def F.f39 (w:List Vl.Data)(d:Nat):Option (Lo Bool Unit):=
 if d<w.length then
  (w[d]?)>>=fun x=>
  (F.f28 x.name)>>=fun v=>
  if v=true then
   if x.ctors.length=0 then
    some (.ret false)
   else
    if 4<x.ctors.length then
     some (.ret false)
    else
     (F.f38 w d 0)>>=fun o'=>
     match o' with
     | .ret r0=>some (.ret r0)
     | .go sx=>
      if d+1≤9223372036854775807 then
       F.f39 w (d+1)
      else none
  else
   some (.ret false)
 else
  some (.go ())
 partial_fixpoint
def F.f40 (w:List Vl.Data):Option (Bool):=
 if 4<w.length then
  some false
 else
  (F.f39 w 0)>>=fun o'38=>
  match o'38 with
  | .ret r040=>some r040
  | .go sx39=>
   some true
def F.f41 (w:List Vl.Data)(t:Vl.Ty):Option (Bool):=
 (F.f31 (w.length:Int) t)>>=fun v=>
 if v=true then
  some (decide (0≤t.index))
 else
  some false
def F.f42 (w:List Vl.Data)(t:Vl.Ty):Option (Bool):=
 (F.f40 w)>>=fun v=>
 if v=true then
  (F.f41 w t)>>=fun v4=>
  some v4
 else
  some false
def F.f43 (c':Vl.Ctor)(index':Int):Option (Bool):=
 if c'.index=0 then
  some true
 else
  if index'=0 then
   some true
  else
   some (decide (c'.index=index'))
def F.f44 (w:List Vl.Data)(t:Vl.Ty)(out:List Int)(k:Nat):Option (List Int):=
 (at? w t.data)>>=fun x=>
 if k<x.ctors.length then
  (x.ctors[k]?)>>=fun x7=>
  (F.f43 x7 t.index)>>=fun v=>
  if v=true then
   if out.length+1≤67108864 then
    if k+1≤9223372036854775807 then
     F.f44 w t (out++[(k:Int)]) (k+1)
    else none
   else none
  else
   if k+1≤9223372036854775807 then
    F.f44 w t out (k+1)
   else none
 else
  some out
 partial_fixpoint
def F.f45 (w:List Vl.Data)(t:Vl.Ty):Option (List Int):=
 if t.data=(-1)then
  some []
 else
  (F.f44 w t [] 0)>>=fun o'=>
  some o'
def F.f46 (list:List Int)(n:Int)(i:Nat):Option (Lo Bool Unit):=
 if i<list.length then
  (list[i]?)>>=fun x=>
  if x=n then
   some (.ret true)
  else
   F.f46 list n (i+1)
 else
  some (.go ())
 partial_fixpoint
def F.f47 (list:List Int)(n:Int):Option (Bool):=
 (F.f46 list n 0)>>=fun o'=>
 match o' with
 | .ret r0=>some r0
 | .go sx=>
  some false
def F.f48 (w:List Vl.Data)(t:Vl.Ty)(p:Vl.Pattern):Option (Bool):=
 if p.op=2 then
  if p.var<0 then
   some false
  else
   if 5<p.var then
    some false
   else
    if p.n=0 then
     if p.m=0 then
      if p.ctor=0 then
       some true
      else
       some false
     else
      some false
    else
     some false
 else
  if p.op=6 then
   if p.var<0 then
    some false
   else
    if 5<p.var then
     some false
    else
     if p.n=0 then
      if p.m=0 then
       if p.ctor=0 then
        some true
       else
        some false
      else
       some false
     else
      some false
  else
   if p.var=0 then
    if p.op=3 then
     if p.ctor=0 then
      if t.data=(-1)then
       if 0≤p.n then
        if p.n≤p.m then
         some (decide (p.m≤9))
        else
         some false
       else
        some false
      else
       some false
     else
      some false
    else
     if p.n=0 then
      if p.m=0 then
       if p.op=4 then
        (F.f45 w t)>>=fun v=>
        (F.f47 v p.ctor)>>=fun v32=>
        some v32
       else
        if p.ctor=0 then
         if p.op=1 then
          some true
         else
          if p.op=5 then
           some true
          else
           some false
        else
         some false
      else
       some false
     else
      some false
   else
    some false
def F.f49 (c':Vl.Ctor)(index':Int):Option (Int):=
 if c'.index=0 then
  some index'
 else
  some c'.index
def F.f50 (t:Vl.Ty)(x2:Vl.Ctor)(out:List Vl.Ty)(i:Nat):Option (List Vl.Ty):=
 if i<x2.args.length then
  (x2.args[i]?)>>=fun x7=>
  if x7.index=(-1)then
   (F.f49 x2 t.index)>>=fun v=>
   if out.length+1≤67108864 then
    F.f50 t x2 (out++[(⟨x7.data,v⟩:Vl.Ty)]) (i+1)
   else none
  else
   if out.length+1≤67108864 then
    F.f50 t x2 (out++[x7]) (i+1)
   else none
 else
  some out
 partial_fixpoint
def F.f51 (w:List Vl.Data)(t:Vl.Ty)(ctor:Int):Option (List Vl.Ty):=
 (at? w t.data)>>=fun x=>
 (at? x.ctors ctor)>>=fun x2=>
 (F.f50 t x2 [] 0)>>=fun o'=>
 some o'
def F.f52 (op:Int):Option (Int):=
 if op=5 then
  some (2:Int)
 else
  if op=6 then
   some (1:Int)
  else
   if op=4 then
    some (-1:Int)
   else
    some (0:Int)
def F.f53 (t:Vl.Ty)(p:Vl.Pattern)(out:List Vl.Ty)(i:Nat):Option (List Vl.Ty):=
 (F.f52 p.op)>>=fun v4=>
 if(i:Int)<v4 then
  if out.length+1≤67108864 then
   if i+1≤9223372036854775807 then
    F.f53 t p (out++[t]) (i+1)
   else none
  else none
 else
  some out
 partial_fixpoint
def F.f54 (w:List Vl.Data)(t:Vl.Ty)(p:Vl.Pattern):Option (List Vl.Ty):=
 if p.op=4 then
  (F.f51 w t p.ctor)>>=fun v=>
  some v
 else
  (F.f53 t p [] 0)>>=fun o'=>
  some o'
mutual
def F.f55 (w:List Vl.Data)(t:Vl.Ty)(p:Vl.Pattern)(depth:Int):Option (Bool):=
 if depth<1 then
  some false
 else
  (F.f48 w t p)>>=fun v=>
  if v=true then
   (F.f54 w t p)>>=fun v6=>
   if p.kids.length=v6.length then
    (F.f56 w p depth v6 0)>>=fun o'=>
    match o' with
    | .ret r0=>some r0
    | .go sx=>
     some true
   else
    some false
  else
   some false
 partial_fixpoint
def F.f56 (w:List Vl.Data)(p:Vl.Pattern)(depth:Int)(v6:List Vl.Ty)(i:Nat):Option (Lo Bool Unit):=
 if i<v6.length then
  (v6[i]?)>>=fun x=>
  (p.kids[i]?)>>=fun x15=>
  (F.f55 w x x15 (IntKind.i64.wrap (depth-1)))>>=fun v17=>
  if v17=true then
   F.f56 w p depth v6 (i+1)
  else
   some (.ret false)
 else
  some (.go ())
 partial_fixpoint
end
mutual
def F.f57 (p:Vl.Pattern)(most:Int):Option (Int):=
 (F.f58 p most (1:Int) 0)>>=fun o'=>
 some o'
 partial_fixpoint
def F.f58 (p:Vl.Pattern)(most:Int)(n:Int)(i:Nat):Option (Int):=
 if i<p.kids.length then
  if n≤most then
   (p.kids[i]?)>>=fun x=>
   (F.f57 x (IntKind.i64.wrap (most-n)))>>=fun v=>
   F.f58 p most (IntKind.i64.wrap (n+v)) (i+1)
  else
   some n
 else
  some n
 partial_fixpoint
end
mutual
def F.f59 (out:List Vl.VarType)(w:List Vl.Data)(t:Vl.Ty)(p:Vl.Pattern):Option (List Vl.VarType):=
 if p.op=2 then
  if out.length+1≤67108864 then
   (F.f54 w t p)>>=fun v59=>
   (F.f62 w p v59 (out++[(⟨p.var,t⟩:Vl.VarType)]) 0)>>=fun o'86=>
   some o'86
  else none
 else
  if p.op=6 then
   if out.length+1≤67108864 then
    (F.f54 w t p)>>=fun v=>
    (F.f60 w p v (out++[(⟨p.var,t⟩:Vl.VarType)]) 0)>>=fun o'=>
    some o'
   else none
  else
   (F.f54 w t p)>>=fun v30=>
   (F.f61 w p v30 out 0)>>=fun o'57=>
   some o'57
 partial_fixpoint
def F.f60 (w:List Vl.Data)(p:Vl.Pattern)(v:List Vl.Ty)(out7:List Vl.VarType)(i:Nat):Option (List Vl.VarType):=
 if i<v.length then
  if i=0 then
   (v[i]?)>>=fun x22=>
   (p.kids[i]?)>>=fun x24=>
   (F.f59 out7 w x22 x24)>>=fun v26=>
   F.f60 w p v v26 (i+1)
  else
   if p.op=5 then
    some out7
   else
    (v[i]?)>>=fun x=>
    (p.kids[i]?)>>=fun x17=>
    (F.f59 out7 w x x17)>>=fun v19=>
    F.f60 w p v v19 (i+1)
 else
  some out7
 partial_fixpoint
def F.f61 (w:List Vl.Data)(p:Vl.Pattern)(v30:List Vl.Ty)(out32:List Vl.VarType)(i33:Nat):Option (List Vl.VarType):=
 if i33<v30.length then
  if i33=0 then
   (v30[i33]?)>>=fun x49=>
   (p.kids[i33]?)>>=fun x51=>
   (F.f59 out32 w x49 x51)>>=fun v53=>
   F.f61 w p v30 v53 (i33+1)
  else
   if p.op=5 then
    some out32
   else
    (v30[i33]?)>>=fun x42=>
    (p.kids[i33]?)>>=fun x44=>
    (F.f59 out32 w x42 x44)>>=fun v46=>
    F.f61 w p v30 v46 (i33+1)
 else
  some out32
 partial_fixpoint
def F.f62 (w:List Vl.Data)(p:Vl.Pattern)(v59:List Vl.Ty)(out61:List Vl.VarType)(i62:Nat):Option (List Vl.VarType):=
 if i62<v59.length then
  if i62=0 then
   (v59[i62]?)>>=fun x78=>
   (p.kids[i62]?)>>=fun x80=>
   (F.f59 out61 w x78 x80)>>=fun v82=>
   F.f62 w p v59 v82 (i62+1)
  else
   if p.op=5 then
    some out61
   else
    (v59[i62]?)>>=fun x71=>
    (p.kids[i62]?)>>=fun x73=>
    (F.f59 out61 w x71 x73)>>=fun v75=>
    F.f62 w p v59 v75 (i62+1)
 else
  some out61
 partial_fixpoint
end
def F.f63 (list:List Vl.VarType)(n:Int)(i:Nat):Option (Lo Int Unit):=
 if i<list.length then
  (list[i]?)>>=fun x=>
  if x.var=n then
   some (.ret (i:Int))
  else
   F.f63 list n (i+1)
 else
  some (.go ())
 partial_fixpoint
def F.f64 (list:List Vl.VarType)(n:Int):Option (Int):=
 (F.f63 list n 0)>>=fun o'=>
 match o' with
 | .ret r0=>some r0
 | .go sx=>
  some (-1:Int)
def F.f65 (a:List Vl.VarType)(b:List Vl.VarType)(i:Nat):Option (Lo Bool Unit):=
 if i<a.length then
  (a[i]?)>>=fun x=>
  (F.f64 b x.var)>>=fun v=>
  if v<0 then
   some (.ret false)
  else
   (at? b v)>>=fun x8=>
   if dec (eq2 (x8.type.data,x8.type.index) (x.type.data,x.type.index))=true then
    F.f65 a b (i+1)
   else
    some (.ret false)
 else
  some (.go ())
 partial_fixpoint
def F.f66 (a:List Vl.VarType)(b:List Vl.VarType):Option (Bool):=
 (F.f65 a b 0)>>=fun o'=>
 match o' with
 | .ret r0=>some r0
 | .go sx=>
  some (decide (a.length=b.length))
def F.f67 (v26:List Vl.VarType)(i28:Nat):Option (Lo Bool Unit):=
 if i28<v26.length then
  (v26[i28]?)>>=fun x32=>
  (F.f64 v26 x32.var)>>=fun v34=>
  if v34=(i28:Int)then
   F.f67 v26 (i28+1)
  else
   some (.ret false)
 else
  some (.go ())
 partial_fixpoint
mutual
def F.f68 (w:List Vl.Data)(t:Vl.Ty)(p:Vl.Pattern):Option (Bool):=
 (F.f54 w t p)>>=fun v=>
 (F.f69 w t p v 0)>>=fun o'=>
 match o' with
 | .ret r042=>some r042
 | .go sx=>
  if p.op=5 then
   (p.kids[0]?)>>=fun x16=>
   (F.f59 [] w t x16)>>=fun v18=>
   (p.kids[1]?)>>=fun x20=>
   (F.f59 [] w t x20)>>=fun v22=>
   (F.f66 v18 v22)>>=fun v24=>
   some v24
  else
   (F.f59 [] w t p)>>=fun v26=>
   (F.f67 v26 0)>>=fun o'40=>
   match o'40 with
   | .ret r0=>some r0
   | .go sx41=>
    some true
 partial_fixpoint
def F.f69 (w:List Vl.Data)(t:Vl.Ty)(p:Vl.Pattern)(v:List Vl.Ty)(i:Nat):Option (Lo Bool Unit):=
 if i<v.length then
  (v[i]?)>>=fun x=>
  (p.kids[i]?)>>=fun x6=>
  (F.f68 w x x6)>>=fun v8=>
  if v8=true then
   F.f69 w t p v (i+1)
  else
   some (.ret false)
 else
  some (.go ())
 partial_fixpoint
end
def F.f70 (w:List Vl.Data)(t:Vl.Ty)(p:Vl.Pattern):Option (Bool):=
 (F.f55 w t p (10:Int))>>=fun v=>
 if v=true then
  (F.f57 p (60:Int))>>=fun v4=>
  if v4≤60 then
   (F.f68 w t p)>>=fun v8=>
   some v8
  else
   some false
 else
  some false
def F.f71 (g:Vl.Guard)(vars:List Vl.VarType):Option (Bool):=
 if g.op=0 then
  if g.var=0 then
   some (decide (g.n=0))
  else
   some false
 else
  if g.op=1 then
   if g.n<0 then
    some false
   else
    if 9<g.n then
     some false
    else
     (F.f64 vars g.var)>>=fun v21=>
     if 0≤v21 then
      (at? vars v21)>>=fun x25=>
      some (decide (x25.type.data=(-1)))
     else
      some false
  else
   if g.op=2 then
    if g.n<0 then
     some false
    else
     if 9<g.n then
      some false
     else
      (F.f64 vars g.var)>>=fun v=>
      if 0≤v then
       (at? vars v)>>=fun x=>
       some (decide (x.type.data=(-1)))
      else
       some false
   else
    some false
def F.f72 (w:List Vl.Data)(t:Vl.Ty)(c':Vl.Clause):Option (Bool):=
 (F.f70 w t c'.pat)>>=fun v=>
 if v=true then
  (F.f59 [] w t c'.pat)>>=fun v4=>
  (F.f71 c'.guard v4)>>=fun v6=>
  some v6
 else
  some false
def F.f73 (w:List Vl.Data)(t:Vl.Ty)(c':Vl.Clause):Option (Bool):=
 (F.f42 w t)>>=fun v=>
 if v=true then
  (F.f72 w t c')>>=fun v4=>
  some v4
 else
  some false
mutual
def F.f74 (p:Vl.Pattern)(v:Int):Option (Bool):=
 (F.f75 p v 0)>>=fun o'=>
 match o' with
 | .ret r0=>some r0
 | .go sx=>
  if p.op=2 then
   some (decide (p.var=v))
  else
   if p.op=6 then
    some (decide (p.var=v))
   else
    some false
 partial_fixpoint
def F.f75 (p:Vl.Pattern)(v:Int)(i:Nat):Option (Lo Bool Unit):=
 if i<p.kids.length then
  (p.kids[i]?)>>=fun x=>
  (F.f74 x v)>>=fun v5=>
  if v5=true then
   some (.ret true)
  else
   F.f75 p v (i+1)
 else
  some (.go ())
 partial_fixpoint
end
mutual
def F.f76 (p:Vl.Pattern)(v:Int):Option (Bool):=
 (F.f77 p v 0)>>=fun o'=>
 match o' with
 | .ret r0=>some r0
 | .go sx=>
  some false
 partial_fixpoint
def F.f77 (p:Vl.Pattern)(v:Int)(i:Nat):Option (Lo Bool Unit):=
 if i<p.kids.length then
  if p.op=5 then
   (p.kids[i]?)>>=fun x=>
   (F.f74 x v)>>=fun v7=>
   if v7=true then
    some (.ret true)
   else
    (F.f76 x v)>>=fun v11=>
    if v11=true then
     some (.ret true)
    else
     F.f77 p v (i+1)
  else
   (p.kids[i]?)>>=fun x16=>
   (F.f76 x16 v)>>=fun v18=>
   if v18=true then
    some (.ret true)
   else
    F.f77 p v (i+1)
 else
  some (.go ())
 partial_fixpoint
end
mutual
def F.f78 (p:Vl.Pattern):Option (Vl.Pattern):=
 (F.f79 p [] 0)>>=fun o'=>
 some (⟨p.op,p.ctor,p.n,p.m,p.var,o'⟩:Vl.Pattern)
 partial_fixpoint
def F.f79 (p:Vl.Pattern)(out:List Vl.Pattern)(i:Nat):Option (List Vl.Pattern):=
 if i<p.kids.length then
  (p.kids[i]?)>>=fun x=>
  (F.f78 x)>>=fun v=>
  if out.length+1≤67108864 then
   F.f79 p (out++[v]) (i+1)
  else none
 else
  some out
 partial_fixpoint
end
def F.f80 (g:Vl.Guard):Option (Int×Int):=
 if g.op=1 then
  some ((0:Int),IntKind.i64.wrap (g.n-1))
 else
  some (g.n,g.n)
mutual
def F.f81 (a:Vl.Pattern)(b:Vl.Pattern):Option (Vl.Pattern×Bool):=
 if a.op=1 then
  some (b,true)
 else
  if b.op=1 then
   some (a,true)
  else
   if a.op=3 then
    if a.n<b.n then
     if b.m<a.m then
      some ((⟨(3:Int),(0:Int),b.n,b.m,(0:Int),[]⟩:Vl.Pattern),decide (b.n≤b.m))
     else
      some ((⟨(3:Int),(0:Int),b.n,a.m,(0:Int),[]⟩:Vl.Pattern),decide (b.n≤a.m))
    else
     if b.m<a.m then
      some ((⟨(3:Int),(0:Int),a.n,b.m,(0:Int),[]⟩:Vl.Pattern),decide (a.n≤b.m))
     else
      some ((⟨(3:Int),(0:Int),a.n,a.m,(0:Int),[]⟩:Vl.Pattern),decide (a.n≤a.m))
   else
    if a.ctor=b.ctor then
     (F.f82 a b [] 0)>>=fun o'=>
     match o' with
     | .ret r0=>some r0
     | .go sx=>
      some ((⟨(4:Int),a.ctor,(0:Int),(0:Int),(0:Int),sx⟩:Vl.Pattern),true)
    else
     some ((⟨(0:Int),(0:Int),(0:Int),(0:Int),(0:Int),[]⟩:Vl.Pattern),false)
 partial_fixpoint
def F.f82 (a:Vl.Pattern)(b:Vl.Pattern)(out:List Vl.Pattern)(i:Nat):Option (Lo (Vl.Pattern×Bool) (List Vl.Pattern)):=
 if i<a.kids.length then
  (a.kids[i]?)>>=fun x=>
  (b.kids[i]?)>>=fun x19=>
  (F.f81 x x19)>>=fun v=>
  if v.2=true then
   if out.length+1≤67108864 then
    F.f82 a b (out++[v.1]) (i+1)
   else none
  else
   some (.ret ((⟨(0:Int),(0:Int),(0:Int),(0:Int),(0:Int),[]⟩:Vl.Pattern),false))
 else
  some (.go out)
 partial_fixpoint
end
def F.f83 (p:Vl.Pattern)(n:Int)(m:Int):Option (Vl.Pattern×Bool):=
 if p.op=1 then
  some ((⟨(3:Int),(0:Int),n,m,(0:Int),[]⟩:Vl.Pattern),decide (n≤m))
 else
  if p.op=2 then
   some ((⟨(6:Int),(0:Int),(0:Int),(0:Int),p.var,[(⟨(3:Int),(0:Int),n,m,(0:Int),[]⟩:Vl.Pattern)]⟩:Vl.Pattern),decide (n≤m))
  else
   if p.op=6 then
    (p.kids[0]?)>>=fun x=>
    (F.f83 x n m)>>=fun v=>
    some ((⟨(6:Int),(0:Int),(0:Int),(0:Int),p.var,[v.1]⟩:Vl.Pattern),v.2)
   else
    if p.op=5 then
     (p.kids[0]?)>>=fun x11=>
     (F.f83 x11 n m)>>=fun v13=>
     (p.kids[1]?)>>=fun x15=>
     (F.f83 x15 n m)>>=fun v17=>
     if v13.2=true then
      if v17.2=true then
       some ((⟨(5:Int),(0:Int),(0:Int),(0:Int),(0:Int),[v13.1,v17.1]⟩:Vl.Pattern),true)
      else
       some (v13.1,true)
     else
      some (v17.1,v17.2)
    else
     (F.f81 p (⟨(3:Int),(0:Int),n,m,(0:Int),[]⟩:Vl.Pattern))>>=fun v23=>
     some (v23.1,v23.2)
 partial_fixpoint
mutual
def F.f84 (p:Vl.Pattern)(v:Int)(n:Int)(m:Int):Option (Vl.Pattern×Bool):=
 if p.op=2 then
  if p.var=v then
   (F.f83 p n m)>>=fun v39=>
   some (v39.1,v39.2)
  else
   (F.f87 p v n m [] 0)>>=fun o'55=>
   match o'55 with
   | .ret r057=>some r057
   | .go sx56=>
    some ((⟨p.op,p.ctor,p.n,p.m,p.var,sx56⟩:Vl.Pattern),true)
 else
  if p.op=6 then
   if p.var=v then
    (F.f83 p n m)>>=fun v7=>
    some (v7.1,v7.2)
   else
    (F.f85 p v n m [] 0)>>=fun o'=>
    match o' with
    | .ret r0=>some r0
    | .go sx=>
     some ((⟨p.op,p.ctor,p.n,p.m,p.var,sx⟩:Vl.Pattern),true)
  else
   (F.f86 p v n m [] 0)>>=fun o'34=>
   match o'34 with
   | .ret r036=>some r036
   | .go sx35=>
    some ((⟨p.op,p.ctor,p.n,p.m,p.var,sx35⟩:Vl.Pattern),true)
 partial_fixpoint
def F.f85 (p:Vl.Pattern)(v:Int)(n:Int)(m:Int)(out:List Vl.Pattern)(i:Nat):Option (Lo (Vl.Pattern×Bool) (List Vl.Pattern)):=
 if i<p.kids.length then
  (p.kids[i]?)>>=fun x=>
  (F.f84 x v n m)>>=fun v13=>
  if v13.2=true then
   if out.length+1≤67108864 then
    F.f85 p v n m (out++[v13.1]) (i+1)
   else none
  else
   some (.ret ((⟨(0:Int),(0:Int),(0:Int),(0:Int),(0:Int),[]⟩:Vl.Pattern),false))
 else
  some (.go out)
 partial_fixpoint
def F.f86 (p:Vl.Pattern)(v:Int)(n:Int)(m:Int)(out20:List Vl.Pattern)(i21:Nat):Option (Lo (Vl.Pattern×Bool) (List Vl.Pattern)):=
 if i21<p.kids.length then
  (p.kids[i21]?)>>=fun x25=>
  (F.f84 x25 v n m)>>=fun v27=>
  if v27.2=true then
   if out20.length+1≤67108864 then
    F.f86 p v n m (out20++[v27.1]) (i21+1)
   else none
  else
   some (.ret ((⟨(0:Int),(0:Int),(0:Int),(0:Int),(0:Int),[]⟩:Vl.Pattern),false))
 else
  some (.go out20)
 partial_fixpoint
def F.f87 (p:Vl.Pattern)(v:Int)(n:Int)(m:Int)(out41:List Vl.Pattern)(i42:Nat):Option (Lo (Vl.Pattern×Bool) (List Vl.Pattern)):=
 if i42<p.kids.length then
  (p.kids[i42]?)>>=fun x46=>
  (F.f84 x46 v n m)>>=fun v48=>
  if v48.2=true then
   if out41.length+1≤67108864 then
    F.f87 p v n m (out41++[v48.1]) (i42+1)
   else none
  else
   some (.ret ((⟨(0:Int),(0:Int),(0:Int),(0:Int),(0:Int),[]⟩:Vl.Pattern),false))
 else
  some (.go out41)
 partial_fixpoint
end
def F.f88 (c':Vl.Clause):Option (Vl.Clause×Bool):=
 if c'.guard.op=0 then
  (F.f78 c'.pat)>>=fun v=>
  some ((⟨v,(⟨(0:Int),(0:Int),(0:Int)⟩:Vl.Guard)⟩:Vl.Clause),true)
 else
  (F.f80 c'.guard)>>=fun v4=>
  (F.f84 c'.pat c'.guard.var v4.1 v4.2)>>=fun v6=>
  (F.f78 v6.1)>>=fun v8=>
  some ((⟨v8,(⟨(0:Int),(0:Int),(0:Int)⟩:Vl.Guard)⟩:Vl.Clause),v6.2)
def F.f89 (w:List Vl.Data)(t:Vl.Ty)(c':Vl.Clause):Option (Vl.Clause×Bool):=
 (F.f73 w t c')>>=fun v=>
 if v=true then
  if c'.guard.op=0 then
   (F.f88 c')>>=fun v18=>
   if v18.2=true then
    (F.f72 w t v18.1)>>=fun v22=>
    if v22=true then
     some (v18.1,true)
    else
     some ((⟨(⟨(0:Int),(0:Int),(0:Int),(0:Int),(0:Int),[]⟩:Vl.Pattern),(⟨(0:Int),(0:Int),(0:Int)⟩:Vl.Guard)⟩:Vl.Clause),false)
   else
    some ((⟨(⟨(0:Int),(0:Int),(0:Int),(0:Int),(0:Int),[]⟩:Vl.Pattern),(⟨(0:Int),(0:Int),(0:Int)⟩:Vl.Guard)⟩:Vl.Clause),false)
  else
   (F.f76 c'.pat c'.guard.var)>>=fun v6=>
   if v6=true then
    some ((⟨(⟨(0:Int),(0:Int),(0:Int),(0:Int),(0:Int),[]⟩:Vl.Pattern),(⟨(0:Int),(0:Int),(0:Int)⟩:Vl.Guard)⟩:Vl.Clause),false)
   else
    (F.f88 c')>>=fun v10=>
    if v10.2=true then
     (F.f72 w t v10.1)>>=fun v14=>
     if v14=true then
      some (v10.1,true)
     else
      some ((⟨(⟨(0:Int),(0:Int),(0:Int),(0:Int),(0:Int),[]⟩:Vl.Pattern),(⟨(0:Int),(0:Int),(0:Int)⟩:Vl.Guard)⟩:Vl.Clause),false)
    else
     some ((⟨(⟨(0:Int),(0:Int),(0:Int),(0:Int),(0:Int),[]⟩:Vl.Pattern),(⟨(0:Int),(0:Int),(0:Int)⟩:Vl.Guard)⟩:Vl.Clause),false)
 else
  some ((⟨(⟨(0:Int),(0:Int),(0:Int),(0:Int),(0:Int),[]⟩:Vl.Pattern),(⟨(0:Int),(0:Int),(0:Int)⟩:Vl.Guard)⟩:Vl.Clause),false)
def F.f90 (n:Int)(low:Int)(high:Int):Option (Bool):=
 if low≤n then
  some (decide (n≤high))
 else
  some false
def F.f91 (s:ByteArray)(i:Nat):Option (Lo Bool Unit):=
 if i<s.size then
  if byteAt s i<97 then
   some (.ret false)
  else
   if 122<byteAt s i then
    some (.ret false)
   else
    if i+1≤9223372036854775807 then
     F.f91 s (i+1)
    else none
 else
  some (.go ())
 partial_fixpoint
def F.f92 (s:ByteArray):Option (Bool):=
 (F.f90 (s.size:Int) (1:Int) (5:Int))>>=fun v=>
 if v=true then
  if 0<s.size then
   if byteAt s 0<65 then
    some false
   else
    if 90<byteAt s 0 then
     some false
    else
     (F.f91 s 1)>>=fun o'=>
     match o' with
     | .ret r0=>some r0
     | .go sx=>
      some true
  else none
 else
  some false
def F.f93 (w:List Vl.Data)(t:Vl.Ty):Option (Bool):=
 if dec (eq2 (t.data,t.index) ((-1),0))=true then
  some true
 else
  (F.f90 t.data (0:Int) (IntKind.i64.wrap ((w.length:Int) -1)))>>=fun v=>
  if v=true then
   (F.f90 t.index (-1:Int) (3:Int))>>=fun v6=>
   some v6
  else
   some false
def F.f94 (t:Vl.Ty)(a1:List Vl.Data):Option (Bool):=
 (F.f93 a1 t)>>=fun v=>
 some (!v)
def F.f95 (s:List Vl.Ty)(k0:List Vl.Data)(i:Nat):Option (Lo Int Unit):=
 if i<s.length then
  (s[i]?)>>=fun x=>
  (F.f94 x k0)>>=fun v=>
  if v=true then
   some (.ret (i:Int))
  else
   F.f95 s k0 (i+1)
 else
  some (.go ())
 partial_fixpoint
def F.f96 (s:List Vl.Ty)(k0:List Vl.Data):Option (Int):=
 (F.f95 s k0 0)>>=fun o'=>
 match o' with
 | .ret r0=>some r0
 | .go sx=>
  some (-1:Int)
def F.f97 (s:List Vl.Ty)(k0:List Vl.Data):Option (Bool):=
 (F.f96 s k0)>>=fun v=>
 some (decide (0≤v))
def F.f98 (w:List Vl.Data)(c':Vl.Ctor):Option (Bool):=
 (F.f92 c'.name)>>=fun v=>
 if v=true then
  if c'.args.length≤3 then
   (F.f90 c'.index (0:Int) (3:Int))>>=fun v7=>
   if v7=true then
    (F.f97 c'.args w)>>=fun v11=>
    some (!v11)
   else
    some false
  else
   some false
 else
  some false
def F.f99 (w:List Vl.Data)(met4:List ByteArray)(i:Nat)(x:Vl.Data)(met26:List ByteArray)(i27:Nat):Option (Lo Bool (List ByteArray)):=
 if i27<x.ctors.length then
  (x.ctors[i27]?)>>=fun x31=>
  (F.f98 w x31)>>=fun v33=>
  if v33=true then
   if dec (x31.name∈met26)=true then
    some (.ret false)
   else
    F.f99 w met4 i x (msIns met26 x31.name) (i27+1)
  else
   some (.ret false)
 else
  some (.go met26)
 partial_fixpoint
def F.f100 (w:List Vl.Data)(met:List ByteArray)(met4:List ByteArray)(i:Nat):Option (Lo Bool ((List ByteArray)×(List ByteArray))):=
 if i<w.length then
  (w[i]?)>>=fun x=>
  if x.name.size=1 then
   if 0<x.name.size then
    if byteAt x.name 0<65 then
     some (.ret false)
    else
     if 90<byteAt x.name 0 then
      some (.ret false)
     else
      if x.name.toList=(⟨#[73]⟩:ByteArray).toList then
       some (.ret false)
      else
       if dec (x.name∈met4)=true then
        some (.ret false)
       else
        (F.f90 (x.ctors.length:Int) (1:Int) (4:Int))>>=fun v=>
        if v=true then
         (F.f99 w met4 i x met 0)>>=fun o'=>
         match o' with
         | .ret r0=>some (.ret r0)
         | .go sx=>
          if i+1≤9223372036854775807 then
           F.f100 w sx (msIns met4 x.name) (i+1)
          else none
        else
         some (.ret false)
   else none
  else
   some (.ret false)
 else
  some (.go (met,met4))
 partial_fixpoint
def F.f101 (w:List Vl.Data):Option (Bool):=
 if 4<w.length then
  some false
 else
  (F.f100 w [] [] 0)>>=fun o'44=>
  match o'44 with
  | .ret r046=>some r046
  | .go sx45=>
   some true
def F.f102 (w:List Vl.Data)(t:Vl.Ty):Option (Bool):=
 if dec (eq2 (t.data,t.index) ((-1),0))=true then
  some true
 else
  (F.f90 t.data (0:Int) (IntKind.i64.wrap ((w.length:Int) -1)))>>=fun v=>
  if v=true then
   (F.f90 t.index (0:Int) (3:Int))>>=fun v6=>
   some v6
  else
   some false
def F.f103 (w:List Vl.Data)(t:Vl.Ty):Option (Bool):=
 (F.f101 w)>>=fun v=>
 if v=true then
  (F.f102 w t)>>=fun v4=>
  some v4
 else
  some false
def F.f104 (p:Vl.Pattern)(ctor:Bool)(numbers:Bool)(variable':Bool)(kids:Int):Option (Bool):=
 if ctor=true then
  if numbers=true then
   if variable'=true then
    some (decide ((p.kids.length:Int)=kids))
   else
    if p.var=0 then
     some (decide ((p.kids.length:Int)=kids))
    else
     some false
  else
   if p.n=0 then
    if p.m=0 then
     if variable'=true then
      some (decide ((p.kids.length:Int)=kids))
     else
      if p.var=0 then
       some (decide ((p.kids.length:Int)=kids))
      else
       some false
    else
     some false
   else
    some false
 else
  if p.ctor=0 then
   if numbers=true then
    if variable'=true then
     some (decide ((p.kids.length:Int)=kids))
    else
     if p.var=0 then
      some (decide ((p.kids.length:Int)=kids))
     else
      some false
   else
    if p.n=0 then
     if p.m=0 then
      if variable'=true then
       some (decide ((p.kids.length:Int)=kids))
      else
       if p.var=0 then
        some (decide ((p.kids.length:Int)=kids))
       else
        some false
     else
      some false
    else
     some false
  else
   some false
def F.f105 (v:Int):Option (Bool):=
 (F.f90 v (0:Int) (5:Int))>>=fun v1=>
 some v1
def F.f106 (t:Vl.Ty)(x:Vl.Data)(i:Nat)(out:List Int):Option (List Int):=
 if i<x.ctors.length then
  (x.ctors[i]?)>>=fun x7=>
  if t.index=0 then
   if out.length+1≤67108864 then
    F.f106 t x (i+1) (out++[(i:Int)])
   else none
  else
   if x7.index=0 then
    if out.length+1≤67108864 then
     F.f106 t x (i+1) (out++[(i:Int)])
    else none
   else
    if x7.index=t.index then
     if out.length+1≤67108864 then
      F.f106 t x (i+1) (out++[(i:Int)])
     else none
    else
     F.f106 t x (i+1) out
 else
  some out
 partial_fixpoint
def F.f107 (w:List Vl.Data)(t:Vl.Ty):Option (List Int):=
 if t.data=(-1)then
  some []
 else
  (at? w t.data)>>=fun x=>
  (F.f106 t x 0 [])>>=fun o'=>
  some o'
def F.f108 (s:List Int)(v:Int)(i:Nat):Option (Lo Int Unit):=
 if i<s.length then
  (s[i]?)>>=fun x=>
  if v=x then
   some (.ret (i:Int))
  else
   F.f108 s v (i+1)
 else
  some (.go ())
 partial_fixpoint
def F.f109 (s:List Int)(v:Int):Option (Int):=
 (F.f108 s v 0)>>=fun o'=>
 match o' with
 | .ret r0=>some r0
 | .go sx=>
  some (-1:Int)
def F.f110 (s:List Int)(v:Int):Option (Bool):=
 (F.f109 s v)>>=fun v1=>
 some (decide (0≤v1))
def F.f111 (t:Vl.Ty)(x2:Vl.Ctor)(i:Nat)(out:List Vl.Ty):Option (List Vl.Ty):=
 if i<x2.args.length then
  (x2.args[i]?)>>=fun x9=>
  if x9.index=(-1)then
   if out.length+1≤67108864 then
    F.f111 t x2 (i+1) (out++[(⟨x9.data,t.index⟩:Vl.Ty)])
   else none
  else
   if out.length+1≤67108864 then
    F.f111 t x2 (i+1) (out++[x9])
   else none
 else
  some out
 partial_fixpoint
def F.f112 (x2:Vl.Ctor)(i18:Nat)(out19:List Vl.Ty):Option (List Vl.Ty):=
 if i18<x2.args.length then
  (x2.args[i18]?)>>=fun x23=>
  if x23.index=(-1)then
   if out19.length+1≤67108864 then
    F.f112 x2 (i18+1) (out19++[(⟨x23.data,x2.index⟩:Vl.Ty)])
   else none
  else
   if out19.length+1≤67108864 then
    F.f112 x2 (i18+1) (out19++[x23])
   else none
 else
  some out19
 partial_fixpoint
def F.f113 (w:List Vl.Data)(t:Vl.Ty)(ctor:Int):Option (List Vl.Ty):=
 (at? w t.data)>>=fun x=>
 (at? x.ctors ctor)>>=fun x2=>
 if x2.index=0 then
  (F.f111 t x2 0 [])>>=fun o'=>
  some o'
 else
  (F.f112 x2 0 [])>>=fun o'32=>
  some o'32
def F.f114 (w:List Vl.Data)(t:Vl.Ty)(p:Vl.Pattern):Option ((List Vl.Ty)×Bool):=
 if p.op=1 then
  (F.f104 p false false false (0:Int))>>=fun v=>
  some ([],v)
 else
  if p.op=2 then
   (F.f104 p false false true (0:Int))>>=fun v6=>
   if v6=true then
    (F.f105 p.var)>>=fun v10=>
    some ([],v10)
   else
    some ([],false)
  else
   if p.op=3 then
    if t.data=(-1)then
     (F.f104 p false true false (0:Int))>>=fun v16=>
     if v16=true then
      if 0≤p.n then
       if p.n≤p.m then
        some ([],decide (p.m≤9))
       else
        some ([],false)
      else
       some ([],false)
     else
      some ([],false)
    else
     some ([],false)
   else
    if p.op=4 then
     (F.f107 w t)>>=fun v26=>
     (F.f110 v26 p.ctor)>>=fun v28=>
     if v28=true then
      (F.f113 w t p.ctor)>>=fun v32=>
      (F.f104 p true false false (v32.length:Int))>>=fun v34=>
      some (v32,v34)
     else
      some ([],false)
    else
     if p.op=5 then
      (F.f104 p false false false (2:Int))>>=fun v38=>
      some ([t,t],v38)
     else
      if p.op=6 then
       (F.f104 p false false true (1:Int))>>=fun v42=>
       if v42=true then
        (F.f105 p.var)>>=fun v46=>
        some ([t],v46)
       else
        some ([t],false)
      else
       some ([],false)
def F.f115 (s:List Vl.VarType)(v:Vl.VarType)(i:Nat):Option (Lo Int Unit):=
 if i<s.length then
  (s[i]?)>>=fun x=>
  if dec (eq3 (v.var,v.type.data,v.type.index) (x.var,x.type.data,x.type.index))=true then
   some (.ret (i:Int))
  else
   F.f115 s v (i+1)
 else
  some (.go ())
 partial_fixpoint
def F.f116 (s:List Vl.VarType)(v:Vl.VarType):Option (Int):=
 (F.f115 s v 0)>>=fun o'=>
 match o' with
 | .ret r0=>some r0
 | .go sx=>
  some (-1:Int)
def F.f117 (s:List Vl.VarType)(v:Vl.VarType):Option (Bool):=
 (F.f116 s v)>>=fun v1=>
 some (decide (0≤v1))
def F.f118 (v:Vl.VarType)(a1:List Vl.VarType):Option (Bool):=
 (F.f117 a1 v)>>=fun v1=>
 some (!v1)
def F.f119 (s:List Vl.VarType)(k0:List Vl.VarType)(i:Nat):Option (Lo Int Unit):=
 if i<s.length then
  (s[i]?)>>=fun x=>
  (F.f118 x k0)>>=fun v=>
  if v=true then
   some (.ret (i:Int))
  else
   F.f119 s k0 (i+1)
 else
  some (.go ())
 partial_fixpoint
def F.f120 (s:List Vl.VarType)(k0:List Vl.VarType):Option (Int):=
 (F.f119 s k0 0)>>=fun o'=>
 match o' with
 | .ret r0=>some r0
 | .go sx=>
  some (-1:Int)
def F.f121 (s:List Vl.VarType)(k0:List Vl.VarType):Option (Bool):=
 (F.f120 s k0)>>=fun v=>
 some (decide (0≤v))
def F.f122 (a:List Vl.VarType)(b:List Vl.VarType):Option (Bool):=
 if a.length=b.length then
  (F.f121 a b)>>=fun v=>
  some (!v)
 else
  some false
def F.f123 (sx:Int×(List Vl.VarType))(set':Nat→Bool)(i37:Nat):Option (Lo ((List Vl.VarType)×Bool×Int) Unit):=
 if i37<sx.2.length then
  (sx.2[i37]?)>>=fun x41=>
  if 0≤x41.var∧x41.var.toNat<6 then
   if set' x41.var.toNat=true then
    some (.ret ([],false,sx.1))
   else
    F.f123 sx (updF set' x41.var.toNat true) (i37+1)
  else none
 else
  some (.go ())
 partial_fixpoint
def F.f124 (sx81:Int×(List Vl.VarType))(set'82:Nat→Bool)(i83:Nat):Option (Lo ((List Vl.VarType)×Bool×Int) Unit):=
 if i83<sx81.2.length then
  (sx81.2[i83]?)>>=fun x87=>
  if 0≤x87.var∧x87.var.toNat<6 then
   if set'82 x87.var.toNat=true then
    some (.ret ([],false,sx81.1))
   else
    F.f124 sx81 (updF set'82 x87.var.toNat true) (i83+1)
  else none
 else
  some (.go ())
 partial_fixpoint
def F.f125 (sx128:Int×(List Vl.VarType))(set'129:Nat→Bool)(i130:Nat):Option (Lo ((List Vl.VarType)×Bool×Int) Unit):=
 if i130<sx128.2.length then
  (sx128.2[i130]?)>>=fun x134=>
  if 0≤x134.var∧x134.var.toNat<6 then
   if set'129 x134.var.toNat=true then
    some (.ret ([],false,sx128.1))
   else
    F.f125 sx128 (updF set'129 x134.var.toNat true) (i130+1)
  else none
 else
  some (.go ())
 partial_fixpoint
mutual
def F.f126 (w:List Vl.Data)(t:Vl.Ty)(p:Vl.Pattern)(deep:Int)(count:Int):Option ((List Vl.VarType)×Bool×Int):=
 if 60<IntKind.i64.wrap (count+1)then
  some ([],false,IntKind.i64.wrap (count+1))
 else
  if 10<deep then
   some ([],false,IntKind.i64.wrap (count+1))
  else
   (F.f114 w t p)>>=fun v=>
   if v.2=true then
    if p.op=2 then
     (F.f129 w p deep v (IntKind.i64.wrap (count+1)) [(⟨p.var,t⟩:Vl.VarType)] 0)>>=fun o'127=>
     match o'127 with
     | .ret r0144=>some r0144
     | .go sx128=>
      (F.f125 sx128 (fun _=>false) 0)>>=fun o'141=>
      match o'141 with
      | .ret r0143=>some r0143
      | .go sx142=>
       some (sx128.2,true,sx128.1)
    else
     if p.op=6 then
      (F.f127 w p deep v (IntKind.i64.wrap (count+1)) [(⟨p.var,t⟩:Vl.VarType)] 0)>>=fun o'=>
      match o' with
      | .ret r050=>some r050
      | .go sx=>
       (F.f123 sx (fun _=>false) 0)>>=fun o'48=>
       match o'48 with
       | .ret r0=>some r0
       | .go sx49=>
        some (sx.2,true,sx.1)
     else
      (F.f128 w p deep v (IntKind.i64.wrap (count+1)) [] 0)>>=fun o'80=>
      match o'80 with
      | .ret r097=>some r097
      | .go sx81=>
       (F.f124 sx81 (fun _=>false) 0)>>=fun o'94=>
       match o'94 with
       | .ret r096=>some r096
       | .go sx95=>
        some (sx81.2,true,sx81.1)
   else
    some ([],false,IntKind.i64.wrap (count+1))
 partial_fixpoint
def F.f127 (w:List Vl.Data)(p:Vl.Pattern)(deep:Int)(v:(List Vl.Ty)×Bool)(z:Int)(vars:List Vl.VarType)(i:Nat):Option (Lo ((List Vl.VarType)×Bool×Int) (Int×(List Vl.VarType))):=
 if i<p.kids.length then
  (p.kids[i]?)>>=fun x=>
  (v.1[i]?)>>=fun x16=>
  (F.f126 w x16 x (IntKind.i64.wrap (deep+1)) z)>>=fun v18=>
  if v18.2.1=true then
   if p.op=5 then
    if i=1 then
     (F.f122 vars v18.1)>>=fun v27=>
     if v27=true then
      F.f127 w p deep v v18.2.2 vars (i+1)
     else
      some (.ret ([],false,v18.2.2))
    else
     if vars.length+v18.1.length≤67108864 then
      F.f127 w p deep v v18.2.2 (vars++v18.1) (i+1)
     else none
   else
    if vars.length+v18.1.length≤67108864 then
     F.f127 w p deep v v18.2.2 (vars++v18.1) (i+1)
    else none
  else
   some (.ret ([],false,v18.2.2))
 else
  some (.go (z,vars))
 partial_fixpoint
def F.f128 (w:List Vl.Data)(p:Vl.Pattern)(deep:Int)(v:(List Vl.Ty)×Bool)(z51:Int)(vars52:List Vl.VarType)(i53:Nat):Option (Lo ((List Vl.VarType)×Bool×Int) (Int×(List Vl.VarType))):=
 if i53<p.kids.length then
  (p.kids[i53]?)>>=fun x57=>
  (v.1[i53]?)>>=fun x59=>
  (F.f126 w x59 x57 (IntKind.i64.wrap (deep+1)) z51)>>=fun v61=>
  if v61.2.1=true then
   if p.op=5 then
    if i53=1 then
     (F.f122 vars52 v61.1)>>=fun v70=>
     if v70=true then
      F.f128 w p deep v v61.2.2 vars52 (i53+1)
     else
      some (.ret ([],false,v61.2.2))
    else
     if vars52.length+v61.1.length≤67108864 then
      F.f128 w p deep v v61.2.2 (vars52++v61.1) (i53+1)
     else none
   else
    if vars52.length+v61.1.length≤67108864 then
     F.f128 w p deep v v61.2.2 (vars52++v61.1) (i53+1)
    else none
  else
   some (.ret ([],false,v61.2.2))
 else
  some (.go (z51,vars52))
 partial_fixpoint
def F.f129 (w:List Vl.Data)(p:Vl.Pattern)(deep:Int)(v:(List Vl.Ty)×Bool)(z98:Int)(vars99:List Vl.VarType)(i100:Nat):Option (Lo ((List Vl.VarType)×Bool×Int) (Int×(List Vl.VarType))):=
 if i100<p.kids.length then
  (p.kids[i100]?)>>=fun x104=>
  (v.1[i100]?)>>=fun x106=>
  (F.f126 w x106 x104 (IntKind.i64.wrap (deep+1)) z98)>>=fun v108=>
  if v108.2.1=true then
   if p.op=5 then
    if i100=1 then
     (F.f122 vars99 v108.1)>>=fun v117=>
     if v117=true then
      F.f129 w p deep v v108.2.2 vars99 (i100+1)
     else
      some (.ret ([],false,v108.2.2))
    else
     if vars99.length+v108.1.length≤67108864 then
      F.f129 w p deep v v108.2.2 (vars99++v108.1) (i100+1)
     else none
   else
    if vars99.length+v108.1.length≤67108864 then
     F.f129 w p deep v v108.2.2 (vars99++v108.1) (i100+1)
    else none
  else
   some (.ret ([],false,v108.2.2))
 else
  some (.go (z98,vars99))
 partial_fixpoint
end
def F.f130 (w:List Vl.Data)(t:Vl.Ty)(p:Vl.Pattern):Option ((List Vl.VarType)×Bool):=
 (F.f126 w t p (1:Int) (0:Int))>>=fun v=>
 some (v.1,v.2.1)
def F.f131 (g:Vl.Guard)(vars:List Vl.VarType):Option (Bool):=
 if g.op=0 then
  some (dec (eq3 (g.op,g.var,g.n) (0,0,0)))
 else
  (F.f90 g.op (1:Int) (2:Int))>>=fun v=>
  if v=true then
   (F.f90 g.n (0:Int) (9:Int))>>=fun v6=>
   if v6=true then
    (F.f117 vars (⟨g.var,(⟨(-1:Int),(0:Int)⟩:Vl.Ty)⟩:Vl.VarType))>>=fun v10=>
    some v10
   else
    some false
  else
   some false
def F.f132 (w:List Vl.Data)(t:Vl.Ty)(c':Vl.Clause):Option (Bool):=
 (F.f130 w t c'.pat)>>=fun v=>
 if v.2=true then
  (F.f131 c'.guard v.1)>>=fun v4=>
  some v4
 else
  some false
def F.f133 (w:List Vl.Data)(t:Vl.Ty)(c':Vl.Clause):Option (Bool):=
 (F.f103 w t)>>=fun v=>
 if v=true then
  (F.f132 w t c')>>=fun v4=>
  some v4
 else
  some false
mutual
def F.f134 (p:Vl.Pattern):Option (Vl.Pattern):=
 (F.f135 p [] 0)>>=fun o'=>
 some (⟨p.op,p.ctor,p.n,p.m,p.var,o'⟩:Vl.Pattern)
 partial_fixpoint
def F.f135 (p:Vl.Pattern)(out:List Vl.Pattern)(i:Nat):Option (List Vl.Pattern):=
 if i<p.kids.length then
  (p.kids[i]?)>>=fun x=>
  (F.f134 x)>>=fun v=>
  if out.length+1≤67108864 then
   F.f135 p (out++[v]) (i+1)
  else none
 else
  some out
 partial_fixpoint
end
def F.f136 (p:Vl.Pattern)(n:Int)(m:Int):Option (Vl.Pattern×Bool):=
 if p.op=1 then
  some ((⟨(3:Int),(0:Int),n,m,(0:Int),[]⟩:Vl.Pattern),true)
 else
  if p.op=2 then
   some ((⟨(6:Int),(0:Int),(0:Int),(0:Int),p.var,[(⟨(3:Int),(0:Int),n,m,(0:Int),[]⟩:Vl.Pattern)]⟩:Vl.Pattern),true)
  else
   if p.op=3 then
    some ((⟨(3:Int),(0:Int),if n>p.n then n else p.n,if m<p.m then m else p.m,(0:Int),[]⟩:Vl.Pattern),decide ((if n>p.n then n else p.n)≤(if m<p.m then m else p.m)))
   else
    if p.op=6 then
     (p.kids[0]?)>>=fun x=>
     (F.f136 x n m)>>=fun v=>
     some ((⟨(6:Int),(0:Int),(0:Int),(0:Int),p.var,[v.1]⟩:Vl.Pattern),v.2)
    else
     (p.kids[0]?)>>=fun x11=>
     (F.f136 x11 n m)>>=fun v13=>
     (p.kids[1]?)>>=fun x15=>
     (F.f136 x15 n m)>>=fun v17=>
     if v13.2=true then
      if v17.2=true then
       some ((⟨(5:Int),(0:Int),(0:Int),(0:Int),(0:Int),[v13.1,v17.1]⟩:Vl.Pattern),true)
      else
       some (v13.1,true)
     else
      some (v17.1,v17.2)
 partial_fixpoint
def F.f137 (s:List Vl.Pattern):Option (List Vl.Pattern):=
 if s.length≤67108864 then
  some s
 else none
mutual
def F.f138 (p:Vl.Pattern)(v:Int)(n:Int)(m:Int):Option (Vl.Pattern×Bool×Bool):=
 if p.op=2 then
  if p.var=v then
   (F.f136 p n m)>>=fun v46=>
   some (v46.1,true,v46.2)
  else
   (F.f141 p v n m 0)>>=fun o'64=>
   match o'64 with
   | .ret r066=>some r066
   | .go sx65=>
    some (p,false,false)
 else
  if p.op=6 then
   if p.var=v then
    (F.f136 p n m)>>=fun v7=>
    some (v7.1,true,v7.2)
   else
    (F.f139 p v n m 0)>>=fun o'=>
    match o' with
    | .ret r0=>some r0
    | .go sx=>
     some (p,false,false)
  else
   if p.op=5 then
    some (p,false,false)
   else
    (F.f140 p v n m 0)>>=fun o'41=>
    match o'41 with
    | .ret r043=>some r043
    | .go sx42=>
     some (p,false,false)
 partial_fixpoint
def F.f139 (p:Vl.Pattern)(v:Int)(n:Int)(m:Int)(i:Nat):Option (Lo (Vl.Pattern×Bool×Bool) Unit):=
 if i<p.kids.length then
  (p.kids[i]?)>>=fun x=>
  (F.f138 x v n m)>>=fun v13=>
  if v13.2.1=true then
   (F.f137 p.kids)>>=fun v17=>
   (v17[i]?)>>=fun x19=>
   some (.ret ((⟨p.op,p.ctor,p.n,p.m,p.var,v17.set i v13.1⟩:Vl.Pattern),true,v13.2.2))
  else
   F.f139 p v n m (i+1)
 else
  some (.go ())
 partial_fixpoint
def F.f140 (p:Vl.Pattern)(v:Int)(n:Int)(m:Int)(i25:Nat):Option (Lo (Vl.Pattern×Bool×Bool) Unit):=
 if i25<p.kids.length then
  (p.kids[i25]?)>>=fun x29=>
  (F.f138 x29 v n m)>>=fun v31=>
  if v31.2.1=true then
   (F.f137 p.kids)>>=fun v35=>
   (v35[i25]?)>>=fun x37=>
   some (.ret ((⟨p.op,p.ctor,p.n,p.m,p.var,v35.set i25 v31.1⟩:Vl.Pattern),true,v31.2.2))
  else
   F.f140 p v n m (i25+1)
 else
  some (.go ())
 partial_fixpoint
def F.f141 (p:Vl.Pattern)(v:Int)(n:Int)(m:Int)(i48:Nat):Option (Lo (Vl.Pattern×Bool×Bool) Unit):=
 if i48<p.kids.length then
  (p.kids[i48]?)>>=fun x52=>
  (F.f138 x52 v n m)>>=fun v54=>
  if v54.2.1=true then
   (F.f137 p.kids)>>=fun v58=>
   (v58[i48]?)>>=fun x60=>
   some (.ret ((⟨p.op,p.ctor,p.n,p.m,p.var,v58.set i48 v54.1⟩:Vl.Pattern),true,v54.2.2))
  else
   F.f141 p v n m (i48+1)
 else
  some (.go ())
 partial_fixpoint
end
def F.f142 (c':Vl.Clause):Option (Vl.Pattern×Bool×Bool):=
 if c'.guard.op=2 then
  (F.f138 c'.pat c'.guard.var c'.guard.n c'.guard.n)>>=fun v=>
  if v.2.2=true then
   some (v.1,v.2.1,decide (c'.guard.n≤c'.guard.n))
  else
   some (v.1,v.2.1,false)
 else
  (F.f138 c'.pat c'.guard.var (0:Int) (IntKind.i64.wrap (c'.guard.n-1)))>>=fun v6=>
  if v6.2.2=true then
   some (v6.1,v6.2.1,decide (0≤IntKind.i64.wrap (c'.guard.n-1)))
  else
   some (v6.1,v6.2.1,false)
def F.f143 (w:List Vl.Data)(t:Vl.Ty)(p:Vl.Pattern):Option (Bool):=
 (F.f130 w t p)>>=fun v=>
 some v.2
def F.f144 (w:List Vl.Data)(t:Vl.Ty)(c':Vl.Clause):Option (Vl.Clause×Bool):=
 (F.f133 w t c')>>=fun v=>
 if v=true then
  if c'.guard.op=0 then
   (F.f134 c'.pat)>>=fun v6=>
   some ((⟨v6,(⟨(0:Int),(0:Int),(0:Int)⟩:Vl.Guard)⟩:Vl.Clause),true)
  else
   (F.f142 c')>>=fun v8=>
   if v8.2.1=true then
    if v8.2.2=true then
     (F.f143 w t v8.1)>>=fun v14=>
     if v14=true then
      (F.f134 v8.1)>>=fun v18=>
      some ((⟨v18,(⟨(0:Int),(0:Int),(0:Int)⟩:Vl.Guard)⟩:Vl.Clause),true)
     else
      some ((⟨(⟨(0:Int),(0:Int),(0:Int),(0:Int),(0:Int),[]⟩:Vl.Pattern),(⟨(0:Int),(0:Int),(0:Int)⟩:Vl.Guard)⟩:Vl.Clause),false)
    else
     some ((⟨(⟨(0:Int),(0:Int),(0:Int),(0:Int),(0:Int),[]⟩:Vl.Pattern),(⟨(0:Int),(0:Int),(0:Int)⟩:Vl.Guard)⟩:Vl.Clause),false)
   else
    some ((⟨(⟨(0:Int),(0:Int),(0:Int),(0:Int),(0:Int),[]⟩:Vl.Pattern),(⟨(0:Int),(0:Int),(0:Int)⟩:Vl.Guard)⟩:Vl.Clause),false)
 else
  some ((⟨(⟨(0:Int),(0:Int),(0:Int),(0:Int),(0:Int),[]⟩:Vl.Pattern),(⟨(0:Int),(0:Int),(0:Int)⟩:Vl.Guard)⟩:Vl.Clause),false)
mutual
def F.f145 (a:Vl.Pattern)(b:Vl.Pattern):Option (Bool):=
 if a.op=b.op then
  if a.ctor=b.ctor then
   if a.n=b.n then
    if a.m=b.m then
     if a.var=b.var then
      (F.f146 a.kids b.kids)>>=fun v=>
      if v=true then
       some true
      else
       some false
     else
      some false
    else
     some false
   else
    some false
  else
   some false
 else
  some false
 partial_fixpoint
def F.f146 (a:List Vl.Pattern)(b:List Vl.Pattern):Option (Bool):=
 if a.length=b.length then
  (F.f147 a b 0)>>=fun o'=>
  match o' with
  | .ret r0=>some r0
  | .go sx=>
   some true
 else
  some false
 partial_fixpoint
def F.f147 (a:List Vl.Pattern)(b:List Vl.Pattern)(i:Nat):Option (Lo Bool Unit):=
 if i<a.length then
  (a[i]?)>>=fun x=>
  (b[i]?)>>=fun x8=>
  (F.f145 x x8)>>=fun v=>
  if v=true then
   F.f147 a b (i+1)
  else
   some (.ret false)
 else
  some (.go ())
 partial_fixpoint
end
def F.f148 (a:Vl.Guard)(b:Vl.Guard):Option (Bool):=
 if a.op=b.op then
  if a.var=b.var then
   if a.n=b.n then
    some true
   else
    some false
  else
   some false
 else
  some false
def F.f149 (a:Vl.Clause)(b:Vl.Clause):Option (Bool):=
 (F.f145 a.pat b.pat)>>=fun v=>
 if v=true then
  (F.f148 a.guard b.guard)>>=fun v4=>
  if v4=true then
   some true
  else
   some false
 else
  some false
def F.f150 (a:Vl.Ty)(b:Vl.Ty):Option (Bool):=
 if a.data=b.data then
  if a.index=b.index then
   some true
  else
   some false
 else
  some false
def F.f151 (a:List Vl.Ty)(b:List Vl.Ty)(i:Nat):Option (Lo Bool Unit):=
 if i<a.length then
  (a[i]?)>>=fun x=>
  (b[i]?)>>=fun x8=>
  (F.f150 x x8)>>=fun v=>
  if v=true then
   F.f151 a b (i+1)
  else
   some (.ret false)
 else
  some (.go ())
 partial_fixpoint
def F.f152 (a:List Vl.Ty)(b:List Vl.Ty):Option (Bool):=
 if a.length=b.length then
  (F.f151 a b 0)>>=fun o'=>
  match o' with
  | .ret r0=>some r0
  | .go sx=>
   some true
 else
  some false
def F.f153 (a:Vl.Ctor)(b:Vl.Ctor):Option (Bool):=
 if a.name.toList=b.name.toList then
  (F.f152 a.args b.args)>>=fun v=>
  if v=true then
   if a.index=b.index then
    some true
   else
    some false
  else
   some false
 else
  some false
def F.f154 (a:List Vl.Ctor)(b:List Vl.Ctor)(i:Nat):Option (Lo Bool Unit):=
 if i<a.length then
  (a[i]?)>>=fun x=>
  (b[i]?)>>=fun x8=>
  (F.f153 x x8)>>=fun v=>
  if v=true then
   F.f154 a b (i+1)
  else
   some (.ret false)
 else
  some (.go ())
 partial_fixpoint
def F.f155 (a:List Vl.Ctor)(b:List Vl.Ctor):Option (Bool):=
 if a.length=b.length then
  (F.f154 a b 0)>>=fun o'=>
  match o' with
  | .ret r0=>some r0
  | .go sx=>
   some true
 else
  some false
def F.f156 (a:Vl.Data)(b:Vl.Data):Option (Bool):=
 if a.name.toList=b.name.toList then
  (F.f155 a.ctors b.ctors)>>=fun v=>
  if v=true then
   some true
  else
   some false
 else
  some false
def F.f157 (a:List Vl.Data)(b:List Vl.Data)(i:Nat):Option (Lo Bool Unit):=
 if i<a.length then
  (a[i]?)>>=fun x=>
  (b[i]?)>>=fun x8=>
  (F.f156 x x8)>>=fun v=>
  if v=true then
   F.f157 a b (i+1)
  else
   some (.ret false)
 else
  some (.go ())
 partial_fixpoint
def F.f158 (a:List Vl.Data)(b:List Vl.Data):Option (Bool):=
 if a.length=b.length then
  (F.f157 a b 0)>>=fun o'=>
  match o' with
  | .ret r0=>some r0
  | .go sx=>
   some true
 else
  some false
mutual
def F.f159 (a:List Vl.Pattern)(k:Int):Option (Int):=
 (F.f160 a k 0)>>=fun o'=>
 match o' with
 | .ret r0=>some r0
 | .go sx=>
  some sx
 partial_fixpoint
def F.f160 (a:List Vl.Pattern)(k1:Int)(i:Nat):Option (Lo Int Int):=
 if i<a.length then
  (a[i]?)>>=fun x=>
  if x.op=k1 then
   if x.ctor=IntKind.i64.wrap (k1+1)then
    if x.n=IntKind.i64.wrap (IntKind.i64.wrap (k1+1)+1)then
     if x.m=IntKind.i64.wrap (IntKind.i64.wrap (IntKind.i64.wrap (k1+1)+1)+1)then
      if x.var=IntKind.i64.wrap (IntKind.i64.wrap (IntKind.i64.wrap (IntKind.i64.wrap (k1+1)+1)+1)+1)then
       (F.f159 x.kids (IntKind.i64.wrap (IntKind.i64.wrap (IntKind.i64.wrap (IntKind.i64.wrap (IntKind.i64.wrap (k1+1)+1)+1)+1)+1)))>>=fun v=>
       if v<0 then
        some (.ret (-1:Int))
       else
        F.f160 a v (i+1)
      else
       some (.ret (-1:Int))
     else
      some (.ret (-1:Int))
    else
     some (.ret (-1:Int))
   else
    some (.ret (-1:Int))
  else
   some (.ret (-1:Int))
 else
  some (.go k1)
 partial_fixpoint
end
def F.f161 (a:Vl.Pattern)(k:Int):Option (Int):=
 (F.f159 a.kids k)>>=fun v=>
 if v<0 then
  some (-1:Int)
 else
  some v
def F.f162 (a:Vl.Clause)(k:Int):Option (Int):=
 (F.f161 a.pat k)>>=fun v=>
 if v<0 then
  some (-1:Int)
 else
  some v
theorem F.markText_run :∀(f:Nat) (k:Int) (out:ByteArray),k<(10:Int)^f→k≤9223372036854775807→out.size+f≤9223372036854775807→∃r,F.f0 k out=some r∧r.size≤out.size+f
 |0,k,out,h1,h2,h3=>⟨out,by rw[F.f0,if_neg (by simp at h1;omega)],by omega⟩
 |f+1,k,out,h1,h2,h3=>by
  rw[F.f0]
  by_cases h:0<k
  ·rw[if_pos h]
   have e1:∀n:Int,(strB [n]).size=1:=fun n=>rfl
   have e2:k.tdiv 10=k/10:=Int.tdiv_eq_ediv_of_nonneg (by omega)
   rw[e2,show IntKind.i64.wrap (k/10)=k/10 from wrap_in (by omega) (by omega),if_pos (by rw[e1];omega)]
   obtain⟨r,q1,q2⟩:=F.markText_run f (k/10) (strB [IntKind.u8.wrap (IntKind.i64.wrap (48+k.tmod 10))]++out) (by rw[Int.pow_succ]at h1;omega) (by omega) (by rw[ByteArray.size_append,e1];omega)
   exact⟨r,q1,by rw[ByteArray.size_append,e1]at q2;omega⟩
  ·rw[if_neg h];exact⟨out,rfl,by omega⟩
theorem F.markText_ex (k:Int):∃r,F.f1 k=some r:=by
 have e1:ByteArray.size ⟨#[109]⟩=1:=rfl
 have e2:ByteArray.empty.size=0:=rfl
 have e3:∀n:Int,(strB [n]).size=1:=fun n=>rfl
 have key:∃r,F.f0 k ByteArray.empty=some r∧r.size≤20:=by
  by_cases h:k≤9223372036854775807
  ·obtain⟨r,q1,q2⟩:=F.markText_run 19 k ByteArray.empty (by omega) h (by decide)
   exact⟨r,q1,by omega⟩
  ·rw[F.f0,if_pos (by omega),if_pos (by rw[e3];omega)]
   have hw:IntKind.i64.wrap (k.tdiv 10)≤9223372036854775807:=by
    simp only[IntKind.wrap,IntKind.bits,IntKind.signed];simp;omega
   obtain⟨r,q1,q2⟩:=F.markText_run 19 (IntKind.i64.wrap (k.tdiv 10)) (strB [IntKind.u8.wrap (IntKind.i64.wrap (48+k.tmod 10))]++ByteArray.empty) (by omega) hw (by rw[ByteArray.size_append,e3];omega)
   exact⟨r,q1,by rw[ByteArray.size_append,e3]at q2;omega⟩
 unfold F.f1
 split
 ·exact⟨_,rfl⟩
 ·obtain⟨r,q1,q2⟩:=key
  rw[q1]
  simp only[Option.bind_eq_bind,Option.bind_some]
  rw[if_pos (by rw[e1];omega)]
  exact⟨_,rfl⟩
def mtF (k:Int):ByteArray:=(F.markText_ex k).choose
theorem mtF_eq (k:Int):F.f1 k=some (mtF k):=(F.markText_ex k).choose_spec
def F.f163 (a:List Vl.Pattern)(k:Int):Option (List Vl.Pattern×Int):=some (Vl.Pattern.mkL a k)
def F.f164 (a:List Vl.Ty)(k:Int):Option (List Vl.Ty×Int):=some (Vl.Ty.mkL a k)
def F.f165 (a:List Vl.Ctor)(k:Int):Option (List Vl.Ctor×Int):=some (Vl.Ctor.mkL mtF a k)
def F.f166 (a:List Vl.Data)(k:Int):Option (List Vl.Data×Int):=some (Vl.Data.mkL mtF a k)
def F.f167 (aW:List Vl.Data)(aT:Vl.Ty)(aC:Vl.Clause):Option (Bool):=
 (F.f8 aW (1048576:Int))>>=fun v=>
 if v<0 then
  some true
 else
  (F.f12 aC v)>>=fun v4=>
  if v4<0 then
   some true
  else
   (F.f21 aW)>>=fun v8=>
   (F.f13 aT)>>=fun v10=>
   (F.f26 aC)>>=fun v12=>
   (F.f89 v8 v10 v12)>>=fun v14=>
   (F.f21 aW)>>=fun v16=>
   (F.f26 aC)>>=fun v18=>
   (F.f13 aT)>>=fun v21=>
   (F.f144 v16 v21 v18)>>=fun v23=>
   (F.f149 v23.1 v14.1)>>=fun v26=>
   if v26=true then
    if v23.2=v14.2 then
     (F.f21 aW)>>=fun v32=>
     (F.f158 v16 v32)>>=fun v34=>
     if v34=true then
      (F.f26 aC)>>=fun v38=>
      (F.f149 v18 v38)>>=fun v40=>
      if v40=true then
       (F.f166 v16 1)>>=fun v44=>
       (F.f163 v18.pat.kids v44.2)>>=fun v46=>
       if v46.2<0 then
        some false
       else
        (F.f149 v23.1 v14.1)>>=fun v50=>
        if v50=true then
         (F.f163 v23.1.pat.kids 1)>>=fun v54=>
         (F.f162 (⟨(⟨v23.1.pat.op,v23.1.pat.ctor,v23.1.pat.n,v23.1.pat.m,v23.1.pat.var,v54.1⟩:Vl.Pattern),v23.1.guard⟩:Vl.Clause) (1:Int))>>=fun v56=>
         if v56<0 then
          some false
         else
          if v56=v54.2 then
           (F.f21 aW)>>=fun v62=>
           (F.f13 aT)>>=fun v64=>
           (F.f26 aC)>>=fun v66=>
           (F.f144 v62 v64 v66)>>=fun v68=>
           (F.f149 v68.1 v14.1)>>=fun v71=>
           if v71=true then
            if v68.2=v14.2 then
             (F.f162 (⟨(⟨v23.1.pat.op,v23.1.pat.ctor,v23.1.pat.n,v23.1.pat.m,v23.1.pat.var,v54.1⟩:Vl.Pattern),v23.1.guard⟩:Vl.Clause) (1:Int))>>=fun v77=>
             if v77<0 then
              some false
             else
              if v77=v54.2 then
               some true
              else
               some false
            else
             some false
           else
            some false
          else
           some false
        else
         some false
      else
       some false
     else
      some false
    else
     some false
   else
    some false
end
end Go.Vl
