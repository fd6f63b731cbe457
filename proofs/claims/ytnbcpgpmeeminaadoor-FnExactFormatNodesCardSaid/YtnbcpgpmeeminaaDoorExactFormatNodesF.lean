/- The functions of the program as Lean functions (printed by gen.py). -/
import Derived.Test.YtnbcpgpmeeminaaDoorVlG
import Derived.Test.YtnbcpgpmeeminaaDoorVlDraw3
import Derived.Test.YtnbcpgpmeeminaaDoorVlFa
import Derived.Test.YtnbcpgpmeeminaaDoorVlSplit
import Derived.Test.YtnbcpgpmeeminaaDoorVlText
set_option linter.all false
set_option synthInstance.maxSize 100000
set_option synthInstance.maxHeartbeats 4000000
set_option maxHeartbeats 4000000
namespace Go.Vl
open Go
noncomputable section
def F.f0 (a:List Int)(left':Int):Option (Int):=
 if IntKind.i64.wrap (left'- (a.length:Int))<0 then
  some (-1)
 else
  some (IntKind.i64.wrap (left'- (a.length:Int)))
def F.f1 (a:PathBind)(left':Int):Option (Int):=
 (F.f0 a.path left')>>=fun v=>
 if v<0 then
  some (-1)
 else
  some v
def F.f2 (a:List PathBind)(left'3:Int)(i:Nat):Option (Lo Int Int):=
 if i<a.length then
  (a[i]?)>>=fun x=>
  (F.f1 x left'3)>>=fun v=>
  if v<0 then
   some (.ret (-1))
  else
   F.f2 a v (i+1)
 else
  some (.go left'3)
 partial_fixpoint
def F.f3 (a:List PathBind)(left':Int):Option (Int):=
 if IntKind.i64.wrap (left'- (a.length:Int))<0 then
  some (-1)
 else
  (F.f2 a (IntKind.i64.wrap (left'- (a.length:Int))) 0)>>=fun o'=>
  match o' with
  | .ret r0=>some r0
  | .go sx=>
   some sx
def F.f4 (a:List Vl.Edge)(left':Int):Option (Int):=
 if IntKind.i64.wrap (left'- (a.length:Int))<0 then
  some (-1)
 else
  some (IntKind.i64.wrap (left'- (a.length:Int)))
def F.f5 (a:Vl.Node)(left':Int):Option (Int):=
 (F.f3 a.binds left')>>=fun v=>
 if v<0 then
  some (-1)
 else
  (F.f0 a.path v)>>=fun v4=>
  if v4<0 then
   some (-1)
  else
   (F.f4 a.edges v4)>>=fun v8=>
   if v8<0 then
    some (-1)
   else
    some v8
def F.f6 (a:List Vl.Node)(left'3:Int)(i:Nat):Option (Lo Int Int):=
 if i<a.length then
  (a[i]?)>>=fun x=>
  (F.f5 x left'3)>>=fun v=>
  if v<0 then
   some (.ret (-1))
  else
   F.f6 a v (i+1)
 else
  some (.go left'3)
 partial_fixpoint
def F.f7 (a:List Vl.Node)(left':Int):Option (Int):=
 if IntKind.i64.wrap (left'- (a.length:Int))<0 then
  some (-1)
 else
  (F.f6 a (IntKind.i64.wrap (left'- (a.length:Int))) 0)>>=fun o'=>
  match o' with
  | .ret r0=>some r0
  | .go sx=>
   some sx
def F.f8 (a:List Int)(out:List Int)(i:Nat):Option (List Int):=
 if i<a.length then
  (a[i]?)>>=fun x=>
  (out[i]?)>>=fun x6=>
  F.f8 a (out.set i x) (i+1)
 else
  some out
 partial_fixpoint
def F.f9 (a:List Int):Option (List Int):=
 if a.length≤67108864 then
  (F.f8 a (List.replicate a.length 0) 0)>>=fun o'=>
  some o'
 else none
def F.f10 (a:PathBind):Option (PathBind):=
 (F.f9 a.path)>>=fun v=>
 some (⟨a.var,v⟩:PathBind)
def F.f11 (a:List PathBind)(out:List PathBind)(i:Nat):Option (List PathBind):=
 if i<a.length then
  (a[i]?)>>=fun x=>
  (F.f10 x)>>=fun v=>
  (out[i]?)>>=fun x7=>
  F.f11 a (out.set i v) (i+1)
 else
  some out
 partial_fixpoint
def F.f12 (a:List PathBind):Option (List PathBind):=
 if a.length≤67108864 then
  (F.f11 a (List.replicate a.length PathBind.z) 0)>>=fun o'=>
  some o'
 else none
def F.f13 (a:Vl.Edge):Option (Vl.Edge):=
 some a
def F.f14 (a:List Vl.Edge)(out:List Vl.Edge)(i:Nat):Option (List Vl.Edge):=
 if i<a.length then
  (a[i]?)>>=fun x=>
  (F.f13 x)>>=fun v=>
  (out[i]?)>>=fun x7=>
  F.f14 a (out.set i v) (i+1)
 else
  some out
 partial_fixpoint
def F.f15 (a:List Vl.Edge):Option (List Vl.Edge):=
 if a.length≤67108864 then
  (F.f14 a (List.replicate a.length Vl.Edge.z) 0)>>=fun o'=>
  some o'
 else none
def F.f16 (a:Vl.Node):Option (Vl.Node):=
 (F.f12 a.binds)>>=fun v=>
 (F.f9 a.path)>>=fun v2=>
 (F.f15 a.edges)>>=fun v4=>
 some (⟨a.op,a.clause,v,v2,v4,a.els⟩:Vl.Node)
def F.f17 (a:List Vl.Node)(out:List Vl.Node)(i:Nat):Option (List Vl.Node):=
 if i<a.length then
  (a[i]?)>>=fun x=>
  (F.f16 x)>>=fun v=>
  (out[i]?)>>=fun x7=>
  F.f17 a (out.set i v) (i+1)
 else
  some out
 partial_fixpoint
def F.f18 (a:List Vl.Node):Option (List Vl.Node):=
 if a.length≤67108864 then
  (F.f17 a (List.replicate a.length Vl.Node.z) 0)>>=fun o'=>
  some o'
 else none
def F.f19  :Option (Int):=
 some (-1)
def F.f20 (list:List Vl.Node)(i:Nat)(x:Vl.Node)(k:Nat):Option (Lo Bool Unit):=
 if k<x.edges.length then
  (x.edges[k]?)>>=fun x26=>
  if x26.to<0 then
   some (.ret false)
  else
   if(i:Int)≤x26.to then
    some (.ret false)
   else
    F.f20 list i x (k+1)
 else
  some (.go ())
 partial_fixpoint
def F.f21 (list:List Vl.Node)(i:Nat):Option (Lo Bool Unit):=
 if i<list.length then
  (list[i]?)>>=fun x=>
  if x.op<0 then
   some (.ret false)
  else
   if 2<x.op then
    some (.ret false)
   else
    (F.f19)>>=fun v=>
    if x.els<v then
     some (.ret false)
    else
     if(i:Int)≤x.els then
      some (.ret false)
     else
      if 10<x.edges.length then
       some (.ret false)
      else
       (F.f20 list i x 0)>>=fun o'=>
       match o' with
       | .ret r0=>some (.ret r0)
       | .go sx=>
        if i+1≤9223372036854775807 then
         F.f21 list (i+1)
        else none
 else
  some (.go ())
 partial_fixpoint
def F.f22 (list:List Vl.Node):Option (Bool):=
 if list.length=0 then
  some false
 else
  if 300<list.length then
   some false
  else
   (F.f21 list 0)>>=fun o'37=>
   match o'37 with
   | .ret r039=>some r039
   | .go sx38=>
    some true
def F.f23 (n7:Int)(out:ByteArray):Option (Int×ByteArray):=
 if 9<n7 then
  if(strB [IntKind.u8.wrap (IntKind.i64.wrap (48+n7.tmod 10))]).size+out.size≤9223372036854775807 then
   F.f23 (IntKind.i64.wrap (n7.tdiv 10)) ((strB [IntKind.u8.wrap (IntKind.i64.wrap (48+n7.tmod 10))])++out)
  else none
 else
  some (n7,out)
 partial_fixpoint
def F.f24 (n:Int):Option (ByteArray):=
 if n<(-9223372036854775807)then
  some (⟨#[45,57,50,50,51,51,55,50,48,51,54,56,53,52,55,55,53,56,48,56]⟩:ByteArray)
 else
  if n<0 then
   (F.f24 (IntKind.i64.wrap (0-n)))>>=fun v=>
   if(⟨#[45]⟩:ByteArray).size+v.size≤9223372036854775807 then
    some ((⟨#[45]⟩:ByteArray)++v)
   else none
  else
   (F.f23 n ByteArray.empty)>>=fun o'=>
   if(strB [IntKind.u8.wrap (IntKind.i64.wrap (48+o'.1))]).size+o'.2.size≤9223372036854775807 then
    some ((strB [IntKind.u8.wrap (IntKind.i64.wrap (48+o'.1))])++o'.2)
   else none
 partial_fixpoint
def F.f25 (n:Int):Option (ByteArray):=
 if n<0 then
  if(-1000000)<n then
   (F.f24 (IntKind.i64.wrap (0-n)))>>=fun v=>
   if(⟨#[45]⟩:ByteArray).size+v.size≤9223372036854775807 then
    some ((⟨#[45]⟩:ByteArray)++v)
   else none
  else
   (F.f24 n)>>=fun v7=>
   some v7
 else
  (F.f24 n)>>=fun v9=>
  some v9
def F.f26 (path:List Int)(out:ByteArray)(i:Nat):Option (ByteArray):=
 if i<path.length then
  if out.size+(⟨#[46]⟩:ByteArray).size≤9223372036854775807 then
   (path[i]?)>>=fun x=>
   (F.f24 x)>>=fun v=>
   if(out++(⟨#[46]⟩:ByteArray)).size+v.size≤9223372036854775807 then
    F.f26 path ((out++(⟨#[46]⟩:ByteArray))++v) (i+1)
   else none
  else none
 else
  some out
 partial_fixpoint
def F.f27 (path:List Int):Option (ByteArray):=
 (F.f26 path (⟨#[118]⟩:ByteArray) 0)>>=fun o'=>
 some o'
def F.f28 (x:Vl.Node)(out:ByteArray)(i:Nat):Option (ByteArray):=
 if i<x.edges.length then
  (x.edges[i]?)>>=fun x13=>
  if out.size+(⟨#[32]⟩:ByteArray).size≤9223372036854775807 then
   (F.f25 x13.ctor)>>=fun v16=>
   if(out++(⟨#[32]⟩:ByteArray)).size+v16.size≤9223372036854775807 then
    if((out++(⟨#[32]⟩:ByteArray))++v16).size+(⟨#[58]⟩:ByteArray).size≤9223372036854775807 then
     (F.f25 x13.n)>>=fun v20=>
     if(((out++(⟨#[32]⟩:ByteArray))++v16)++(⟨#[58]⟩:ByteArray)).size+v20.size≤9223372036854775807 then
      if((((out++(⟨#[32]⟩:ByteArray))++v16)++(⟨#[58]⟩:ByteArray))++v20).size+(⟨#[45]⟩:ByteArray).size≤9223372036854775807 then
       (F.f25 x13.m)>>=fun v24=>
       if(((((out++(⟨#[32]⟩:ByteArray))++v16)++(⟨#[58]⟩:ByteArray))++v20)++(⟨#[45]⟩:ByteArray)).size+v24.size≤9223372036854775807 then
        if((((((out++(⟨#[32]⟩:ByteArray))++v16)++(⟨#[58]⟩:ByteArray))++v20)++(⟨#[45]⟩:ByteArray))++v24).size+(⟨#[62]⟩:ByteArray).size≤9223372036854775807 then
         (F.f24 x13.to)>>=fun v28=>
         if(((((((out++(⟨#[32]⟩:ByteArray))++v16)++(⟨#[58]⟩:ByteArray))++v20)++(⟨#[45]⟩:ByteArray))++v24)++(⟨#[62]⟩:ByteArray)).size+v28.size≤9223372036854775807 then
          F.f28 x ((((((((out++(⟨#[32]⟩:ByteArray))++v16)++(⟨#[58]⟩:ByteArray))++v20)++(⟨#[45]⟩:ByteArray))++v24)++(⟨#[62]⟩:ByteArray))++v28) (i+1)
         else none
        else none
       else none
      else none
     else none
    else none
   else none
  else none
 else
  some out
 partial_fixpoint
def F.f29 (x:Vl.Node)(out39:ByteArray)(i40:Nat):Option (ByteArray):=
 if i40<x.edges.length then
  (x.edges[i40]?)>>=fun x44=>
  if out39.size+(⟨#[32]⟩:ByteArray).size≤9223372036854775807 then
   (F.f25 x44.ctor)>>=fun v47=>
   if(out39++(⟨#[32]⟩:ByteArray)).size+v47.size≤9223372036854775807 then
    if((out39++(⟨#[32]⟩:ByteArray))++v47).size+(⟨#[58]⟩:ByteArray).size≤9223372036854775807 then
     (F.f25 x44.n)>>=fun v51=>
     if(((out39++(⟨#[32]⟩:ByteArray))++v47)++(⟨#[58]⟩:ByteArray)).size+v51.size≤9223372036854775807 then
      if((((out39++(⟨#[32]⟩:ByteArray))++v47)++(⟨#[58]⟩:ByteArray))++v51).size+(⟨#[45]⟩:ByteArray).size≤9223372036854775807 then
       (F.f25 x44.m)>>=fun v55=>
       if(((((out39++(⟨#[32]⟩:ByteArray))++v47)++(⟨#[58]⟩:ByteArray))++v51)++(⟨#[45]⟩:ByteArray)).size+v55.size≤9223372036854775807 then
        if((((((out39++(⟨#[32]⟩:ByteArray))++v47)++(⟨#[58]⟩:ByteArray))++v51)++(⟨#[45]⟩:ByteArray))++v55).size+(⟨#[62]⟩:ByteArray).size≤9223372036854775807 then
         (F.f24 x44.to)>>=fun v59=>
         if(((((((out39++(⟨#[32]⟩:ByteArray))++v47)++(⟨#[58]⟩:ByteArray))++v51)++(⟨#[45]⟩:ByteArray))++v55)++(⟨#[62]⟩:ByteArray)).size+v59.size≤9223372036854775807 then
          F.f29 x ((((((((out39++(⟨#[32]⟩:ByteArray))++v47)++(⟨#[58]⟩:ByteArray))++v51)++(⟨#[45]⟩:ByteArray))++v55)++(⟨#[62]⟩:ByteArray))++v59) (i40+1)
         else none
        else none
       else none
      else none
     else none
    else none
   else none
  else none
 else
  some out39
 partial_fixpoint
def F.f30 (x:Vl.Node):Option (ByteArray):=
 if x.op=0 then
  some (⟨#[102,97,105,108]⟩:ByteArray)
 else
  (F.f25 x.clause)>>=fun v=>
  if(⟨#[108,101,97,102,32]⟩:ByteArray).size+v.size≤9223372036854775807 then
   if x.op=2 then
    (F.f27 x.path)>>=fun v7=>
    if(⟨#[115,119,105,116,99,104,32]⟩:ByteArray).size+v7.size≤9223372036854775807 then
     (F.f28 x ((⟨#[115,119,105,116,99,104,32]⟩:ByteArray)++v7) 0)>>=fun o'=>
     if 0≤x.els then
      if o'.size+(⟨#[32,101,108,115,101,32]⟩:ByteArray).size≤9223372036854775807 then
       (F.f24 x.els)>>=fun v36=>
       if(o'++(⟨#[32,101,108,115,101,32]⟩:ByteArray)).size+v36.size≤9223372036854775807 then
        some ((o'++(⟨#[32,101,108,115,101,32]⟩:ByteArray))++v36)
       else none
      else none
     else
      some o'
    else none
   else
    (F.f29 x ((⟨#[108,101,97,102,32]⟩:ByteArray)++v) 0)>>=fun o'64=>
    if 0≤x.els then
     if o'64.size+(⟨#[32,101,108,115,101,32]⟩:ByteArray).size≤9223372036854775807 then
      (F.f24 x.els)>>=fun v68=>
      if(o'64++(⟨#[32,101,108,115,101,32]⟩:ByteArray)).size+v68.size≤9223372036854775807 then
       some ((o'64++(⟨#[32,101,108,115,101,32]⟩:ByteArray))++v68)
      else none
     else none
    else
     some o'64
  else none
def F.f31 (list:List Vl.Node)(out:ByteArray)(i:Nat):Option (ByteArray):=
 if i<list.length then
  (F.f22 list)>>=fun v=>
  if v=true then
   (F.f24 (i:Int))>>=fun v7=>
   if out.size+v7.size≤9223372036854775807 then
    if(out++v7).size+(⟨#[32]⟩:ByteArray).size≤9223372036854775807 then
     (list[i]?)>>=fun x=>
     (F.f30 x)>>=fun v12=>
     if((out++v7)++(⟨#[32]⟩:ByteArray)).size+v12.size≤9223372036854775807 then
      if(((out++v7)++(⟨#[32]⟩:ByteArray))++v12).size+(⟨#[10]⟩:ByteArray).size≤9223372036854775807 then
       F.f31 list ((((out++v7)++(⟨#[32]⟩:ByteArray))++v12)++(⟨#[10]⟩:ByteArray)) (i+1)
      else none
     else none
    else none
   else none
  else
   some out
 else
  some out
 partial_fixpoint
def F.f32 (list:List Vl.Node):Option (ByteArray):=
 (F.f31 list ByteArray.empty 0)>>=fun o'=>
 some o'
def F.f33 (n:Int)(low:Int)(high:Int):Option (Bool):=
 if low≤n then
  some (decide (n≤high))
 else
  some false
def F.f34 (e:Vl.Edge)(a1:Int):Option (Bool):=
 (F.f33 e.to 0 (IntKind.i64.wrap (a1-1)))>>=fun v=>
 some (!v)
def F.f35 (s:List Vl.Edge)(k0:Int)(i:Nat):Option (Lo Int Unit):=
 if i<s.length then
  (s[i]?)>>=fun x=>
  (F.f34 x k0)>>=fun v=>
  if v=true then
   some (.ret (i:Int))
  else
   F.f35 s k0 (i+1)
 else
  some (.go ())
 partial_fixpoint
def F.f36 (s:List Vl.Edge)(k0:Int):Option (Int):=
 (F.f35 s k0 0)>>=fun o'=>
 match o' with
 | .ret r0=>some r0
 | .go sx=>
  some (-1)
def F.f37 (s:List Vl.Edge)(k0:Int):Option (Bool):=
 (F.f36 s k0)>>=fun v=>
 some (decide (0≤v))
def F.f38 (list:List Vl.Node)(i:Nat):Option (Lo Bool Unit):=
 if i<list.length then
  (list[i]?)>>=fun x=>
  (F.f33 x.op 0 2)>>=fun v=>
  if v=true then
   if 10<x.edges.length then
    some (.ret false)
   else
    (F.f33 x.els (-1) (IntKind.i64.wrap ((i:Int) -1)))>>=fun v11=>
    if v11=true then
     (F.f37 x.edges (i:Int))>>=fun v15=>
     if v15=true then
      some (.ret false)
     else
      F.f38 list (i+1)
    else
     some (.ret false)
  else
   some (.ret false)
 else
  some (.go ())
 partial_fixpoint
def F.f39 (list:List Vl.Node):Option (Bool):=
 (F.f38 list 0)>>=fun o'=>
 match o' with
 | .ret r0=>some r0
 | .go sx=>
  (F.f33 (list.length:Int) 1 300)>>=fun v21=>
  some v21
def F.f40 (i:Int):Option (ByteArray):=
 if -9223372036854775808≤i∧i≤9223372036854775807 then
  some (itoaN i)
 else none
def F.f41 (path:List Int)(out:ByteArray)(i:Nat):Option (ByteArray):=
 if i<path.length then
  (path[i]?)>>=fun x=>
  (F.f40 x)>>=fun v=>
  if(⟨#[46]⟩:ByteArray).size+v.size≤9223372036854775807 then
   if out.size+((⟨#[46]⟩:ByteArray)++v).size≤9223372036854775807 then
    F.f41 path (out++((⟨#[46]⟩:ByteArray)++v)) (i+1)
   else none
  else none
 else
  some out
 partial_fixpoint
def F.f42 (path:List Int):Option (ByteArray):=
 (F.f41 path (⟨#[118]⟩:ByteArray) 0)>>=fun o'=>
 some o'
def F.f43 (list:List Vl.Node)(out:List Int)(i:Nat)(x:Vl.Node)(i21:Nat)(s:ByteArray):Option (ByteArray):=
 if i21<x.edges.length then
  (x.edges[i21]?)>>=fun x25=>
  (F.f40 x25.ctor)>>=fun v27=>
  if(⟨#[32]⟩:ByteArray).size+v27.size≤9223372036854775807 then
   if((⟨#[32]⟩:ByteArray)++v27).size+(⟨#[58]⟩:ByteArray).size≤9223372036854775807 then
    (F.f40 x25.n)>>=fun v31=>
    if(((⟨#[32]⟩:ByteArray)++v27)++(⟨#[58]⟩:ByteArray)).size+v31.size≤9223372036854775807 then
     if((((⟨#[32]⟩:ByteArray)++v27)++(⟨#[58]⟩:ByteArray))++v31).size+(⟨#[45]⟩:ByteArray).size≤9223372036854775807 then
      (F.f40 x25.m)>>=fun v35=>
      if(((((⟨#[32]⟩:ByteArray)++v27)++(⟨#[58]⟩:ByteArray))++v31)++(⟨#[45]⟩:ByteArray)).size+v35.size≤9223372036854775807 then
       if((((((⟨#[32]⟩:ByteArray)++v27)++(⟨#[58]⟩:ByteArray))++v31)++(⟨#[45]⟩:ByteArray))++v35).size+(⟨#[62]⟩:ByteArray).size≤9223372036854775807 then
        (F.f40 x25.to)>>=fun v39=>
        if(((((((⟨#[32]⟩:ByteArray)++v27)++(⟨#[58]⟩:ByteArray))++v31)++(⟨#[45]⟩:ByteArray))++v35)++(⟨#[62]⟩:ByteArray)).size+v39.size≤9223372036854775807 then
         if s.size+((((((((⟨#[32]⟩:ByteArray)++v27)++(⟨#[58]⟩:ByteArray))++v31)++(⟨#[45]⟩:ByteArray))++v35)++(⟨#[62]⟩:ByteArray))++v39).size≤9223372036854775807 then
          F.f43 list out i x (i21+1) (s++((((((((⟨#[32]⟩:ByteArray)++v27)++(⟨#[58]⟩:ByteArray))++v31)++(⟨#[45]⟩:ByteArray))++v35)++(⟨#[62]⟩:ByteArray))++v39))
         else none
        else none
       else none
      else none
     else none
    else none
   else none
  else none
 else
  some s
 partial_fixpoint
def F.f44 (list:List Vl.Node)(out:List Int)(i:Nat)(x:Vl.Node)(i63:Nat)(s64:ByteArray):Option (ByteArray):=
 if i63<x.edges.length then
  (x.edges[i63]?)>>=fun x68=>
  (F.f40 x68.ctor)>>=fun v70=>
  if(⟨#[32]⟩:ByteArray).size+v70.size≤9223372036854775807 then
   if((⟨#[32]⟩:ByteArray)++v70).size+(⟨#[58]⟩:ByteArray).size≤9223372036854775807 then
    (F.f40 x68.n)>>=fun v74=>
    if(((⟨#[32]⟩:ByteArray)++v70)++(⟨#[58]⟩:ByteArray)).size+v74.size≤9223372036854775807 then
     if((((⟨#[32]⟩:ByteArray)++v70)++(⟨#[58]⟩:ByteArray))++v74).size+(⟨#[45]⟩:ByteArray).size≤9223372036854775807 then
      (F.f40 x68.m)>>=fun v78=>
      if(((((⟨#[32]⟩:ByteArray)++v70)++(⟨#[58]⟩:ByteArray))++v74)++(⟨#[45]⟩:ByteArray)).size+v78.size≤9223372036854775807 then
       if((((((⟨#[32]⟩:ByteArray)++v70)++(⟨#[58]⟩:ByteArray))++v74)++(⟨#[45]⟩:ByteArray))++v78).size+(⟨#[62]⟩:ByteArray).size≤9223372036854775807 then
        (F.f40 x68.to)>>=fun v82=>
        if(((((((⟨#[32]⟩:ByteArray)++v70)++(⟨#[58]⟩:ByteArray))++v74)++(⟨#[45]⟩:ByteArray))++v78)++(⟨#[62]⟩:ByteArray)).size+v82.size≤9223372036854775807 then
         if s64.size+((((((((⟨#[32]⟩:ByteArray)++v70)++(⟨#[58]⟩:ByteArray))++v74)++(⟨#[45]⟩:ByteArray))++v78)++(⟨#[62]⟩:ByteArray))++v82).size≤9223372036854775807 then
          F.f44 list out i x (i63+1) (s64++((((((((⟨#[32]⟩:ByteArray)++v70)++(⟨#[58]⟩:ByteArray))++v74)++(⟨#[45]⟩:ByteArray))++v78)++(⟨#[62]⟩:ByteArray))++v82))
         else none
        else none
       else none
      else none
     else none
    else none
   else none
  else none
 else
  some s64
 partial_fixpoint
def F.f45 (list:List Vl.Node)(out:List Int)(i:Nat):Option (List Int):=
 if i<list.length then
  (list[i]?)>>=fun x=>
  (F.f40 (i:Int))>>=fun v8=>
  if x.op=0 then
   if v8.size+(⟨#[32,102,97,105,108,10]⟩:ByteArray).size≤9223372036854775807 then
    if out.length+(v8++(⟨#[32,102,97,105,108,10]⟩:ByteArray)).size≤1073741824 then
     F.f45 list (out++bytesI (v8++(⟨#[32,102,97,105,108,10]⟩:ByteArray))) (i+1)
    else none
   else none
  else
   if x.op=1 then
    (F.f40 x.clause)>>=fun v17=>
    if(⟨#[32,108,101,97,102,32]⟩:ByteArray).size+v17.size≤9223372036854775807 then
     if v8.size+((⟨#[32,108,101,97,102,32]⟩:ByteArray)++v17).size≤9223372036854775807 then
      (F.f43 list out i x 0 (v8++((⟨#[32,108,101,97,102,32]⟩:ByteArray)++v17)))>>=fun o'=>
      if 0≤x.els then
       (F.f40 x.els)>>=fun v47=>
       if(⟨#[32,101,108,115,101,32]⟩:ByteArray).size+v47.size≤9223372036854775807 then
        if o'.size+((⟨#[32,101,108,115,101,32]⟩:ByteArray)++v47).size≤9223372036854775807 then
         if(o'++((⟨#[32,101,108,115,101,32]⟩:ByteArray)++v47)).size+(⟨#[10]⟩:ByteArray).size≤9223372036854775807 then
          if out.length+((o'++((⟨#[32,101,108,115,101,32]⟩:ByteArray)++v47))++(⟨#[10]⟩:ByteArray)).size≤1073741824 then
           if i+1≤9223372036854775807 then
            F.f45 list (out++bytesI ((o'++((⟨#[32,101,108,115,101,32]⟩:ByteArray)++v47))++(⟨#[10]⟩:ByteArray))) (i+1)
           else none
          else none
         else none
        else none
       else none
      else
       if o'.size+(⟨#[10]⟩:ByteArray).size≤9223372036854775807 then
        if out.length+(o'++(⟨#[10]⟩:ByteArray)).size≤1073741824 then
         if i+1≤9223372036854775807 then
          F.f45 list (out++bytesI (o'++(⟨#[10]⟩:ByteArray))) (i+1)
         else none
        else none
       else none
     else none
    else none
   else
    (F.f42 x.path)>>=fun v59=>
    if(⟨#[32,115,119,105,116,99,104,32]⟩:ByteArray).size+v59.size≤9223372036854775807 then
     if v8.size+((⟨#[32,115,119,105,116,99,104,32]⟩:ByteArray)++v59).size≤9223372036854775807 then
      (F.f44 list out i x 0 (v8++((⟨#[32,115,119,105,116,99,104,32]⟩:ByteArray)++v59)))>>=fun o'88=>
      if 0≤x.els then
       (F.f40 x.els)>>=fun v91=>
       if(⟨#[32,101,108,115,101,32]⟩:ByteArray).size+v91.size≤9223372036854775807 then
        if o'88.size+((⟨#[32,101,108,115,101,32]⟩:ByteArray)++v91).size≤9223372036854775807 then
         if(o'88++((⟨#[32,101,108,115,101,32]⟩:ByteArray)++v91)).size+(⟨#[10]⟩:ByteArray).size≤9223372036854775807 then
          if out.length+((o'88++((⟨#[32,101,108,115,101,32]⟩:ByteArray)++v91))++(⟨#[10]⟩:ByteArray)).size≤1073741824 then
           if i+1≤9223372036854775807 then
            F.f45 list (out++bytesI ((o'88++((⟨#[32,101,108,115,101,32]⟩:ByteArray)++v91))++(⟨#[10]⟩:ByteArray))) (i+1)
           else none
          else none
         else none
        else none
       else none
      else
       if o'88.size+(⟨#[10]⟩:ByteArray).size≤9223372036854775807 then
        if out.length+(o'88++(⟨#[10]⟩:ByteArray)).size≤1073741824 then
         if i+1≤9223372036854775807 then
          F.f45 list (out++bytesI (o'88++(⟨#[10]⟩:ByteArray))) (i+1)
         else none
        else none
       else none
     else none
    else none
 else
  some out
 partial_fixpoint
def F.f46 (list:List Vl.Node):Option (ByteArray):=
 (F.f39 list)>>=fun v=>
 if v=true then
  (F.f45 list [] 0)>>=fun o'104=>
  if okB o'104∧o'104.length≤1073741824 then
   some (strB o'104)
  else none
 else
  some ByteArray.empty
def F.f47 (a:List Int)(b:List Int)(i:Nat):Option (Lo Bool Unit):=
 if i<a.length then
  (a[i]?)>>=fun x=>
  (b[i]?)>>=fun x8=>
  if x=x8 then
   F.f47 a b (i+1)
  else
   some (.ret false)
 else
  some (.go ())
 partial_fixpoint
def F.f48 (a:List Int)(b:List Int):Option (Bool):=
 if a.length=b.length then
  (F.f47 a b 0)>>=fun o'=>
  match o' with
  | .ret r0=>some r0
  | .go sx=>
   some true
 else
  some false
def F.f49 (a:PathBind)(b:PathBind):Option (Bool):=
 if a.var=b.var then
  (F.f48 a.path b.path)>>=fun v=>
  if v=true then
   some true
  else
   some false
 else
  some false
def F.f50 (a:List PathBind)(b:List PathBind)(i:Nat):Option (Lo Bool Unit):=
 if i<a.length then
  (a[i]?)>>=fun x=>
  (b[i]?)>>=fun x8=>
  (F.f49 x x8)>>=fun v=>
  if v=true then
   F.f50 a b (i+1)
  else
   some (.ret false)
 else
  some (.go ())
 partial_fixpoint
def F.f51 (a:List PathBind)(b:List PathBind):Option (Bool):=
 if a.length=b.length then
  (F.f50 a b 0)>>=fun o'=>
  match o' with
  | .ret r0=>some r0
  | .go sx=>
   some true
 else
  some false
def F.f52 (a:Vl.Edge)(b:Vl.Edge):Option (Bool):=
 if a.ctor=b.ctor then
  if a.n=b.n then
   if a.m=b.m then
    if a.to=b.to then
     some true
    else
     some false
   else
    some false
  else
   some false
 else
  some false
def F.f53 (a:List Vl.Edge)(b:List Vl.Edge)(i:Nat):Option (Lo Bool Unit):=
 if i<a.length then
  (a[i]?)>>=fun x=>
  (b[i]?)>>=fun x8=>
  (F.f52 x x8)>>=fun v=>
  if v=true then
   F.f53 a b (i+1)
  else
   some (.ret false)
 else
  some (.go ())
 partial_fixpoint
def F.f54 (a:List Vl.Edge)(b:List Vl.Edge):Option (Bool):=
 if a.length=b.length then
  (F.f53 a b 0)>>=fun o'=>
  match o' with
  | .ret r0=>some r0
  | .go sx=>
   some true
 else
  some false
def F.f55 (a:Vl.Node)(b:Vl.Node):Option (Bool):=
 if a.op=b.op then
  if a.clause=b.clause then
   (F.f51 a.binds b.binds)>>=fun v=>
   if v=true then
    (F.f48 a.path b.path)>>=fun v8=>
    if v8=true then
     (F.f54 a.edges b.edges)>>=fun v12=>
     if v12=true then
      if a.els=b.els then
       some true
      else
       some false
     else
      some false
    else
     some false
   else
    some false
  else
   some false
 else
  some false
def F.f56 (a:List Vl.Node)(b:List Vl.Node)(i:Nat):Option (Lo Bool Unit):=
 if i<a.length then
  (a[i]?)>>=fun x=>
  (b[i]?)>>=fun x8=>
  (F.f55 x x8)>>=fun v=>
  if v=true then
   F.f56 a b (i+1)
  else
   some (.ret false)
 else
  some (.go ())
 partial_fixpoint
def F.f57 (a:List Vl.Node)(b:List Vl.Node):Option (Bool):=
 if a.length=b.length then
  (F.f56 a b 0)>>=fun o'=>
  match o' with
  | .ret r0=>some r0
  | .go sx=>
   some true
 else
  some false
def F.f58 (aList:List Vl.Node):Option (Bool):=
 (F.f7 aList 1048576)>>=fun v=>
 if v<0 then
  some true
 else
  (F.f18 aList)>>=fun v4=>
  (F.f32 v4)>>=fun v6=>
  (F.f18 aList)>>=fun v8=>
  (F.f46 v8)>>=fun v10=>
  if v10.toList=v6.toList then
   (F.f18 aList)>>=fun v14=>
   (F.f57 v8 v14)>>=fun v16=>
   if v16=true then
    some true
   else
    some false
  else
   some false
end
end Go.Vl
