/- The functions of the program as Lean functions (printed by gen.py). -/
import Derived.Test.YtnbcpgpmeeminaaDoorVlG
import Derived.Test.YtnbcpgpmeeminaaDoorVlDraw3
import Derived.Test.YtnbcpgpmeeminaaDoorVlFa
import Derived.Test.YtnbcpgpmeeminaaDoorVlSplit
import Derived.Test.YtnbcpgpmeeminaaDoorVlText
set_option linter.all false
set_option synthInstance.maxSize 100000
set_option synthInstance.maxHeartbeats 4000000
set_option maxHeartbeats 4000000
namespace Go.Vl
open Go
noncomputable section
def F.f0 (a:List Int)(left':Int):Option (Int):=
 if IntKind.i64.wrap (left'- (a.length:Int))<0 then
  some (-1)
 else
  some (IntKind.i64.wrap (left'- (a.length:Int)))
def F.f1 (a:PathBind)(left':Int):Option (Int):=
 (F.f0 a.path left')>>=fun v=>
 if v<0 then
  some (-1)
 else
  some v
def F.f2 (a:List PathBind)(left'3:Int)(i:Nat):Option (Lo Int Int):=
 if i<a.length then
  (a[i]?)>>=fun x=>
  (F.f1 x left'3)>>=fun v=>
  if v<0 then
   some (.ret (-1))
  else
   F.f2 a v (i+1)
 else
  some (.go left'3)
 partial_fixpoint
def F.f3 (a:List PathBind)(left':Int):Option (Int):=
 if IntKind.i64.wrap (left'- (a.length:Int))<0 then
  some (-1)
 else
  (F.f2 a (IntKind.i64.wrap (left'- (a.length:Int))) 0)>>=fun o'=>
  match o' with
  | .ret r0=>some r0
  | .go sx=>
   some sx
def F.f4 (a:Step)(left':Int):Option (Int):=
 (F.f0 a.path left')>>=fun v=>
 if v<0 then
  some (-1)
 else
  (F.f3 a.binds v)>>=fun v4=>
  if v4<0 then
   some (-1)
  else
   some v4
def F.f5 (a:List Step)(left'3:Int)(i:Nat):Option (Lo Int Int):=
 if i<a.length then
  (a[i]?)>>=fun x=>
  (F.f4 x left'3)>>=fun v=>
  if v<0 then
   some (.ret (-1))
  else
   F.f5 a v (i+1)
 else
  some (.go left'3)
 partial_fixpoint
def F.f6 (a:List Step)(left':Int):Option (Int):=
 if IntKind.i64.wrap (left'- (a.length:Int))<0 then
  some (-1)
 else
  (F.f5 a (IntKind.i64.wrap (left'- (a.length:Int))) 0)>>=fun o'=>
  match o' with
  | .ret r0=>some r0
  | .go sx=>
   some sx
def F.f7 (a:List Int)(out:List Int)(i:Nat):Option (List Int):=
 if i<a.length then
  (a[i]?)>>=fun x=>
  (out[i]?)>>=fun x6=>
  F.f7 a (out.set i x) (i+1)
 else
  some out
 partial_fixpoint
def F.f8 (a:List Int):Option (List Int):=
 if a.length≤67108864 then
  (F.f7 a (List.replicate a.length 0) 0)>>=fun o'=>
  some o'
 else none
def F.f9 (a:PathBind):Option (PathBind):=
 (F.f8 a.path)>>=fun v=>
 some (⟨a.var,v⟩:PathBind)
def F.f10 (a:List PathBind)(out:List PathBind)(i:Nat):Option (List PathBind):=
 if i<a.length then
  (a[i]?)>>=fun x=>
  (F.f9 x)>>=fun v=>
  (out[i]?)>>=fun x7=>
  F.f10 a (out.set i v) (i+1)
 else
  some out
 partial_fixpoint
def F.f11 (a:List PathBind):Option (List PathBind):=
 if a.length≤67108864 then
  (F.f10 a (List.replicate a.length PathBind.z) 0)>>=fun o'=>
  some o'
 else none
def F.f12 (a:Step):Option (Step):=
 (F.f8 a.path)>>=fun v=>
 (F.f11 a.binds)>>=fun v2=>
 some (⟨a.op,v,a.ctor,a.n,a.m,a.clause,v2,a.to⟩:Step)
def F.f13 (a:List Step)(out:List Step)(i:Nat):Option (List Step):=
 if i<a.length then
  (a[i]?)>>=fun x=>
  (F.f12 x)>>=fun v=>
  (out[i]?)>>=fun x7=>
  F.f13 a (out.set i v) (i+1)
 else
  some out
 partial_fixpoint
def F.f14 (a:List Step):Option (List Step):=
 if a.length≤67108864 then
  (F.f13 a (List.replicate a.length Step.z) 0)>>=fun o'=>
  some o'
 else none
def F.f15 (n7:Int)(out:ByteArray):Option (Int×ByteArray):=
 if 9<n7 then
  if(strB [IntKind.u8.wrap (IntKind.i64.wrap (48+n7.tmod 10))]).size+out.size≤9223372036854775807 then
   F.f15 (IntKind.i64.wrap (n7.tdiv 10)) ((strB [IntKind.u8.wrap (IntKind.i64.wrap (48+n7.tmod 10))])++out)
  else none
 else
  some (n7,out)
 partial_fixpoint
def F.f16 (n:Int):Option (ByteArray):=
 if n<(-9223372036854775807)then
  some (⟨#[45,57,50,50,51,51,55,50,48,51,54,56,53,52,55,55,53,56,48,56]⟩:ByteArray)
 else
  if n<0 then
   (F.f16 (IntKind.i64.wrap (0-n)))>>=fun v=>
   if(⟨#[45]⟩:ByteArray).size+v.size≤9223372036854775807 then
    some ((⟨#[45]⟩:ByteArray)++v)
   else none
  else
   (F.f15 n ByteArray.empty)>>=fun o'=>
   if(strB [IntKind.u8.wrap (IntKind.i64.wrap (48+o'.1))]).size+o'.2.size≤9223372036854775807 then
    some ((strB [IntKind.u8.wrap (IntKind.i64.wrap (48+o'.1))])++o'.2)
   else none
 partial_fixpoint
def F.f17 (path:List Int)(out:ByteArray)(i:Nat):Option (ByteArray):=
 if i<path.length then
  if out.size+(⟨#[46]⟩:ByteArray).size≤9223372036854775807 then
   (path[i]?)>>=fun x=>
   (F.f16 x)>>=fun v=>
   if(out++(⟨#[46]⟩:ByteArray)).size+v.size≤9223372036854775807 then
    F.f17 path ((out++(⟨#[46]⟩:ByteArray))++v) (i+1)
   else none
  else none
 else
  some out
 partial_fixpoint
def F.f18 (path:List Int):Option (ByteArray):=
 (F.f17 path (⟨#[118]⟩:ByteArray) 0)>>=fun o'=>
 some o'
def F.f19 (n:Int):Option (ByteArray):=
 if n<0 then
  if(-1000000)<n then
   (F.f16 (IntKind.i64.wrap (0-n)))>>=fun v=>
   if(⟨#[45]⟩:ByteArray).size+v.size≤9223372036854775807 then
    some ((⟨#[45]⟩:ByteArray)++v)
   else none
  else
   (F.f16 n)>>=fun v7=>
   some v7
 else
  (F.f16 n)>>=fun v9=>
  some v9
def F.f20 (x:Step)(out:ByteArray)(i:Nat):Option (ByteArray):=
 if i<x.binds.length then
  if out.size+(⟨#[32]⟩:ByteArray).size≤9223372036854775807 then
   (x.binds[i]?)>>=fun x39=>
   (F.f19 x39.var)>>=fun v41=>
   if(out++(⟨#[32]⟩:ByteArray)).size+v41.size≤9223372036854775807 then
    if((out++(⟨#[32]⟩:ByteArray))++v41).size+(⟨#[61]⟩:ByteArray).size≤9223372036854775807 then
     (F.f18 x39.path)>>=fun v45=>
     if(((out++(⟨#[32]⟩:ByteArray))++v41)++(⟨#[61]⟩:ByteArray)).size+v45.size≤9223372036854775807 then
      F.f20 x ((((out++(⟨#[32]⟩:ByteArray))++v41)++(⟨#[61]⟩:ByteArray))++v45) (i+1)
     else none
    else none
   else none
  else none
 else
  some out
 partial_fixpoint
def F.f21 (x:Step):Option (ByteArray):=
 if x.op=1 then
  if x.ctor=(-1)then
   (F.f18 x.path)>>=fun v=>
   if(⟨#[116,101,115,116,32]⟩:ByteArray).size+v.size≤9223372036854775807 then
    if((⟨#[116,101,115,116,32]⟩:ByteArray)++v).size+(⟨#[32]⟩:ByteArray).size≤9223372036854775807 then
     (F.f19 x.n)>>=fun v8=>
     if(((⟨#[116,101,115,116,32]⟩:ByteArray)++v)++(⟨#[32]⟩:ByteArray)).size+v8.size≤9223372036854775807 then
      if((((⟨#[116,101,115,116,32]⟩:ByteArray)++v)++(⟨#[32]⟩:ByteArray))++v8).size+(⟨#[45]⟩:ByteArray).size≤9223372036854775807 then
       (F.f19 x.m)>>=fun v12=>
       if(((((⟨#[116,101,115,116,32]⟩:ByteArray)++v)++(⟨#[32]⟩:ByteArray))++v8)++(⟨#[45]⟩:ByteArray)).size+v12.size≤9223372036854775807 then
        if((((((⟨#[116,101,115,116,32]⟩:ByteArray)++v)++(⟨#[32]⟩:ByteArray))++v8)++(⟨#[45]⟩:ByteArray))++v12).size+(⟨#[32]⟩:ByteArray).size≤9223372036854775807 then
         (F.f19 x.to)>>=fun v16=>
         if(((((((⟨#[116,101,115,116,32]⟩:ByteArray)++v)++(⟨#[32]⟩:ByteArray))++v8)++(⟨#[45]⟩:ByteArray))++v12)++(⟨#[32]⟩:ByteArray)).size+v16.size≤9223372036854775807 then
          some ((((((((⟨#[116,101,115,116,32]⟩:ByteArray)++v)++(⟨#[32]⟩:ByteArray))++v8)++(⟨#[45]⟩:ByteArray))++v12)++(⟨#[32]⟩:ByteArray))++v16)
         else none
        else none
       else none
      else none
     else none
    else none
   else none
  else
   (F.f18 x.path)>>=fun v19=>
   if(⟨#[116,101,115,116,32]⟩:ByteArray).size+v19.size≤9223372036854775807 then
    if((⟨#[116,101,115,116,32]⟩:ByteArray)++v19).size+(⟨#[32,35]⟩:ByteArray).size≤9223372036854775807 then
     (F.f19 x.ctor)>>=fun v23=>
     if(((⟨#[116,101,115,116,32]⟩:ByteArray)++v19)++(⟨#[32,35]⟩:ByteArray)).size+v23.size≤9223372036854775807 then
      if((((⟨#[116,101,115,116,32]⟩:ByteArray)++v19)++(⟨#[32,35]⟩:ByteArray))++v23).size+(⟨#[32]⟩:ByteArray).size≤9223372036854775807 then
       (F.f19 x.to)>>=fun v27=>
       if(((((⟨#[116,101,115,116,32]⟩:ByteArray)++v19)++(⟨#[32,35]⟩:ByteArray))++v23)++(⟨#[32]⟩:ByteArray)).size+v27.size≤9223372036854775807 then
        some ((((((⟨#[116,101,115,116,32]⟩:ByteArray)++v19)++(⟨#[32,35]⟩:ByteArray))++v23)++(⟨#[32]⟩:ByteArray))++v27)
       else none
      else none
     else none
    else none
   else none
 else
  if x.op=2 then
   (F.f19 x.clause)>>=fun v32=>
   if(⟨#[116,97,107,101,32]⟩:ByteArray).size+v32.size≤9223372036854775807 then
    (F.f20 x ((⟨#[116,97,107,101,32]⟩:ByteArray)++v32) 0)>>=fun o'=>
    if o'.size+(⟨#[32]⟩:ByteArray).size≤9223372036854775807 then
     (F.f19 x.to)>>=fun v51=>
     if(o'++(⟨#[32]⟩:ByteArray)).size+v51.size≤9223372036854775807 then
      some ((o'++(⟨#[32]⟩:ByteArray))++v51)
     else none
    else none
   else none
  else
   some (⟨#[102,97,105,108]⟩:ByteArray)
def F.f22 (list:List Step)(out:ByteArray)(i:Nat):Option (ByteArray):=
 if i<list.length then
  (list[i]?)>>=fun x=>
  (F.f21 x)>>=fun v=>
  if out.size+v.size≤9223372036854775807 then
   if(out++v).size+(⟨#[10]⟩:ByteArray).size≤9223372036854775807 then
    F.f22 list ((out++v)++(⟨#[10]⟩:ByteArray)) (i+1)
   else none
  else none
 else
  some out
 partial_fixpoint
def F.f23 (list:List Step):Option (ByteArray):=
 (F.f22 list ByteArray.empty 0)>>=fun o'=>
 some o'
def F.f24 (i:Int):Option (ByteArray):=
 if -9223372036854775808≤i∧i≤9223372036854775807 then
  some (itoaN i)
 else none
def F.f25 (path:List Int)(out:ByteArray)(i:Nat):Option (ByteArray):=
 if i<path.length then
  (path[i]?)>>=fun x=>
  (F.f24 x)>>=fun v=>
  if(⟨#[46]⟩:ByteArray).size+v.size≤9223372036854775807 then
   if out.size+((⟨#[46]⟩:ByteArray)++v).size≤9223372036854775807 then
    F.f25 path (out++((⟨#[46]⟩:ByteArray)++v)) (i+1)
   else none
  else none
 else
  some out
 partial_fixpoint
def F.f26 (path:List Int):Option (ByteArray):=
 (F.f25 path (⟨#[118]⟩:ByteArray) 0)>>=fun o'=>
 some o'
def F.f27 (list:List Step)(i:Nat)(x:Step)(out47:List Int)(i48:Nat):Option (List Int):=
 if i48<x.binds.length then
  (x.binds[i48]?)>>=fun x52=>
  (F.f24 x52.var)>>=fun v54=>
  if(⟨#[32]⟩:ByteArray).size+v54.size≤9223372036854775807 then
   if((⟨#[32]⟩:ByteArray)++v54).size+(⟨#[61]⟩:ByteArray).size≤9223372036854775807 then
    (F.f26 x52.path)>>=fun v58=>
    if(((⟨#[32]⟩:ByteArray)++v54)++(⟨#[61]⟩:ByteArray)).size+v58.size≤9223372036854775807 then
     if out47.length+((((⟨#[32]⟩:ByteArray)++v54)++(⟨#[61]⟩:ByteArray))++v58).size≤1073741824 then
      F.f27 list i x (out47++bytesI ((((⟨#[32]⟩:ByteArray)++v54)++(⟨#[61]⟩:ByteArray))++v58)) (i48+1)
     else none
    else none
   else none
  else none
 else
  some out47
 partial_fixpoint
def F.f28 (list:List Step)(out:List Int)(i:Nat):Option (List Int):=
 if i<list.length then
  (list[i]?)>>=fun x=>
  if x.op=1 then
   (F.f24 x.ctor)>>=fun v=>
   if(⟨#[35]⟩:ByteArray).size+v.size≤9223372036854775807 then
    if x.ctor=(-1)then
     (F.f24 x.n)>>=fun v11=>
     if v11.size+(⟨#[45]⟩:ByteArray).size≤9223372036854775807 then
      (F.f24 x.m)>>=fun v14=>
      if(v11++(⟨#[45]⟩:ByteArray)).size+v14.size≤9223372036854775807 then
       (F.f26 x.path)>>=fun v17=>
       if(⟨#[116,101,115,116,32]⟩:ByteArray).size+v17.size≤9223372036854775807 then
        if((⟨#[116,101,115,116,32]⟩:ByteArray)++v17).size+(⟨#[32]⟩:ByteArray).size≤9223372036854775807 then
         if(((⟨#[116,101,115,116,32]⟩:ByteArray)++v17)++(⟨#[32]⟩:ByteArray)).size+((v11++(⟨#[45]⟩:ByteArray))++v14).size≤9223372036854775807 then
          if((((⟨#[116,101,115,116,32]⟩:ByteArray)++v17)++(⟨#[32]⟩:ByteArray))++((v11++(⟨#[45]⟩:ByteArray))++v14)).size+(⟨#[32]⟩:ByteArray).size≤9223372036854775807 then
           (F.f24 x.to)>>=fun v23=>
           if(((((⟨#[116,101,115,116,32]⟩:ByteArray)++v17)++(⟨#[32]⟩:ByteArray))++((v11++(⟨#[45]⟩:ByteArray))++v14))++(⟨#[32]⟩:ByteArray)).size+v23.size≤9223372036854775807 then
            if((((((⟨#[116,101,115,116,32]⟩:ByteArray)++v17)++(⟨#[32]⟩:ByteArray))++((v11++(⟨#[45]⟩:ByteArray))++v14))++(⟨#[32]⟩:ByteArray))++v23).size+(⟨#[10]⟩:ByteArray).size≤9223372036854775807 then
             if out.length+(((((((⟨#[116,101,115,116,32]⟩:ByteArray)++v17)++(⟨#[32]⟩:ByteArray))++((v11++(⟨#[45]⟩:ByteArray))++v14))++(⟨#[32]⟩:ByteArray))++v23)++(⟨#[10]⟩:ByteArray)).size≤1073741824 then
              F.f28 list (out++bytesI (((((((⟨#[116,101,115,116,32]⟩:ByteArray)++v17)++(⟨#[32]⟩:ByteArray))++((v11++(⟨#[45]⟩:ByteArray))++v14))++(⟨#[32]⟩:ByteArray))++v23)++(⟨#[10]⟩:ByteArray))) (i+1)
             else none
            else none
           else none
          else none
         else none
        else none
       else none
      else none
     else none
    else
     (F.f26 x.path)>>=fun v29=>
     if(⟨#[116,101,115,116,32]⟩:ByteArray).size+v29.size≤9223372036854775807 then
      if((⟨#[116,101,115,116,32]⟩:ByteArray)++v29).size+(⟨#[32]⟩:ByteArray).size≤9223372036854775807 then
       if(((⟨#[116,101,115,116,32]⟩:ByteArray)++v29)++(⟨#[32]⟩:ByteArray)).size+((⟨#[35]⟩:ByteArray)++v).size≤9223372036854775807 then
        if((((⟨#[116,101,115,116,32]⟩:ByteArray)++v29)++(⟨#[32]⟩:ByteArray))++((⟨#[35]⟩:ByteArray)++v)).size+(⟨#[32]⟩:ByteArray).size≤9223372036854775807 then
         (F.f24 x.to)>>=fun v35=>
         if(((((⟨#[116,101,115,116,32]⟩:ByteArray)++v29)++(⟨#[32]⟩:ByteArray))++((⟨#[35]⟩:ByteArray)++v))++(⟨#[32]⟩:ByteArray)).size+v35.size≤9223372036854775807 then
          if((((((⟨#[116,101,115,116,32]⟩:ByteArray)++v29)++(⟨#[32]⟩:ByteArray))++((⟨#[35]⟩:ByteArray)++v))++(⟨#[32]⟩:ByteArray))++v35).size+(⟨#[10]⟩:ByteArray).size≤9223372036854775807 then
           if out.length+(((((((⟨#[116,101,115,116,32]⟩:ByteArray)++v29)++(⟨#[32]⟩:ByteArray))++((⟨#[35]⟩:ByteArray)++v))++(⟨#[32]⟩:ByteArray))++v35)++(⟨#[10]⟩:ByteArray)).size≤1073741824 then
            F.f28 list (out++bytesI (((((((⟨#[116,101,115,116,32]⟩:ByteArray)++v29)++(⟨#[32]⟩:ByteArray))++((⟨#[35]⟩:ByteArray)++v))++(⟨#[32]⟩:ByteArray))++v35)++(⟨#[10]⟩:ByteArray))) (i+1)
           else none
          else none
         else none
        else none
       else none
      else none
     else none
   else none
  else
   if x.op=2 then
    (F.f24 x.clause)>>=fun v43=>
    if(⟨#[116,97,107,101,32]⟩:ByteArray).size+v43.size≤9223372036854775807 then
     if out.length+((⟨#[116,97,107,101,32]⟩:ByteArray)++v43).size≤1073741824 then
      (F.f27 list i x (out++bytesI ((⟨#[116,97,107,101,32]⟩:ByteArray)++v43)) 0)>>=fun o'=>
      (F.f24 x.to)>>=fun v64=>
      if(⟨#[32]⟩:ByteArray).size+v64.size≤9223372036854775807 then
       if((⟨#[32]⟩:ByteArray)++v64).size+(⟨#[10]⟩:ByteArray).size≤9223372036854775807 then
        if o'.length+(((⟨#[32]⟩:ByteArray)++v64)++(⟨#[10]⟩:ByteArray)).size≤1073741824 then
         if i+1≤9223372036854775807 then
          F.f28 list (o'++bytesI (((⟨#[32]⟩:ByteArray)++v64)++(⟨#[10]⟩:ByteArray))) (i+1)
         else none
        else none
       else none
      else none
     else none
    else none
   else
    if out.length+(⟨#[102,97,105,108,10]⟩:ByteArray).size≤1073741824 then
     F.f28 list (out++bytesI (⟨#[102,97,105,108,10]⟩:ByteArray)) (i+1)
    else none
 else
  some out
 partial_fixpoint
def F.f29 (list:List Step):Option (ByteArray):=
 (F.f28 list [] 0)>>=fun o'74=>
 if okB o'74∧o'74.length≤1073741824 then
  some (strB o'74)
 else none
def F.f30 (a:List Int)(b:List Int)(i:Nat):Option (Lo Bool Unit):=
 if i<a.length then
  (a[i]?)>>=fun x=>
  (b[i]?)>>=fun x8=>
  if x=x8 then
   F.f30 a b (i+1)
  else
   some (.ret false)
 else
  some (.go ())
 partial_fixpoint
def F.f31 (a:List Int)(b:List Int):Option (Bool):=
 if a.length=b.length then
  (F.f30 a b 0)>>=fun o'=>
  match o' with
  | .ret r0=>some r0
  | .go sx=>
   some true
 else
  some false
def F.f32 (a:PathBind)(b:PathBind):Option (Bool):=
 if a.var=b.var then
  (F.f31 a.path b.path)>>=fun v=>
  if v=true then
   some true
  else
   some false
 else
  some false
def F.f33 (a:List PathBind)(b:List PathBind)(i:Nat):Option (Lo Bool Unit):=
 if i<a.length then
  (a[i]?)>>=fun x=>
  (b[i]?)>>=fun x8=>
  (F.f32 x x8)>>=fun v=>
  if v=true then
   F.f33 a b (i+1)
  else
   some (.ret false)
 else
  some (.go ())
 partial_fixpoint
def F.f34 (a:List PathBind)(b:List PathBind):Option (Bool):=
 if a.length=b.length then
  (F.f33 a b 0)>>=fun o'=>
  match o' with
  | .ret r0=>some r0
  | .go sx=>
   some true
 else
  some false
def F.f35 (a:Step)(b:Step):Option (Bool):=
 if a.op=b.op then
  (F.f31 a.path b.path)>>=fun v=>
  if v=true then
   if a.ctor=b.ctor then
    if a.n=b.n then
     if a.m=b.m then
      if a.clause=b.clause then
       (F.f34 a.binds b.binds)>>=fun v14=>
       if v14=true then
        if a.to=b.to then
         some true
        else
         some false
       else
        some false
      else
       some false
     else
      some false
    else
     some false
   else
    some false
  else
   some false
 else
  some false
def F.f36 (a:List Step)(b:List Step)(i:Nat):Option (Lo Bool Unit):=
 if i<a.length then
  (a[i]?)>>=fun x=>
  (b[i]?)>>=fun x8=>
  (F.f35 x x8)>>=fun v=>
  if v=true then
   F.f36 a b (i+1)
  else
   some (.ret false)
 else
  some (.go ())
 partial_fixpoint
def F.f37 (a:List Step)(b:List Step):Option (Bool):=
 if a.length=b.length then
  (F.f36 a b 0)>>=fun o'=>
  match o' with
  | .ret r0=>some r0
  | .go sx=>
   some true
 else
  some false
def F.f38 (aList:List Step):Option (Bool):=
 (F.f6 aList 1048576)>>=fun v=>
 if v<0 then
  some true
 else
  (F.f14 aList)>>=fun v4=>
  (F.f23 v4)>>=fun v6=>
  (F.f14 aList)>>=fun v8=>
  (F.f29 v8)>>=fun v10=>
  if v10.toList=v6.toList then
   (F.f14 aList)>>=fun v14=>
   (F.f37 v8 v14)>>=fun v16=>
   if v16=true then
    some true
   else
    some false
  else
   some false
end
end Go.Vl
