/- The functions of the program as Lean functions (printed by gen.py). -/
import Derived.Test.YtojdombnghnbmaaVlG
import Derived.Test.YtojdombnghnbmaaVlDraw3
import Derived.Test.YtojdombnghnbmaaVlFa
import Derived.Test.YtojdombnghnbmaaVlSplit
import Derived.Test.YtojdombnghnbmaaVlDeep
import Derived.Test.YtojdombnghnbmaaVlMk
import Derived.Test.YtojdombnghnbmaaVlFork
import Derived.Test.YtojdombnghnbmaaVlFloatN
import Derived.Test.YtojdombnghnbmaaVlSwap
import Derived.Test.YtojdombnghnbmaaVlSeal
set_option linter.unusedVariables false
set_option synthInstance.maxSize 100000
set_option synthInstance.maxHeartbeats 4000000
set_option maxHeartbeats 4000000
set_option linter.unusedSimpArgs false
set_option linter.unusedVariables false
namespace Go.Vl
open Go
noncomputable section
def F.f0 (a:List Int)(left':Int):Option (Int):=
 if IntKind.i64.wrap (left'- (a.length:Int))<0 then
  some (-1:Int)
 else
  some (IntKind.i64.wrap (left'- (a.length:Int)))
def F.f1 (a:Vl.PathBind)(left':Int):Option (Int):=
 (F.f0 a.path left')>>=fun v=>
 if v<0 then
  some (-1:Int)
 else
  some v
def F.f2 (a:List Vl.PathBind)(left'3:Int)(i:Nat):Option (Lo Int Int):=
 if i<a.length then
  (a[i]?)>>=fun x=>
  (F.f1 x left'3)>>=fun v=>
  if v<0 then
   some (.ret (-1:Int))
  else
   F.f2 a v (i+1)
 else
  some (.go left'3)
 partial_fixpoint
def F.f3 (a:List Vl.PathBind)(left':Int):Option (Int):=
 if IntKind.i64.wrap (left'- (a.length:Int))<0 then
  some (-1:Int)
 else
  (F.f2 a (IntKind.i64.wrap (left'- (a.length:Int))) 0)>>=fun o'=>
  match o' with
  | .ret r0=>some r0
  | .go sx=>
   some sx
def F.f4 (a:List Vl.Edge)(left':Int):Option (Int):=
 if IntKind.i64.wrap (left'- (a.length:Int))<0 then
  some (-1:Int)
 else
  some (IntKind.i64.wrap (left'- (a.length:Int)))
def F.f5 (a:Vl.Node)(left':Int):Option (Int):=
 (F.f3 a.binds left')>>=fun v=>
 if v<0 then
  some (-1:Int)
 else
  (F.f0 a.path v)>>=fun v4=>
  if v4<0 then
   some (-1:Int)
  else
   (F.f4 a.edges v4)>>=fun v8=>
   if v8<0 then
    some (-1:Int)
   else
    some v8
def F.f6 (a:List Vl.Node)(left'3:Int)(i:Nat):Option (Lo Int Int):=
 if i<a.length then
  (a[i]?)>>=fun x=>
  (F.f5 x left'3)>>=fun v=>
  if v<0 then
   some (.ret (-1:Int))
  else
   F.f6 a v (i+1)
 else
  some (.go left'3)
 partial_fixpoint
def F.f7 (a:List Vl.Node)(left':Int):Option (Int):=
 if IntKind.i64.wrap (left'- (a.length:Int))<0 then
  some (-1:Int)
 else
  (F.f6 a (IntKind.i64.wrap (left'- (a.length:Int))) 0)>>=fun o'=>
  match o' with
  | .ret r0=>some r0
  | .go sx=>
   some sx
def F.f8 (a:List Int)(out:List Int)(i:Nat):Option (List Int):=
 if i<a.length then
  (a[i]?)>>=fun x=>
  (out[i]?)>>=fun x6=>
  F.f8 a (out.set i x) (i+1)
 else
  some out
 partial_fixpoint
def F.f9 (a:List Int):Option (List Int):=
 if a.length≤67108864 then
  (F.f8 a (List.replicate a.length (0:Int)) 0)>>=fun o'=>
  some o'
 else none
def F.f10 (a:Vl.PathBind):Option (Vl.PathBind):=
 (F.f9 a.path)>>=fun v=>
 some (⟨a.var,v⟩:Vl.PathBind)
def F.f11 (a:List Vl.PathBind)(out:List Vl.PathBind)(i:Nat):Option (List Vl.PathBind):=
 if i<a.length then
  (a[i]?)>>=fun x=>
  (F.f10 x)>>=fun v=>
  (out[i]?)>>=fun x7=>
  F.f11 a (out.set i v) (i+1)
 else
  some out
 partial_fixpoint
def F.f12 (a:List Vl.PathBind):Option (List Vl.PathBind):=
 if a.length≤67108864 then
  (F.f11 a (List.replicate a.length Vl.PathBind.z) 0)>>=fun o'=>
  some o'
 else none
def F.f13 (a:Vl.Edge):Option (Vl.Edge):=
 some a
def F.f14 (a:List Vl.Edge)(out:List Vl.Edge)(i:Nat):Option (List Vl.Edge):=
 if i<a.length then
  (a[i]?)>>=fun x=>
  (F.f13 x)>>=fun v=>
  (out[i]?)>>=fun x7=>
  F.f14 a (out.set i v) (i+1)
 else
  some out
 partial_fixpoint
def F.f15 (a:List Vl.Edge):Option (List Vl.Edge):=
 if a.length≤67108864 then
  (F.f14 a (List.replicate a.length Vl.Edge.z) 0)>>=fun o'=>
  some o'
 else none
def F.f16 (a:Vl.Node):Option (Vl.Node):=
 (F.f12 a.binds)>>=fun v=>
 (F.f9 a.path)>>=fun v2=>
 (F.f15 a.edges)>>=fun v4=>
 some (⟨a.op,a.clause,v,v2,v4,a.els⟩:Vl.Node)
def F.f17 (a:List Vl.Node)(out:List Vl.Node)(i:Nat):Option (List Vl.Node):=
 if i<a.length then
  (a[i]?)>>=fun x=>
  (F.f16 x)>>=fun v=>
  (out[i]?)>>=fun x7=>
  F.f17 a (out.set i v) (i+1)
 else
  some out
 partial_fixpoint
def F.f18 (a:List Vl.Node):Option (List Vl.Node):=
 if a.length≤67108864 then
  (F.f17 a (List.replicate a.length Vl.Node.z) 0)>>=fun o'=>
  some o'
 else none
def F.f19  :Option (Int):=
 some (-1:Int)
def F.f20 (list:List Vl.Node)(i:Nat)(x:Vl.Node)(k:Nat):Option (Lo Bool Unit):=
 if k<x.edges.length then
  (x.edges[k]?)>>=fun x26=>
  if x26.to<0 then
   some (.ret false)
  else
   if(i:Int)≤x26.to then
    some (.ret false)
   else
    F.f20 list i x (k+1)
 else
  some (.go ())
 partial_fixpoint
def F.f21 (list:List Vl.Node)(i:Nat):Option (Lo Bool Unit):=
 if i<list.length then
  (list[i]?)>>=fun x=>
  if x.op<0 then
   some (.ret false)
  else
   if 2<x.op then
    some (.ret false)
   else
    (F.f19)>>=fun v=>
    if x.els<v then
     some (.ret false)
    else
     if(i:Int)≤x.els then
      some (.ret false)
     else
      if 10<x.edges.length then
       some (.ret false)
      else
       (F.f20 list i x 0)>>=fun o'=>
       match o' with
       | .ret r0=>some (.ret r0)
       | .go sx=>
        if i+1≤9223372036854775807 then
         F.f21 list (i+1)
        else none
 else
  some (.go ())
 partial_fixpoint
def F.f22 (list:List Vl.Node):Option (Bool):=
 if list.length=0 then
  some false
 else
  if 300<list.length then
   some false
  else
   (F.f21 list 0)>>=fun o'37=>
   match o'37 with
   | .ret r039=>some r039
   | .go sx38=>
    some true
def F.f23 (list:List Vl.PathBind)(out:List Vl.PathBind)(i:Nat):Option (List Vl.PathBind):=
 if i<list.length then
  (list[i]?)>>=fun x=>
  if x.path.length≤67108864 then
   if out.length+1≤67108864 then
    F.f23 list (out++[x]) (i+1)
   else none
  else none
 else
  some out
 partial_fixpoint
def F.f24 (list:List Vl.PathBind):Option (List Vl.PathBind):=
 (F.f23 list [] 0)>>=fun o'=>
 some o'
mutual
def F.f25 (list:List Vl.Node)(at':Int)(left':Int):Option (Vl.Tree×Int):=
 if IntKind.i64.wrap (left'-1)<0 then
  some ((⟨(0:Int),(0:Int),[],[],[],[]⟩:Vl.Tree),IntKind.i64.wrap (left'-1))
 else
  (at? list at')>>=fun x=>
  (F.f24 x.binds)>>=fun v=>
  if x.path.length≤67108864 then
   (F.f26 list x v [] 0 (IntKind.i64.wrap (left'-1)))>>=fun o'=>
   if 0≤x.els then
    if 0≤o'.2 then
     (F.f25 list x.els o'.2)>>=fun v23=>
     some ((⟨x.op,x.clause,v,x.path,o'.1,[v23.1]⟩:Vl.Tree),v23.2)
    else
     some ((⟨x.op,x.clause,v,x.path,o'.1,[]⟩:Vl.Tree),o'.2)
   else
    some ((⟨x.op,x.clause,v,x.path,o'.1,[]⟩:Vl.Tree),o'.2)
  else none
 partial_fixpoint
def F.f26 (list:List Vl.Node)(x:Vl.Node)(v:List Vl.PathBind)(out:List Vl.Branch)(i:Nat)(left'6:Int):Option ((List Vl.Branch)×Int):=
 if i<x.edges.length then
  if 0≤left'6 then
   (x.edges[i]?)>>=fun x12=>
   (F.f25 list x12.to left'6)>>=fun v14=>
   if out.length+1≤67108864 then
    F.f26 list x v (out++[(⟨x12.ctor,x12.n,x12.m,v14.1⟩:Vl.Branch)]) (i+1) v14.2
   else none
  else
   some (out,left'6)
 else
  some (out,left'6)
 partial_fixpoint
end
def F.f27 (list:List Vl.Node):Option (Vl.Tree×Bool):=
 (F.f22 list)>>=fun v=>
 if v=true then
  (F.f25 list (IntKind.i64.wrap ((list.length:Int) -1)) (300:Int))>>=fun v4=>
  if v4.2<0 then
   some ((⟨(0:Int),(0:Int),[],[],[],[]⟩:Vl.Tree),false)
  else
   some (v4.1,true)
 else
  some ((⟨(0:Int),(0:Int),[],[],[],[]⟩:Vl.Tree),false)
def F.f28 (n:Int)(low:Int)(high:Int):Option (Bool):=
 if low≤n then
  some (decide (n≤high))
 else
  some false
def F.f29 (e:Vl.Edge)(a1:Int):Option (Bool):=
 (F.f28 e.to (0:Int) (IntKind.i64.wrap (a1-1)))>>=fun v=>
 some (!v)
def F.f30 (s:List Vl.Edge)(k0:Int)(i:Nat):Option (Lo Int Unit):=
 if i<s.length then
  (s[i]?)>>=fun x=>
  (F.f29 x k0)>>=fun v=>
  if v=true then
   some (.ret (i:Int))
  else
   F.f30 s k0 (i+1)
 else
  some (.go ())
 partial_fixpoint
def F.f31 (s:List Vl.Edge)(k0:Int):Option (Int):=
 (F.f30 s k0 0)>>=fun o'=>
 match o' with
 | .ret r0=>some r0
 | .go sx=>
  some (-1:Int)
def F.f32 (s:List Vl.Edge)(k0:Int):Option (Bool):=
 (F.f31 s k0)>>=fun v=>
 some (decide (0≤v))
def F.f33 (list:List Vl.Node)(i:Nat):Option (Lo Bool Unit):=
 if i<list.length then
  (list[i]?)>>=fun x=>
  (F.f28 x.op (0:Int) (2:Int))>>=fun v=>
  if v=true then
   if 10<x.edges.length then
    some (.ret false)
   else
    (F.f28 x.els (-1:Int) (IntKind.i64.wrap ((i:Int) -1)))>>=fun v11=>
    if v11=true then
     (F.f32 x.edges (i:Int))>>=fun v15=>
     if v15=true then
      some (.ret false)
     else
      F.f33 list (i+1)
    else
     some (.ret false)
  else
   some (.ret false)
 else
  some (.go ())
 partial_fixpoint
def F.f34 (list:List Vl.Node):Option (Bool):=
 (F.f33 list 0)>>=fun o'=>
 match o' with
 | .ret r0=>some r0
 | .go sx=>
  (F.f28 (list.length:Int) (1:Int) (300:Int))>>=fun v21=>
  some v21
def F.f35 (list:List Vl.Node)(i:Nat)(out:List Int)(x:Vl.Node)(i5:Nat)(size:Int):Option (Int):=
 if i5<x.edges.length then
  (x.edges[i5]?)>>=fun x9=>
  (at? out x9.to)>>=fun x11=>
  F.f35 list i out x (i5+1) (if 301<IntKind.i64.wrap (size+x11)then 301 else IntKind.i64.wrap (size+x11))
 else
  some size
 partial_fixpoint
def F.f36 (list:List Vl.Node)(i:Nat)(out:List Int):Option (List Int):=
 if i<list.length then
  (list[i]?)>>=fun x=>
  (F.f35 list i out x 0 (1:Int))>>=fun o'=>
  if 0≤x.els then
   (at? out x.els)>>=fun x17=>
   if out.length+1≤67108864 then
    if i+1≤9223372036854775807 then
     F.f36 list (i+1) (out++[if 301<IntKind.i64.wrap (o'+x17)then 301 else IntKind.i64.wrap (o'+x17)])
    else none
   else none
  else
   if out.length+1≤67108864 then
    if i+1≤9223372036854775807 then
     F.f36 list (i+1) (out++[o'])
    else none
   else none
 else
  some out
 partial_fixpoint
def F.f37 (list:List Vl.Node):Option (List Int):=
 (F.f36 list 0 [])>>=fun o'26=>
 some o'26
def F.f38 (s:List Int):Option (List Int):=
 if s.length≤67108864 then
  some s
 else none
def F.f39 (list:List Vl.PathBind)(out:List Vl.PathBind)(i:Nat):Option (List Vl.PathBind):=
 if i<list.length then
  (list[i]?)>>=fun x=>
  (F.f38 x.path)>>=fun v=>
  if out.length+1≤67108864 then
   F.f39 list (out++[(⟨x.var,v⟩:Vl.PathBind)]) (i+1)
  else none
 else
  some out
 partial_fixpoint
def F.f40 (list:List Vl.PathBind):Option (List Vl.PathBind):=
 (F.f39 list [] 0)>>=fun o'=>
 some o'
mutual
def F.f41 (list:List Vl.Node)(k:Int):Option (Vl.Tree):=
 (at? list k)>>=fun x=>
 (F.f40 x.binds)>>=fun v=>
 (F.f38 x.path)>>=fun v3=>
 (F.f42 list x v v3 [] 0)>>=fun o'=>
 if 0≤x.els then
  (F.f41 list x.els)>>=fun v23=>
  some (⟨x.op,x.clause,v,v3,o',[v23]⟩:Vl.Tree)
 else
  some (⟨x.op,x.clause,v,v3,o',[]⟩:Vl.Tree)
 partial_fixpoint
def F.f42 (list:List Vl.Node)(x:Vl.Node)(v:List Vl.PathBind)(v3:List Int)(out:List Vl.Branch)(i:Nat):Option (List Vl.Branch):=
 if i<x.edges.length then
  (x.edges[i]?)>>=fun x10=>
  (F.f41 list x10.to)>>=fun v12=>
  if out.length+1≤67108864 then
   F.f42 list x v v3 (out++[(⟨x10.ctor,x10.n,x10.m,v12⟩:Vl.Branch)]) (i+1)
  else none
 else
  some out
 partial_fixpoint
end
def F.f43 (list:List Vl.Node):Option (Vl.Tree×Bool):=
 (F.f34 list)>>=fun v=>
 if v=true then
  (F.f37 list)>>=fun v4=>
  (at? v4 (IntKind.i64.wrap ((list.length:Int) -1)))>>=fun x=>
  if 300<x then
   some ((⟨(0:Int),(0:Int),[],[],[],[]⟩:Vl.Tree),false)
  else
   (F.f41 list (IntKind.i64.wrap ((list.length:Int) -1)))>>=fun v9=>
   some (v9,true)
 else
  some ((⟨(0:Int),(0:Int),[],[],[],[]⟩:Vl.Tree),false)
def F.f44 (a:List Int)(b:List Int)(i:Nat):Option (Lo Bool Unit):=
 if i<a.length then
  (a[i]?)>>=fun x=>
  (b[i]?)>>=fun x8=>
  if x=x8 then
   F.f44 a b (i+1)
  else
   some (.ret false)
 else
  some (.go ())
 partial_fixpoint
def F.f45 (a:List Int)(b:List Int):Option (Bool):=
 if a.length=b.length then
  (F.f44 a b 0)>>=fun o'=>
  match o' with
  | .ret r0=>some r0
  | .go sx=>
   some true
 else
  some false
def F.f46 (a:Vl.PathBind)(b:Vl.PathBind):Option (Bool):=
 if a.var=b.var then
  (F.f45 a.path b.path)>>=fun v=>
  if v=true then
   some true
  else
   some false
 else
  some false
def F.f47 (a:List Vl.PathBind)(b:List Vl.PathBind)(i:Nat):Option (Lo Bool Unit):=
 if i<a.length then
  (a[i]?)>>=fun x=>
  (b[i]?)>>=fun x8=>
  (F.f46 x x8)>>=fun v=>
  if v=true then
   F.f47 a b (i+1)
  else
   some (.ret false)
 else
  some (.go ())
 partial_fixpoint
def F.f48 (a:List Vl.PathBind)(b:List Vl.PathBind):Option (Bool):=
 if a.length=b.length then
  (F.f47 a b 0)>>=fun o'=>
  match o' with
  | .ret r0=>some r0
  | .go sx=>
   some true
 else
  some false
mutual
def F.f49 (a:Vl.Branch)(b:Vl.Branch):Option (Bool):=
 if a.ctor=b.ctor then
  if a.n=b.n then
   if a.m=b.m then
    (F.f51 a.tree b.tree)>>=fun v=>
    if v=true then
     some true
    else
     some false
   else
    some false
  else
   some false
 else
  some false
 partial_fixpoint
def F.f50 (a:List Vl.Branch)(b:List Vl.Branch):Option (Bool):=
 if a.length=b.length then
  (F.f53 a b 0)>>=fun o'=>
  match o' with
  | .ret r0=>some r0
  | .go sx=>
   some true
 else
  some false
 partial_fixpoint
def F.f51 (a:Vl.Tree)(b:Vl.Tree):Option (Bool):=
 if a.op=b.op then
  if a.clause=b.clause then
   (F.f48 a.binds b.binds)>>=fun v=>
   if v=true then
    (F.f45 a.path b.path)>>=fun v8=>
    if v8=true then
     (F.f50 a.branches b.branches)>>=fun v12=>
     if v12=true then
      (F.f52 a.els b.els)>>=fun v16=>
      if v16=true then
       some true
      else
       some false
     else
      some false
    else
     some false
   else
    some false
  else
   some false
 else
  some false
 partial_fixpoint
def F.f52 (a:List Vl.Tree)(b:List Vl.Tree):Option (Bool):=
 if a.length=b.length then
  (F.f54 a b 0)>>=fun o'=>
  match o' with
  | .ret r0=>some r0
  | .go sx=>
   some true
 else
  some false
 partial_fixpoint
def F.f53 (a:List Vl.Branch)(b:List Vl.Branch)(i:Nat):Option (Lo Bool Unit):=
 if i<a.length then
  (a[i]?)>>=fun x=>
  (b[i]?)>>=fun x8=>
  (F.f49 x x8)>>=fun v=>
  if v=true then
   F.f53 a b (i+1)
  else
   some (.ret false)
 else
  some (.go ())
 partial_fixpoint
def F.f54 (a:List Vl.Tree)(b:List Vl.Tree)(i:Nat):Option (Lo Bool Unit):=
 if i<a.length then
  (a[i]?)>>=fun x=>
  (b[i]?)>>=fun x8=>
  (F.f51 x x8)>>=fun v=>
  if v=true then
   F.f54 a b (i+1)
  else
   some (.ret false)
 else
  some (.go ())
 partial_fixpoint
end
def F.f55 (a:Vl.Edge)(b:Vl.Edge):Option (Bool):=
 if a.ctor=b.ctor then
  if a.n=b.n then
   if a.m=b.m then
    if a.to=b.to then
     some true
    else
     some false
   else
    some false
  else
   some false
 else
  some false
def F.f56 (a:List Vl.Edge)(b:List Vl.Edge)(i:Nat):Option (Lo Bool Unit):=
 if i<a.length then
  (a[i]?)>>=fun x=>
  (b[i]?)>>=fun x8=>
  (F.f55 x x8)>>=fun v=>
  if v=true then
   F.f56 a b (i+1)
  else
   some (.ret false)
 else
  some (.go ())
 partial_fixpoint
def F.f57 (a:List Vl.Edge)(b:List Vl.Edge):Option (Bool):=
 if a.length=b.length then
  (F.f56 a b 0)>>=fun o'=>
  match o' with
  | .ret r0=>some r0
  | .go sx=>
   some true
 else
  some false
def F.f58 (a:Vl.Node)(b:Vl.Node):Option (Bool):=
 if a.op=b.op then
  if a.clause=b.clause then
   (F.f48 a.binds b.binds)>>=fun v=>
   if v=true then
    (F.f45 a.path b.path)>>=fun v8=>
    if v8=true then
     (F.f57 a.edges b.edges)>>=fun v12=>
     if v12=true then
      if a.els=b.els then
       some true
      else
       some false
     else
      some false
    else
     some false
   else
    some false
  else
   some false
 else
  some false
def F.f59 (a:List Vl.Node)(b:List Vl.Node)(i:Nat):Option (Lo Bool Unit):=
 if i<a.length then
  (a[i]?)>>=fun x=>
  (b[i]?)>>=fun x8=>
  (F.f58 x x8)>>=fun v=>
  if v=true then
   F.f59 a b (i+1)
  else
   some (.ret false)
 else
  some (.go ())
 partial_fixpoint
def F.f60 (a:List Vl.Node)(b:List Vl.Node):Option (Bool):=
 if a.length=b.length then
  (F.f59 a b 0)>>=fun o'=>
  match o' with
  | .ret r0=>some r0
  | .go sx=>
   some true
 else
  some false
def F.f61 (a:List Int)(k1:Int)(i:Nat):Option (Lo Int Int):=
 if i<a.length then
  (a[i]?)>>=fun x=>
  if x=k1 then
   F.f61 a (IntKind.i64.wrap (k1+1)) (i+1)
  else
   some (.ret (-1:Int))
 else
  some (.go k1)
 partial_fixpoint
def F.f62 (a:List Int)(k:Int):Option (Int):=
 (F.f61 a k 0)>>=fun o'=>
 match o' with
 | .ret r0=>some r0
 | .go sx=>
  some sx
def F.f63 (a:List Vl.PathBind)(k1:Int)(i:Nat):Option (Lo Int Int):=
 if i<a.length then
  (a[i]?)>>=fun x=>
  if x.var=k1 then
   (F.f62 x.path (IntKind.i64.wrap (k1+1)))>>=fun v=>
   if v<0 then
    some (.ret (-1:Int))
   else
    F.f63 a v (i+1)
  else
   some (.ret (-1:Int))
 else
  some (.go k1)
 partial_fixpoint
def F.f64 (a:List Vl.PathBind)(k:Int):Option (Int):=
 (F.f63 a k 0)>>=fun o'=>
 match o' with
 | .ret r0=>some r0
 | .go sx=>
  some sx
mutual
def F.f65 (a:List Vl.Branch)(k:Int):Option (Int):=
 (F.f67 a k 0)>>=fun o'=>
 match o' with
 | .ret r0=>some r0
 | .go sx=>
  some sx
 partial_fixpoint
def F.f66 (a:List Vl.Tree)(k:Int):Option (Int):=
 (F.f68 a k 0)>>=fun o'=>
 match o' with
 | .ret r0=>some r0
 | .go sx=>
  some sx
 partial_fixpoint
def F.f67 (a:List Vl.Branch)(k1:Int)(i:Nat):Option (Lo Int Int):=
 if i<a.length then
  (a[i]?)>>=fun x=>
  if x.ctor=k1 then
   if x.n=IntKind.i64.wrap (k1+1)then
    if x.m=IntKind.i64.wrap (IntKind.i64.wrap (k1+1)+1)then
     if x.tree.op=IntKind.i64.wrap (IntKind.i64.wrap (IntKind.i64.wrap (k1+1)+1)+1)then
      if x.tree.clause=IntKind.i64.wrap (IntKind.i64.wrap (IntKind.i64.wrap (IntKind.i64.wrap (k1+1)+1)+1)+1)then
       (F.f64 x.tree.binds (IntKind.i64.wrap (IntKind.i64.wrap (IntKind.i64.wrap (IntKind.i64.wrap (IntKind.i64.wrap (k1+1)+1)+1)+1)+1)))>>=fun v=>
       if v<0 then
        some (.ret (-1:Int))
       else
        (F.f62 x.tree.path v)>>=fun v19=>
        if v19<0 then
         some (.ret (-1:Int))
        else
         (F.f65 x.tree.branches v19)>>=fun v23=>
         if v23<0 then
          some (.ret (-1:Int))
         else
          (F.f66 x.tree.els v23)>>=fun v27=>
          if v27<0 then
           some (.ret (-1:Int))
          else
           F.f67 a v27 (i+1)
      else
       some (.ret (-1:Int))
     else
      some (.ret (-1:Int))
    else
     some (.ret (-1:Int))
   else
    some (.ret (-1:Int))
  else
   some (.ret (-1:Int))
 else
  some (.go k1)
 partial_fixpoint
def F.f68 (a:List Vl.Tree)(k1:Int)(i:Nat):Option (Lo Int Int):=
 if i<a.length then
  (a[i]?)>>=fun x=>
  if x.op=k1 then
   if x.clause=IntKind.i64.wrap (k1+1)then
    (F.f64 x.binds (IntKind.i64.wrap (IntKind.i64.wrap (k1+1)+1)))>>=fun v=>
    if v<0 then
     some (.ret (-1:Int))
    else
     (F.f62 x.path v)>>=fun v13=>
     if v13<0 then
      some (.ret (-1:Int))
     else
      (F.f65 x.branches v13)>>=fun v17=>
      if v17<0 then
       some (.ret (-1:Int))
      else
       (F.f66 x.els v17)>>=fun v21=>
       if v21<0 then
        some (.ret (-1:Int))
       else
        F.f68 a v21 (i+1)
   else
    some (.ret (-1:Int))
  else
   some (.ret (-1:Int))
 else
  some (.go k1)
 partial_fixpoint
end
def F.f69 (a:Vl.Tree)(k:Int):Option (Int):=
 (F.f64 a.binds k)>>=fun v=>
 if v<0 then
  some (-1:Int)
 else
  (F.f62 a.path v)>>=fun v4=>
  if v4<0 then
   some (-1:Int)
  else
   (F.f65 a.branches v4)>>=fun v8=>
   if v8<0 then
    some (-1:Int)
   else
    (F.f66 a.els v8)>>=fun v12=>
    if v12<0 then
     some (-1:Int)
    else
     some v12
def F.f70 (a:List Int)(k:Int):Option (List Int×Int):=some (mkI a k)
def F.f71 (a:List Vl.PathBind)(k:Int):Option (List Vl.PathBind×Int):=some (Vl.PathBind.mkL a k)
def F.f72 (a:List Vl.Edge)(k:Int):Option (List Vl.Edge×Int):=some (Vl.Edge.mkL a k)
def F.f73 (a:List Vl.Node)(k:Int):Option (List Vl.Node×Int):=some (Vl.Node.mkL a k)
def F.f74 (a:List Vl.Branch)(k:Int):Option (List Vl.Branch×Int):=some (Vl.Branch.mkL a k)
def F.f75 (a:List Vl.Tree)(k:Int):Option (List Vl.Tree×Int):=some (Vl.Tree.mkL a k)
def F.f76 (aList:List Vl.Node):Option (Bool):=
 (F.f7 aList (1048576:Int))>>=fun v=>
 if v<0 then
  some true
 else
  (F.f18 aList)>>=fun v4=>
  (F.f27 v4)>>=fun v6=>
  (F.f18 aList)>>=fun v8=>
  (F.f43 v8)>>=fun v10=>
  (F.f51 v10.1 v6.1)>>=fun v16=>
  if v16=true then
   if v10.2=v6.2 then
    (F.f18 aList)>>=fun v22=>
    (F.f60 v8 v22)>>=fun v24=>
    if v24=true then
     (F.f73 v8 1)>>=fun v28=>
     if v28.2<0 then
      some false
     else
      (F.f51 v10.1 v6.1)>>=fun v32=>
      if v32=true then
       (F.f71 v10.1.binds 1)>>=fun v36=>
       (F.f70 v10.1.path v36.2)>>=fun v38=>
       (F.f74 v10.1.branches v38.2)>>=fun v40=>
       (F.f75 v10.1.els v40.2)>>=fun v42=>
       (F.f69 (⟨v10.1.op,v10.1.clause,v36.1,v38.1,v40.1,v42.1⟩:Vl.Tree) (1:Int))>>=fun v44=>
       if v44<0 then
        some false
       else
        if v44=v42.2 then
         (F.f18 aList)>>=fun v50=>
         (F.f43 v50)>>=fun v52=>
         (F.f51 v52.1 v6.1)>>=fun v58=>
         if v58=true then
          if v52.2=v6.2 then
           (F.f69 (⟨v10.1.op,v10.1.clause,v36.1,v38.1,v40.1,v42.1⟩:Vl.Tree) (1:Int))>>=fun v64=>
           if v64<0 then
            some false
           else
            if v64=v42.2 then
             some true
            else
             some false
          else
           some false
         else
          some false
        else
         some false
      else
       some false
    else
     some false
   else
    some false
  else
   some false
end
end Go.Vl
