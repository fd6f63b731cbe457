/- The functions of the program as Lean functions (printed by gen.py). -/
import Derived.Test.YtbibfeagkocjlaaVlG
import Derived.Test.YtbibfeagkocjlaaVlDraw3
import Derived.Test.YtbibfeagkocjlaaVlFa
import Derived.Test.YtbibfeagkocjlaaVlSplit
import Derived.Test.YtbibfeagkocjlaaVlDeep
import Derived.Test.YtbibfeagkocjlaaVlMk
import Derived.Test.YtbibfeagkocjlaaVlFork
import Derived.Test.YtbibfeagkocjlaaVlFloatN
import Derived.Test.YtbibfeagkocjlaaVlSwap
import Derived.Test.YtbibfeagkocjlaaVlSeal
import Derived.Test.YtbibfeagkocjlaaVlBrd
import Derived.Test.YtbibfeagkocjlaaVlDgb
set_option linter.all false
set_option synthInstance.maxSize 100000
set_option synthInstance.maxHeartbeats 4000000
set_option maxHeartbeats 4000000
namespace Go.Vl
open Go
noncomputable section
def F.f0 (a:List Int)(left':Int):Option (Int):=
  if IntKind.i64.wrap (left'- (a.length:Int))<0 then
    some (-1)
  else
    some (IntKind.i64.wrap (left'- (a.length:Int)))
def F.f1 (a:PathBind)(left':Int):Option (Int):=
  (F.f0 a.path left')>>=fun v=>
  if v<0 then
    some (-1)
  else
    some v
def F.f2 (a:List PathBind)(left'3:Int)(i:Nat):Option (Lo Int Int):=
  if i<a.length then
    (a[i]?)>>=fun x=>
    (F.f1 x left'3)>>=fun v=>
    if v<0 then
      some (.ret (-1))
    else
      F.f2 a v (i+1)
  else
    some (.go left'3)
  partial_fixpoint
def F.f3 (a:List PathBind)(left':Int):Option (Int):=
  if IntKind.i64.wrap (left'- (a.length:Int))<0 then
    some (-1)
  else
    (F.f2 a (IntKind.i64.wrap (left'- (a.length:Int))) 0)>>=fun o'=>
    match o' with
    | .ret r0=>some r0
    | .go sx=>
      some sx
mutual
def F.f4 (a:Branch)(left':Int):Option (Int):=
  (F.f6 a.tree left')>>=fun v=>
  if v<0 then
    some (-1)
  else
    some v
  partial_fixpoint
def F.f5 (a:List Branch)(left':Int):Option (Int):=
  if IntKind.i64.wrap (left'- (a.length:Int))<0 then
    some (-1)
  else
    (F.f8 a (IntKind.i64.wrap (left'- (a.length:Int))) 0)>>=fun o'=>
    match o' with
    | .ret r0=>some r0
    | .go sx=>
      some sx
  partial_fixpoint
def F.f6 (a:Tree)(left':Int):Option (Int):=
  (F.f3 a.binds left')>>=fun v=>
  if v<0 then
    some (-1)
  else
    (F.f0 a.path v)>>=fun v4=>
    if v4<0 then
      some (-1)
    else
      (F.f5 a.branches v4)>>=fun v8=>
      if v8<0 then
        some (-1)
      else
        (F.f7 a.els v8)>>=fun v12=>
        if v12<0 then
          some (-1)
        else
          some v12
  partial_fixpoint
def F.f7 (a:List Tree)(left':Int):Option (Int):=
  if IntKind.i64.wrap (left'- (a.length:Int))<0 then
    some (-1)
  else
    (F.f9 a (IntKind.i64.wrap (left'- (a.length:Int))) 0)>>=fun o'=>
    match o' with
    | .ret r0=>some r0
    | .go sx=>
      some sx
  partial_fixpoint
def F.f8 (a:List Branch)(left'3:Int)(i:Nat):Option (Lo Int Int):=
  if i<a.length then
    (a[i]?)>>=fun x=>
    (F.f4 x left'3)>>=fun v=>
    if v<0 then
      some (.ret (-1))
    else
      F.f8 a v (i+1)
  else
    some (.go left'3)
  partial_fixpoint
def F.f9 (a:List Tree)(left'3:Int)(i:Nat):Option (Lo Int Int):=
  if i<a.length then
    (a[i]?)>>=fun x=>
    (F.f6 x left'3)>>=fun v=>
    if v<0 then
      some (.ret (-1))
    else
      F.f9 a v (i+1)
  else
    some (.go left'3)
  partial_fixpoint
end
def F.f10 (a:List Int)(out:List Int)(i:Nat):Option (List Int):=
  if i<a.length then
    (a[i]?)>>=fun x=>
    (out[i]?)>>=fun x6=>
    F.f10 a (out.set i x) (i+1)
  else
    some out
  partial_fixpoint
def F.f11 (a:List Int):Option (List Int):=
  if a.length≤67108864 then
    (F.f10 a (List.replicate a.length 0) 0)>>=fun o'=>
    some o'
  else none
def F.f12 (a:PathBind):Option (PathBind):=
  (F.f11 a.path)>>=fun v=>
  some (⟨a.var,v⟩:PathBind)
def F.f13 (a:List PathBind)(out:List PathBind)(i:Nat):Option (List PathBind):=
  if i<a.length then
    (a[i]?)>>=fun x=>
    (F.f12 x)>>=fun v=>
    (out[i]?)>>=fun x7=>
    F.f13 a (out.set i v) (i+1)
  else
    some out
  partial_fixpoint
def F.f14 (a:List PathBind):Option (List PathBind):=
  if a.length≤67108864 then
    (F.f13 a (List.replicate a.length PathBind.z) 0)>>=fun o'=>
    some o'
  else none
mutual
def F.f15 (a:Branch):Option (Branch):=
  (F.f17 a.tree)>>=fun v=>
  some (⟨a.ctor,a.n,a.m,v⟩:Branch)
  partial_fixpoint
def F.f16 (a:List Branch):Option (List Branch):=
  if a.length≤67108864 then
    (F.f19 a (List.replicate a.length Branch.z) 0)>>=fun o'=>
    some o'
  else none
  partial_fixpoint
def F.f17 (a:Tree):Option (Tree):=
  (F.f14 a.binds)>>=fun v=>
  (F.f11 a.path)>>=fun v2=>
  (F.f16 a.branches)>>=fun v4=>
  (F.f18 a.els)>>=fun v6=>
  some (⟨a.op,a.clause,v,v2,v4,v6⟩:Tree)
  partial_fixpoint
def F.f18 (a:List Tree):Option (List Tree):=
  if a.length≤67108864 then
    (F.f20 a (List.replicate a.length Tree.z) 0)>>=fun o'=>
    some o'
  else none
  partial_fixpoint
def F.f19 (a:List Branch)(out:List Branch)(i:Nat):Option (List Branch):=
  if i<a.length then
    (a[i]?)>>=fun x=>
    (F.f15 x)>>=fun v=>
    (out[i]?)>>=fun x7=>
    F.f19 a (out.set i v) (i+1)
  else
    some out
  partial_fixpoint
def F.f20 (a:List Tree)(out:List Tree)(i:Nat):Option (List Tree):=
  if i<a.length then
    (a[i]?)>>=fun x=>
    (F.f17 x)>>=fun v=>
    (out[i]?)>>=fun x7=>
    F.f20 a (out.set i v) (i+1)
  else
    some out
  partial_fixpoint
end
mutual
def F.f21 (x:Tree)(most:Int):Option (Int):=
  (F.f22 x most 1 0)>>=fun o'=>
  (F.f23 x most o' 0)>>=fun o'24=>
  some o'24
  partial_fixpoint
def F.f22 (x:Tree)(most:Int)(n:Int)(i:Nat):Option (Int):=
  if i<x.branches.length then
    if n≤most then
      (x.branches[i]?)>>=fun x6=>
      (F.f21 x6.tree (IntKind.i64.wrap (most-n)))>>=fun v=>
      F.f22 x most (IntKind.i64.wrap (n+v)) (i+1)
    else
      some n
  else
    some n
  partial_fixpoint
def F.f23 (x:Tree)(most:Int)(n11:Int)(i12:Nat):Option (Int):=
  if i12<x.els.length then
    if n11≤most then
      (x.els[i12]?)>>=fun x18=>
      (F.f21 x18 (IntKind.i64.wrap (most-n11)))>>=fun v20=>
      F.f23 x most (IntKind.i64.wrap (n11+v20)) (i12+1)
    else
      some n11
  else
    some n11
  partial_fixpoint
end
mutual
def F.f24 (x:Tree):Option (Bool):=
  if x.op<0 then
    some false
  else
    if 2<x.op then
      some false
    else
      if 1<x.els.length then
        some false
      else
        if 10<x.branches.length then
          some false
        else
          (F.f25 x 0)>>=fun o'=>
          match o' with
          | .ret r0=>some r0
          | .go sx=>
            if x.els.length=0 then
              some true
            else
              (x.els[0]?)>>=fun x24=>
              (F.f24 x24)>>=fun v26=>
              some v26
  partial_fixpoint
def F.f25 (x:Tree)(i:Nat):Option (Lo Bool Unit):=
  if i<x.branches.length then
    (x.branches[i]?)>>=fun x14=>
    (F.f24 x14.tree)>>=fun v=>
    if v=true then
      F.f25 x (i+1)
    else
      some (.ret false)
  else
    some (.go ())
  partial_fixpoint
end
def F.f26 (list:List PathBind)(out:List PathBind)(i:Nat):Option (List PathBind):=
  if i<list.length then
    (list[i]?)>>=fun x=>
    if x.path.length≤67108864 then
      if out.length+1≤67108864 then
        F.f26 list (out++[x]) (i+1)
      else none
    else none
  else
    some out
  partial_fixpoint
def F.f27 (list:List PathBind):Option (List PathBind):=
  (F.f26 list [] 0)>>=fun o'=>
  some o'
def F.f28  :Option (Int):=
  some (-1)
def F.f29 (a:List Int)(b:List Int)(i:Nat):Option (Lo Bool Unit):=
  if i<a.length then
    (a[i]?)>>=fun x=>
    (b[i]?)>>=fun x8=>
    if x=x8 then
      F.f29 a b (i+1)
    else
      some (.ret false)
  else
    some (.go ())
  partial_fixpoint
def F.f30 (a:List Int)(b:List Int):Option (Bool):=
  if a.length=b.length then
    (F.f29 a b 0)>>=fun o'=>
    match o' with
    | .ret r0=>some r0
    | .go sx=>
      some true
  else
    some false
def F.f31 (a:List PathBind)(b:List PathBind)(i:Nat):Option (Lo Bool Unit):=
  if i<a.length then
    (a[i]?)>>=fun x=>
    (b[i]?)>>=fun x8=>
    if x.var=x8.var then
      (F.f30 x.path x8.path)>>=fun v=>
      if v=true then
        F.f31 a b (i+1)
      else
        some (.ret false)
    else
      some (.ret false)
  else
    some (.go ())
  partial_fixpoint
def F.f32 (a:List PathBind)(b:List PathBind):Option (Bool):=
  if a.length=b.length then
    (F.f31 a b 0)>>=fun o'=>
    match o' with
    | .ret r0=>some r0
    | .go sx=>
      some true
  else
    some false
def F.f33 (a:Vl.Node)(b:Vl.Node)(i:Nat):Option (Lo Bool Unit):=
  if i<a.edges.length then
    (a.edges[i]?)>>=fun x=>
    (b.edges[i]?)>>=fun x21=>
    if dec (eq4 (x.ctor,x.n,x.m,x.to) (x21.ctor,x21.n,x21.m,x21.to))=true then
      F.f33 a b (i+1)
    else
      some (.ret false)
  else
    some (.go ())
  partial_fixpoint
def F.f34 (a:Vl.Node)(b:Vl.Node):Option (Bool):=
  if a.op=b.op then
    if a.clause=b.clause then
      if a.els=b.els then
        (F.f32 a.binds b.binds)>>=fun v=>
        if v=true then
          (F.f30 a.path b.path)>>=fun v10=>
          if v10=true then
            if a.edges.length=b.edges.length then
              (F.f33 a b 0)>>=fun o'=>
              match o' with
              | .ret r0=>some r0
              | .go sx=>
                some true
            else
              some false
          else
            some false
        else
          some false
      else
        some false
    else
      some false
  else
    some false
def F.f35 (x:Tree)(v:List PathBind)(o':(List Vl.Edge)×(List Vl.Node))(v21:(List Vl.Node)×Int)(i23:Nat):Option (Lo ((List Vl.Node)×Int) Unit):=
  if i23<v21.1.length then
    (v21.1[i23]?)>>=fun x27=>
    (F.f34 x27 (⟨x.op,x.clause,v,x.path,o'.1,v21.2⟩:Vl.Node))>>=fun v29=>
    if v29=true then
      some (.ret (v21.1,(i23:Int)))
    else
      F.f35 x v o' v21 (i23+1)
  else
    some (.go ())
  partial_fixpoint
def F.f36 (x:Tree)(v:List PathBind)(v3:Int)(o':(List Vl.Edge)×(List Vl.Node))(i37:Nat):Option (Lo ((List Vl.Node)×Int) Unit):=
  if i37<o'.2.length then
    (o'.2[i37]?)>>=fun x41=>
    (F.f34 x41 (⟨x.op,x.clause,v,x.path,o'.1,v3⟩:Vl.Node))>>=fun v43=>
    if v43=true then
      some (.ret (o'.2,(i37:Int)))
    else
      F.f36 x v v3 o' (i37+1)
  else
    some (.go ())
  partial_fixpoint
mutual
def F.f37 (list:List Vl.Node)(x:Tree):Option ((List Vl.Node)×Int):=
  (F.f27 x.binds)>>=fun v=>
  if x.path.length≤67108864 then
    (F.f28)>>=fun v3=>
    (F.f38 x v v3 [] list 0)>>=fun o'=>
    if 0<x.els.length then
      (x.els[0]?)>>=fun x19=>
      (F.f37 o'.2 x19)>>=fun v21=>
      (F.f35 x v o' v21 0)>>=fun o'35=>
      match o'35 with
      | .ret r0=>some r0
      | .go sx=>
        if v21.1.length+1≤67108864 then
          some (v21.1++[(⟨x.op,x.clause,v,x.path,o'.1,v21.2⟩:Vl.Node)],(v21.1.length:Int))
        else none
    else
      (F.f36 x v v3 o' 0)>>=fun o'49=>
      match o'49 with
      | .ret r052=>some r052
      | .go sx50=>
        if o'.2.length+1≤67108864 then
          some (o'.2++[(⟨x.op,x.clause,v,x.path,o'.1,v3⟩:Vl.Node)],(o'.2.length:Int))
        else none
  else none
  partial_fixpoint
def F.f38 (x:Tree)(v:List PathBind)(v3:Int)(out:List Vl.Edge)(list5:List Vl.Node)(i:Nat):Option ((List Vl.Edge)×(List Vl.Node)):=
  if i<x.branches.length then
    (x.branches[i]?)>>=fun x9=>
    (F.f37 list5 x9.tree)>>=fun v11=>
    if out.length+1≤67108864 then
      F.f38 x v v3 (out++[(⟨x9.ctor,x9.n,x9.m,v11.2⟩:Vl.Edge)]) v11.1 (i+1)
    else none
  else
    some (out,list5)
  partial_fixpoint
end
def F.f39 (x:Tree):Option ((List Vl.Node)×Bool):=
  (F.f21 x 300)>>=fun v=>
  if 300<v then
    some ([],false)
  else
    (F.f24 x)>>=fun v4=>
    if v4=true then
      (F.f37 [] x)>>=fun v8=>
      some (v8.1,true)
    else
      some ([],false)
def F.f40 (x:Tree)(out:List Tree)(i:Nat):Option (List Tree):=
  if i<x.branches.length then
    (x.branches[i]?)>>=fun x4=>
    if out.length+1≤67108864 then
      F.f40 x (out++[x4.tree]) (i+1)
    else none
  else
    some out
  partial_fixpoint
def F.f41 (x:Tree):Option (List Tree):=
  (F.f40 x [] 0)>>=fun o'=>
  if o'.length+x.els.length≤67108864 then
    some (o'++x.els)
  else none
mutual
def F.f42 (x:Tree):Option (Int):=
  (F.f41 x)>>=fun v=>
  (F.f43 v 1 0)>>=fun o'=>
  some o'
  partial_fixpoint
def F.f43 (v:List Tree)(n:Int)(i:Nat):Option (Int):=
  if i<v.length then
    (v[i]?)>>=fun x5=>
    (F.f42 x5)>>=fun v7=>
    F.f43 v (IntKind.i64.wrap (n+v7)) (i+1)
  else
    some n
  partial_fixpoint
end
def F.f44 (n:Int)(low:Int)(high:Int):Option (Bool):=
  if low≤n then
    some (decide (n≤high))
  else
    some false
mutual
def F.f45 (x:Tree):Option (Bool):=
  (F.f44 x.op 0 2)>>=fun v=>
  if v=true then
    if x.branches.length≤10 then
      if x.els.length≤1 then
        (F.f41 x)>>=fun v10=>
        (F.f47 v10)>>=fun v12=>
        some (!v12)
      else
        some false
    else
      some false
  else
    some false
  partial_fixpoint
def F.f46 (y:Tree):Option (Bool):=
  (F.f45 y)>>=fun v=>
  some (!v)
  partial_fixpoint
def F.f47 (s:List Tree):Option (Bool):=
  (F.f48 s)>>=fun v=>
  some (decide (0≤v))
  partial_fixpoint
def F.f48 (s:List Tree):Option (Int):=
  (F.f49 s 0)>>=fun o'=>
  match o' with
  | .ret r0=>some r0
  | .go sx=>
    some (-1)
  partial_fixpoint
def F.f49 (s:List Tree)(i:Nat):Option (Lo Int Unit):=
  if i<s.length then
    (s[i]?)>>=fun x=>
    (F.f46 x)>>=fun v=>
    if v=true then
      some (.ret (i:Int))
    else
      F.f49 s (i+1)
  else
    some (.go ())
  partial_fixpoint
end
def F.f50 (s:List Int):Option (List Int):=
  if s.length≤67108864 then
    some s
  else none
def F.f51 (list:List PathBind)(out:List PathBind)(i:Nat):Option (List PathBind):=
  if i<list.length then
    (list[i]?)>>=fun x=>
    (F.f50 x.path)>>=fun v=>
    if out.length+1≤67108864 then
      F.f51 list (out++[(⟨x.var,v⟩:PathBind)]) (i+1)
    else none
  else
    some out
  partial_fixpoint
def F.f52 (list:List PathBind):Option (List PathBind):=
  (F.f51 list [] 0)>>=fun o'=>
  some o'
def F.f53 (s1:List Int)(s2:List Int)(i:Nat):Option (Lo Bool Unit):=
  if i<s1.length then
    (s1[i]?)>>=fun x=>
    (s2[i]?)>>=fun x8=>
    if x=x8 then
      F.f53 s1 s2 (i+1)
    else
      some (.ret false)
  else
    some (.go ())
  partial_fixpoint
def F.f54 (s1:List Int)(s2:List Int):Option (Bool):=
  if s1.length=s2.length then
    (F.f53 s1 s2 0)>>=fun o'=>
    match o' with
    | .ret r0=>some r0
    | .go sx=>
      some true
  else
    some false
def F.f55 (x:PathBind)(y:PathBind):Option (Bool):=
  if x.var=y.var then
    (F.f54 x.path y.path)>>=fun v=>
    some v
  else
    some false
def F.f56 (s1:List PathBind)(s2:List PathBind)(i:Nat):Option (Lo Bool Unit):=
  if i<s1.length then
    (s1[i]?)>>=fun x=>
    (s2[i]?)>>=fun x8=>
    (F.f55 x x8)>>=fun v=>
    if v=true then
      F.f56 s1 s2 (i+1)
    else
      some (.ret false)
  else
    some (.go ())
  partial_fixpoint
def F.f57 (s1:List PathBind)(s2:List PathBind):Option (Bool):=
  if s1.length=s2.length then
    (F.f56 s1 s2 0)>>=fun o'=>
    match o' with
    | .ret r0=>some r0
    | .go sx=>
      some true
  else
    some false
def F.f58 (a:List PathBind)(b:List PathBind):Option (Bool):=
  (F.f57 a b)>>=fun v=>
  some v
def F.f59 (s1:List Vl.Edge)(s2:List Vl.Edge)(i:Nat):Option (Lo Bool Unit):=
  if i<s1.length then
    (s1[i]?)>>=fun x=>
    (s2[i]?)>>=fun x8=>
    if dec (eq4 (x.ctor,x.n,x.m,x.to) (x8.ctor,x8.n,x8.m,x8.to))=true then
      F.f59 s1 s2 (i+1)
    else
      some (.ret false)
  else
    some (.go ())
  partial_fixpoint
def F.f60 (s1:List Vl.Edge)(s2:List Vl.Edge):Option (Bool):=
  if s1.length=s2.length then
    (F.f59 s1 s2 0)>>=fun o'=>
    match o' with
    | .ret r0=>some r0
    | .go sx=>
      some true
  else
    some false
def F.f61 (a:Vl.Node)(b:Vl.Node):Option (Bool):=
  if a.op=b.op then
    if a.clause=b.clause then
      (F.f58 a.binds b.binds)>>=fun v=>
      if v=true then
        (F.f54 a.path b.path)>>=fun v8=>
        if v8=true then
          (F.f60 a.edges b.edges)>>=fun v12=>
          if v12=true then
            some (decide (a.els=b.els))
          else
            some false
        else
          some false
      else
        some false
    else
      some false
  else
    some false
def F.f62 (m:Vl.Node)(a1:Vl.Node):Option (Bool):=
  (F.f61 m a1)>>=fun v=>
  some v
def F.f63 (s:List Vl.Node)(k0:Vl.Node)(i:Nat):Option (Lo Int Unit):=
  if i<s.length then
    (s[i]?)>>=fun x=>
    (F.f62 x k0)>>=fun v=>
    if v=true then
      some (.ret (i:Int))
    else
      F.f63 s k0 (i+1)
  else
    some (.go ())
  partial_fixpoint
def F.f64 (s:List Vl.Node)(k0:Vl.Node):Option (Int):=
  (F.f63 s k0 0)>>=fun o'=>
  match o' with
  | .ret r0=>some r0
  | .go sx=>
    some (-1)
mutual
def F.f65 (x:Tree)(list:List Vl.Node):Option (Int×(List Vl.Node)):=
  (F.f52 x.binds)>>=fun v=>
  (F.f50 x.path)>>=fun v3=>
  (F.f66 x v v3 [] list 0)>>=fun o'=>
  (F.f67 x v v3 o' (-1) o'.2 0)>>=fun o'43=>
  (F.f64 o'43.2 (⟨x.op,x.clause,v,v3,o'.1,o'43.1⟩:Vl.Node))>>=fun v44=>
  if v44<0 then
    if o'43.2.length+1≤67108864 then
      some ((o'43.2.length:Int),o'43.2++[(⟨x.op,x.clause,v,v3,o'.1,o'43.1⟩:Vl.Node)])
    else none
  else
    some (v44,o'43.2)
  partial_fixpoint
def F.f66 (x:Tree)(v:List PathBind)(v3:List Int)(out:List Vl.Edge)(out5:List Vl.Node)(i:Nat):Option ((List Vl.Edge)×(List Vl.Node)):=
  if i<x.branches.length then
    (x.branches[i]?)>>=fun x13=>
    (F.f65 x13.tree out5)>>=fun v15=>
    if out.length+1≤67108864 then
      F.f66 x v v3 (out++[(⟨x13.ctor,x13.n,x13.m,v15.1⟩:Vl.Edge)]) v15.2 (i+1)
    else none
  else
    some (out,out5)
  partial_fixpoint
def F.f67 (x:Tree)(v:List PathBind)(v3:List Int)(o':(List Vl.Edge)×(List Vl.Node))(z:Int)(out23:List Vl.Node)(i27:Nat):Option (Int×(List Vl.Node)):=
  if i27<x.els.length then
    (x.els[i27]?)>>=fun x34=>
    (F.f65 x34 out23)>>=fun v36=>
    F.f67 x v v3 o' v36.1 v36.2 (i27+1)
  else
    some (z,out23)
  partial_fixpoint
end
def F.f68 (x:Tree):Option ((List Vl.Node)×Bool):=
  (F.f42 x)>>=fun v=>
  if 300<v then
    some ([],false)
  else
    (F.f45 x)>>=fun v4=>
    if v4=true then
      (F.f65 x [])>>=fun v8=>
      some (v8.2,true)
    else
      some ([],false)
def F.f69 (a:List Int)(b:List Int)(i:Nat):Option (Lo Bool Unit):=
  if i<a.length then
    (a[i]?)>>=fun x=>
    (b[i]?)>>=fun x8=>
    if x=x8 then
      F.f69 a b (i+1)
    else
      some (.ret false)
  else
    some (.go ())
  partial_fixpoint
def F.f70 (a:List Int)(b:List Int):Option (Bool):=
  if a.length=b.length then
    (F.f69 a b 0)>>=fun o'=>
    match o' with
    | .ret r0=>some r0
    | .go sx=>
      some true
  else
    some false
def F.f71 (a:PathBind)(b:PathBind):Option (Bool):=
  if a.var=b.var then
    (F.f70 a.path b.path)>>=fun v=>
    if v=true then
      some true
    else
      some false
  else
    some false
def F.f72 (a:List PathBind)(b:List PathBind)(i:Nat):Option (Lo Bool Unit):=
  if i<a.length then
    (a[i]?)>>=fun x=>
    (b[i]?)>>=fun x8=>
    (F.f71 x x8)>>=fun v=>
    if v=true then
      F.f72 a b (i+1)
    else
      some (.ret false)
  else
    some (.go ())
  partial_fixpoint
def F.f73 (a:List PathBind)(b:List PathBind):Option (Bool):=
  if a.length=b.length then
    (F.f72 a b 0)>>=fun o'=>
    match o' with
    | .ret r0=>some r0
    | .go sx=>
      some true
  else
    some false
def F.f74 (a:Vl.Edge)(b:Vl.Edge):Option (Bool):=
  if a.ctor=b.ctor then
    if a.n=b.n then
      if a.m=b.m then
        if a.to=b.to then
          some true
        else
          some false
      else
        some false
    else
      some false
  else
    some false
def F.f75 (a:List Vl.Edge)(b:List Vl.Edge)(i:Nat):Option (Lo Bool Unit):=
  if i<a.length then
    (a[i]?)>>=fun x=>
    (b[i]?)>>=fun x8=>
    (F.f74 x x8)>>=fun v=>
    if v=true then
      F.f75 a b (i+1)
    else
      some (.ret false)
  else
    some (.go ())
  partial_fixpoint
def F.f76 (a:List Vl.Edge)(b:List Vl.Edge):Option (Bool):=
  if a.length=b.length then
    (F.f75 a b 0)>>=fun o'=>
    match o' with
    | .ret r0=>some r0
    | .go sx=>
      some true
  else
    some false
def F.f77 (a:Vl.Node)(b:Vl.Node):Option (Bool):=
  if a.op=b.op then
    if a.clause=b.clause then
      (F.f73 a.binds b.binds)>>=fun v=>
      if v=true then
        (F.f70 a.path b.path)>>=fun v8=>
        if v8=true then
          (F.f76 a.edges b.edges)>>=fun v12=>
          if v12=true then
            if a.els=b.els then
              some true
            else
              some false
          else
            some false
        else
          some false
      else
        some false
    else
      some false
  else
    some false
def F.f78 (a:List Vl.Node)(b:List Vl.Node)(i:Nat):Option (Lo Bool Unit):=
  if i<a.length then
    (a[i]?)>>=fun x=>
    (b[i]?)>>=fun x8=>
    (F.f77 x x8)>>=fun v=>
    if v=true then
      F.f78 a b (i+1)
    else
      some (.ret false)
  else
    some (.go ())
  partial_fixpoint
def F.f79 (a:List Vl.Node)(b:List Vl.Node):Option (Bool):=
  if a.length=b.length then
    (F.f78 a b 0)>>=fun o'=>
    match o' with
    | .ret r0=>some r0
    | .go sx=>
      some true
  else
    some false
mutual
def F.f80 (a:Branch)(b:Branch):Option (Bool):=
  if a.ctor=b.ctor then
    if a.n=b.n then
      if a.m=b.m then
        (F.f82 a.tree b.tree)>>=fun v=>
        if v=true then
          some true
        else
          some false
      else
        some false
    else
      some false
  else
    some false
  partial_fixpoint
def F.f81 (a:List Branch)(b:List Branch):Option (Bool):=
  if a.length=b.length then
    (F.f84 a b 0)>>=fun o'=>
    match o' with
    | .ret r0=>some r0
    | .go sx=>
      some true
  else
    some false
  partial_fixpoint
def F.f82 (a:Tree)(b:Tree):Option (Bool):=
  if a.op=b.op then
    if a.clause=b.clause then
      (F.f73 a.binds b.binds)>>=fun v=>
      if v=true then
        (F.f70 a.path b.path)>>=fun v8=>
        if v8=true then
          (F.f81 a.branches b.branches)>>=fun v12=>
          if v12=true then
            (F.f83 a.els b.els)>>=fun v16=>
            if v16=true then
              some true
            else
              some false
          else
            some false
        else
          some false
      else
        some false
    else
      some false
  else
    some false
  partial_fixpoint
def F.f83 (a:List Tree)(b:List Tree):Option (Bool):=
  if a.length=b.length then
    (F.f85 a b 0)>>=fun o'=>
    match o' with
    | .ret r0=>some r0
    | .go sx=>
      some true
  else
    some false
  partial_fixpoint
def F.f84 (a:List Branch)(b:List Branch)(i:Nat):Option (Lo Bool Unit):=
  if i<a.length then
    (a[i]?)>>=fun x=>
    (b[i]?)>>=fun x8=>
    (F.f80 x x8)>>=fun v=>
    if v=true then
      F.f84 a b (i+1)
    else
      some (.ret false)
  else
    some (.go ())
  partial_fixpoint
def F.f85 (a:List Tree)(b:List Tree)(i:Nat):Option (Lo Bool Unit):=
  if i<a.length then
    (a[i]?)>>=fun x=>
    (b[i]?)>>=fun x8=>
    (F.f82 x x8)>>=fun v=>
    if v=true then
      F.f85 a b (i+1)
    else
      some (.ret false)
  else
    some (.go ())
  partial_fixpoint
end
def F.f86 (a:List Int)(k1:Int)(i:Nat):Option (Lo Int Int):=
  if i<a.length then
    (a[i]?)>>=fun x=>
    if x=k1 then
      F.f86 a (IntKind.i64.wrap (k1+1)) (i+1)
    else
      some (.ret (-1))
  else
    some (.go k1)
  partial_fixpoint
def F.f87 (a:List Int)(k:Int):Option (Int):=
  (F.f86 a k 0)>>=fun o'=>
  match o' with
  | .ret r0=>some r0
  | .go sx=>
    some sx
def F.f88 (a:List PathBind)(k1:Int)(i:Nat):Option (Lo Int Int):=
  if i<a.length then
    (a[i]?)>>=fun x=>
    if x.var=k1 then
      (F.f87 x.path (IntKind.i64.wrap (k1+1)))>>=fun v=>
      if v<0 then
        some (.ret (-1))
      else
        F.f88 a v (i+1)
    else
      some (.ret (-1))
  else
    some (.go k1)
  partial_fixpoint
def F.f89 (a:List PathBind)(k:Int):Option (Int):=
  (F.f88 a k 0)>>=fun o'=>
  match o' with
  | .ret r0=>some r0
  | .go sx=>
    some sx
def F.f90 (a:List Vl.Edge)(k1:Int)(i:Nat):Option (Lo Int Int):=
  if i<a.length then
    (a[i]?)>>=fun x=>
    if x.ctor=k1 then
      if x.n=IntKind.i64.wrap (k1+1)then
        if x.m=IntKind.i64.wrap (IntKind.i64.wrap (k1+1)+1)then
          if x.to=IntKind.i64.wrap (IntKind.i64.wrap (IntKind.i64.wrap (k1+1)+1)+1)then
            F.f90 a (IntKind.i64.wrap (IntKind.i64.wrap (IntKind.i64.wrap (IntKind.i64.wrap (k1+1)+1)+1)+1)) (i+1)
          else
            some (.ret (-1))
        else
          some (.ret (-1))
      else
        some (.ret (-1))
    else
      some (.ret (-1))
  else
    some (.go k1)
  partial_fixpoint
def F.f91 (a:List Vl.Edge)(k:Int):Option (Int):=
  (F.f90 a k 0)>>=fun o'=>
  match o' with
  | .ret r0=>some r0
  | .go sx=>
    some sx
def F.f92 (a:List Vl.Node)(k1:Int)(i:Nat):Option (Lo Int Int):=
  if i<a.length then
    (a[i]?)>>=fun x=>
    if x.op=k1 then
      if x.clause=IntKind.i64.wrap (k1+1)then
        (F.f89 x.binds (IntKind.i64.wrap (IntKind.i64.wrap (k1+1)+1)))>>=fun v=>
        if v<0 then
          some (.ret (-1))
        else
          (F.f87 x.path v)>>=fun v13=>
          if v13<0 then
            some (.ret (-1))
          else
            (F.f91 x.edges v13)>>=fun v17=>
            if v17<0 then
              some (.ret (-1))
            else
              if x.els=v17 then
                F.f92 a (IntKind.i64.wrap (v17+1)) (i+1)
              else
                some (.ret (-1))
      else
        some (.ret (-1))
    else
      some (.ret (-1))
  else
    some (.go k1)
  partial_fixpoint
def F.f93 (a:List Vl.Node)(k:Int):Option (Int):=
  (F.f92 a k 0)>>=fun o'=>
  match o' with
  | .ret r0=>some r0
  | .go sx=>
    some sx
def F.f94 (a:List Int)(k:Int):Option (List Int×Int):=some (mkI a k)
def F.f95 (a:List PathBind)(k:Int):Option (List PathBind×Int):=some (PathBind.mkL a k)
def F.f96 (a:List Vl.Edge)(k:Int):Option (List Vl.Edge×Int):=some (Vl.Edge.mkL a k)
def F.f97 (a:List Vl.Node)(k:Int):Option (List Vl.Node×Int):=some (Vl.Node.mkL a k)
def F.f98 (a:List Branch)(k:Int):Option (List Branch×Int):=some (Branch.mkL a k)
def F.f99 (a:List Tree)(k:Int):Option (List Tree×Int):=some (Tree.mkL a k)
def F.f100 (aX:Tree):Option (Bool):=
  (F.f6 aX 1048576)>>=fun v=>
  if v<0 then
    some true
  else
    (F.f17 aX)>>=fun v4=>
    (F.f39 v4)>>=fun v6=>
    (F.f17 aX)>>=fun v8=>
    (F.f68 v8)>>=fun v13=>
    (F.f79 v13.1 v6.1)>>=fun v16=>
    if v16=true then
      if v13.2=v6.2 then
        (F.f17 aX)>>=fun v22=>
        (F.f82 v8 v22)>>=fun v24=>
        if v24=true then
          (F.f95 v8.binds 1)>>=fun v28=>
          (F.f94 v8.path v28.2)>>=fun v30=>
          (F.f98 v8.branches v30.2)>>=fun v32=>
          (F.f99 v8.els v32.2)>>=fun v34=>
          if v34.2<0 then
            some false
          else
            (F.f79 v13.1 v6.1)>>=fun v38=>
            if v38=true then
              (F.f97 v13.1 1)>>=fun v42=>
              (F.f93 v42.1 1)>>=fun v44=>
              if v44<0 then
                some false
              else
                if v44=v42.2 then
                  (F.f17 aX)>>=fun v50=>
                  (F.f68 v50)>>=fun v52=>
                  (F.f79 v52.1 v6.1)>>=fun v55=>
                  if v55=true then
                    if v52.2=v6.2 then
                      (F.f93 v42.1 1)>>=fun v61=>
                      if v61<0 then
                        some false
                      else
                        if v61=v42.2 then
                          some true
                        else
                          some false
                    else
                      some false
                  else
                    some false
                else
                  some false
            else
              some false
        else
          some false
      else
        some false
    else
      some false
end
end Go.Vl
