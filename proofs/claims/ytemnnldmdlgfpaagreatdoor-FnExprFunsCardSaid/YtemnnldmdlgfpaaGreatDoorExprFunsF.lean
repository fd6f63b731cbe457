/- The functions of the program as Lean functions (printed by gen.py). -/
import Derived.Test.YtemnnldmdlgfpaaGreatDoorVlG
import Derived.Test.YtemnnldmdlgfpaaGreatDoorVlDraw3
import Derived.Test.YtemnnldmdlgfpaaGreatDoorVlFa
import Derived.Test.YtemnnldmdlgfpaaGreatDoorVlSplit
import Derived.Test.YtemnnldmdlgfpaaGreatDoorVlDeep
import Derived.Test.YtemnnldmdlgfpaaGreatDoorVlMk
import Derived.Test.YtemnnldmdlgfpaaGreatDoorVlFork
import Derived.Test.YtemnnldmdlgfpaaGreatDoorVlFloat
import Derived.Test.YtemnnldmdlgfpaaGreatDoorVlOwn
import Derived.Test.YtemnnldmdlgfpaaGreatDoorVlText
set_option linter.unusedVariables false
set_option synthInstance.maxSize 100000
set_option linter.unusedSimpArgs false
set_option linter.unusedVariables false
namespace Go.Vl
open Go
noncomputable section
structure T_impl_scope where
 f0:List Vl.Data
 f1:List Vl.FunType
 f2:List Vl.VarType
def T_impl_scope.c (x:T_impl_scope):List AV:=[.arr (List.map Vl.Data.c x.f0),.arr (List.map Vl.FunType.c x.f1),.arr (List.map Vl.VarType.c x.f2)]
@[simp] theorem T_impl_scope.c_eq (x:T_impl_scope):x.c=[.arr (List.map Vl.Data.c x.f0),.arr (List.map Vl.FunType.c x.f1),.arr (List.map Vl.VarType.c x.f2)]:=rfl
abbrev T_impl_scope.z :T_impl_scope:=⟨[],[],[]⟩
@[simp] theorem nice_T_impl_scope :Nice T_impl_scope.c:=⟨by simp,by simp,by simp⟩
@[simp] theorem nlen_T_impl_scope :NiceLen T_impl_scope.c 3:=⟨by simp⟩
structure T_spec_l17Rd where
 f0:List Int
 f1:Int
def T_spec_l17Rd.c (x:T_spec_l17Rd):List AV:=[.arr (List.map cU x.f0),.lit (.int .i64 x.f1)]
@[simp] theorem T_spec_l17Rd.c_eq (x:T_spec_l17Rd):x.c=[.arr (List.map cU x.f0),.lit (.int .i64 x.f1)]:=rfl
abbrev T_spec_l17Rd.z :T_spec_l17Rd:=⟨[],0⟩
@[simp] theorem nice_T_spec_l17Rd :Nice T_spec_l17Rd.c:=⟨by simp,by simp,by simp⟩
@[simp] theorem nlen_T_spec_l17Rd :NiceLen T_spec_l17Rd.c 2:=⟨by simp⟩
def F.f0  :Option (List ByteArray):=
 some [(⟨#[76,61,78,105,108,124,67,111,110,115,40,73,44,76,41]⟩:ByteArray),(⟨#[66,61,84,114,117,124,70,108,115,59,84,61,76,101,97,102,124,78,111,100,101,40,84,44,66,44,84,41]⟩:ByteArray),(⟨#[69,61,78,117,109,40,73,41,58,49,124,66,111,108,40,66,41,58,50,124,65,100,100,40,69,49,44,69,49,41,58,49,124,73,102,40,69,50,44,69,42,44,69,42,41,59,66,61,84,114,117,124,70,108,115]⟩:ByteArray),(⟨#[79,61,78,111,110,124,83,111,109,40,73,41,59,80,61,80,97,105,114,40,79,44,79,41]⟩:ByteArray),(⟨#[86,61,69,110,100,58,49,124,83,111,109,101,40,73,44,86,49,41,58,50,124,84,119,111,40,86,42,41]⟩:ByteArray),(⟨#[78,61,78,101,118,101,114,40,78,41,59,66,61,84,114,117,124,70,108,115,124,77,97,121,40,78,41]⟩:ByteArray),(⟨#[83,61,82,101,100,124,71,114,101,101,110,124,66,108,117,101,124,77,105,120,40,83,44,83,41]⟩:ByteArray),ByteArray.empty]
def F.f1 (r':Vl.T_spec_l17Rd)(n:Int):Option (Int×Vl.T_spec_l17Rd):=
 if n<1 then
  some ((0:Int),(⟨r'.f0,IntKind.i64.wrap (r'.f1+1)⟩:Vl.T_spec_l17Rd))
 else
  if r'.f0.length=0 then
   some ((0:Int),(⟨r'.f0,IntKind.i64.wrap (r'.f1+1)⟩:Vl.T_spec_l17Rd))
  else
   if IntKind.i64.wrap (IntKind.i64.wrap (r'.f1+1) -1)<(r'.f0.length:Int)then
    (at? r'.f0 (IntKind.i64.wrap (IntKind.i64.wrap (r'.f1+1) -1)))>>=fun x=>
    if n≠0 then
     some ((IntKind.i64.wrap x).tmod n,(⟨r'.f0,IntKind.i64.wrap (r'.f1+1)⟩:Vl.T_spec_l17Rd))
    else none
   else
    if(r'.f0.length:Int)≠0 then
     (at? r'.f0 ((IntKind.i64.wrap (IntKind.i64.wrap (r'.f1+1) -1)).tmod (r'.f0.length:Int)))>>=fun x11=>
     (at? r'.f0 ((IntKind.i64.wrap (IntKind.i64.wrap (IntKind.i64.wrap (IntKind.i64.wrap (r'.f1+1) -1)*7)+3)).tmod (r'.f0.length:Int)))>>=fun x13=>
     if n≠0 then
      some ((xorI .i64 (IntKind.i64.wrap (IntKind.i64.wrap (IntKind.i64.wrap (IntKind.i64.wrap (IntKind.i64.wrap x11*131)+IntKind.i64.wrap (IntKind.i64.wrap x13*1117))+IntKind.i64.wrap (IntKind.i64.wrap (IntKind.i64.wrap (r'.f1+1) -1)*29))+IntKind.i64.wrap (IntKind.i64.wrap ((IntKind.i64.wrap (IntKind.i64.wrap (r'.f1+1) -1)).tdiv (r'.f0.length:Int))*53))) (IntKind.i64.wrap ((IntKind.i64.wrap (IntKind.i64.wrap (IntKind.i64.wrap (IntKind.i64.wrap (IntKind.i64.wrap x11*131)+IntKind.i64.wrap (IntKind.i64.wrap x13*1117))+IntKind.i64.wrap (IntKind.i64.wrap (IntKind.i64.wrap (r'.f1+1) -1)*29))+IntKind.i64.wrap (IntKind.i64.wrap ((IntKind.i64.wrap (IntKind.i64.wrap (r'.f1+1) -1)).tdiv (r'.f0.length:Int))*53))).tdiv 64))).tmod n,(⟨r'.f0,IntKind.i64.wrap (r'.f1+1)⟩:Vl.T_spec_l17Rd))
     else none
    else none
def F.f2 (s:ByteArray)(c':Int)(out:List ByteArray)(from':Nat)(i:Nat):Option (List ByteArray):=
 if i≤s.size then
  if i=s.size then
   if from'≤i∧i≤s.size then
    if out.length+1≤67108864 then
     if i+1≤9223372036854775807 then
      F.f2 s c' (out++[s.extract from' i]) (i+1) (i+1)
     else none
    else none
   else none
  else
   if i<s.size then
    if((byteAt s i:Nat):Int)=c' then
     if from'≤i∧i≤s.size then
      if out.length+1≤67108864 then
       if i+1≤9223372036854775807 then
        F.f2 s c' (out++[s.extract from' i]) (i+1) (i+1)
       else none
      else none
     else none
    else
     if i+1≤9223372036854775807 then
      F.f2 s c' out from' (i+1)
     else none
   else none
 else
  some out
 partial_fixpoint
def F.f3 (s:ByteArray)(c':Int):Option (List ByteArray):=
 (F.f2 s c' [] 0 0)>>=fun o'=>
 some o'
def F.f4 (names:List ByteArray)(s:ByteArray)(i:Nat):Option (Lo Int Unit):=
 if i<names.length then
  (names[i]?)>>=fun x=>
  if x.toList=s.toList then
   some (.ret (i:Int))
  else
   F.f4 names s (i+1)
 else
  some (.go ())
 partial_fixpoint
def F.f5 (names:List ByteArray)(s:ByteArray):Option (Int):=
 if s.toList=(⟨#[73]⟩:ByteArray).toList then
  some (-1:Int)
 else
  (F.f4 names s 0)>>=fun o'=>
  match o' with
  | .ret r0=>some r0
  | .go sx=>
   some (-2:Int)
def F.f6 (names:List ByteArray)(s:ByteArray):Option (Vl.Ty):=
 if s.toList=ByteArray.empty.toList then
  some (⟨(-2:Int),(0:Int)⟩:Vl.Ty)
 else
  if 1≤s.size then
   (F.f5 names (s.extract 0 1))>>=fun v=>
   if(s.extract 1 s.size).toList=(⟨#[42]⟩:ByteArray).toList then
    some (⟨v,(-1:Int)⟩:Vl.Ty)
   else
    if s.size=2 then
     if 1<s.size then
      if 48≤byteAt s 1 then
       if byteAt s 1≤57 then
        some (⟨v,IntKind.i64.wrap (IntKind.u8.wrap (((byteAt s 1:Nat):Int) -48))⟩:Vl.Ty)
       else
        some (⟨v,(0:Int)⟩:Vl.Ty)
      else
       some (⟨v,(0:Int)⟩:Vl.Ty)
     else none
    else
     some (⟨v,(0:Int)⟩:Vl.Ty)
  else none
def F.f7 (names:List ByteArray)(s:ByteArray)(x:ByteArray)(v21:List ByteArray)(out:List Vl.Ty)(i:Nat):Option (List Vl.Ty):=
 if i<v21.length then
  if i≤3 then
   (v21[i]?)>>=fun x29=>
   (F.f6 names x29)>>=fun v31=>
   if out.length+1≤67108864 then
    F.f7 names s x v21 (out++[v31]) (i+1)
   else none
  else
   some out
 else
  some out
 partial_fixpoint
def F.f8 (names:List ByteArray)(x38:ByteArray)(v49:List ByteArray)(out51:List Vl.Ty)(i52:Nat):Option (List Vl.Ty):=
 if i52<v49.length then
  if i52≤3 then
   (v49[i52]?)>>=fun x59=>
   (F.f6 names x59)>>=fun v61=>
   if out51.length+1≤67108864 then
    F.f8 names x38 v49 (out51++[v61]) (i52+1)
   else none
  else
   some out51
 else
  some out51
 partial_fixpoint
def F.f9 (names:List ByteArray)(x69:ByteArray)(v80:List ByteArray)(out82:List Vl.Ty)(i83:Nat):Option (List Vl.Ty):=
 if i83<v80.length then
  if i83≤3 then
   (v80[i83]?)>>=fun x90=>
   (F.f6 names x90)>>=fun v92=>
   if out82.length+1≤67108864 then
    F.f9 names x69 v80 (out82++[v92]) (i83+1)
   else none
  else
   some out82
 else
  some out82
 partial_fixpoint
def F.f10 (names:List ByteArray)(s:ByteArray):Option (Vl.Ctor):=
 if 2<s.size then
  if 0≤IntKind.i64.wrap ((s.size:Int) -2)∧(IntKind.i64.wrap ((s.size:Int) -2)).toNat<s.size then
   if byteAt s ((IntKind.i64.wrap ((s.size:Int) -2)).toNat)=58 then
    if 0≤IntKind.i64.wrap ((s.size:Int) -1)∧(IntKind.i64.wrap ((s.size:Int) -1)).toNat<s.size then
     if 0≤IntKind.i64.wrap ((s.size:Int) -2)∧(IntKind.i64.wrap ((s.size:Int) -2)).toNat≤s.size then
      (F.f3 (s.extract 0 ((IntKind.i64.wrap ((s.size:Int) -2)).toNat)) (40:Int))>>=fun v=>
      (v[0]?)>>=fun x=>
      if v.length<2 then
       some (⟨x,[],IntKind.i64.wrap (IntKind.i64.wrap ((byteAt s ((IntKind.i64.wrap ((s.size:Int) -1)).toNat):Nat):Int) -48)⟩:Vl.Ctor)
      else
       (v[1]?)>>=fun x15=>
       if x15.size=0 then
        some (⟨x,[],IntKind.i64.wrap (IntKind.i64.wrap ((byteAt s ((IntKind.i64.wrap ((s.size:Int) -1)).toNat):Nat):Int) -48)⟩:Vl.Ctor)
       else
        if 0≤IntKind.i64.wrap ((x15.size:Int) -1)∧(IntKind.i64.wrap ((x15.size:Int) -1)).toNat≤x15.size then
         (F.f3 (x15.extract 0 ((IntKind.i64.wrap ((x15.size:Int) -1)).toNat)) (44:Int))>>=fun v21=>
         (F.f7 names s x v21 [] 0)>>=fun o'=>
         some (⟨x,o',IntKind.i64.wrap (IntKind.i64.wrap ((byteAt s ((IntKind.i64.wrap ((s.size:Int) -1)).toNat):Nat):Int) -48)⟩:Vl.Ctor)
        else none
     else none
    else none
   else
    (F.f3 s (40:Int))>>=fun v36=>
    (v36[0]?)>>=fun x38=>
    if v36.length<2 then
     some (⟨x38,[],(0:Int)⟩:Vl.Ctor)
    else
     (v36[1]?)>>=fun x43=>
     if x43.size=0 then
      some (⟨x38,[],(0:Int)⟩:Vl.Ctor)
     else
      if 0≤IntKind.i64.wrap ((x43.size:Int) -1)∧(IntKind.i64.wrap ((x43.size:Int) -1)).toNat≤x43.size then
       (F.f3 (x43.extract 0 ((IntKind.i64.wrap ((x43.size:Int) -1)).toNat)) (44:Int))>>=fun v49=>
       (F.f8 names x38 v49 [] 0)>>=fun o'66=>
       some (⟨x38,o'66,(0:Int)⟩:Vl.Ctor)
      else none
  else none
 else
  (F.f3 s (40:Int))>>=fun v67=>
  (v67[0]?)>>=fun x69=>
  if v67.length<2 then
   some (⟨x69,[],(0:Int)⟩:Vl.Ctor)
  else
   (v67[1]?)>>=fun x74=>
   if x74.size=0 then
    some (⟨x69,[],(0:Int)⟩:Vl.Ctor)
   else
    if 0≤IntKind.i64.wrap ((x74.size:Int) -1)∧(IntKind.i64.wrap ((x74.size:Int) -1)).toNat≤x74.size then
     (F.f3 (x74.extract 0 ((IntKind.i64.wrap ((x74.size:Int) -1)).toNat)) (44:Int))>>=fun v80=>
     (F.f9 names x69 v80 [] 0)>>=fun o'97=>
     some (⟨x69,o'97,(0:Int)⟩:Vl.Ctor)
    else none
def F.f11 (c':Int):Option (Bool):=
 if 65≤c' then
  some (decide (c'≤90))
 else
  some false
def F.f12 (s:ByteArray):Option (Bool):=
 if s.size=1 then
  if 0<s.size then
   (F.f11 ((byteAt s 0:Nat):Int))>>=fun v=>
   if v=true then
    some (decide (¬(s.toList=(⟨#[73]⟩:ByteArray).toList)))
   else
    some false
  else none
 else
  some false
def F.f13 (s:ByteArray)(i:Nat):Option (Lo Bool Unit):=
 if i<s.size then
  if byteAt s i<97 then
   some (.ret false)
  else
   if 122<byteAt s i then
    some (.ret false)
   else
    if i+1≤9223372036854775807 then
     F.f13 s (i+1)
    else none
 else
  some (.go ())
 partial_fixpoint
def F.f14 (s:ByteArray):Option (Bool):=
 if s.size=0 then
  some false
 else
  if 5<s.size then
   some false
  else
   if 0<s.size then
    (F.f11 ((byteAt s 0:Nat):Int))>>=fun v=>
    if v=true then
     (F.f13 s 1)>>=fun o'=>
     match o' with
     | .ret r0=>some r0
     | .go sx=>
      some true
    else
     some false
   else none
def F.f15 (n:Int)(t:Vl.Ty):Option (Bool):=
 if t.data=(-1)then
  some (decide (t.index=0))
 else
  if 0≤t.data then
   if t.data<n then
    if(-1)≤t.index then
     some (decide (t.index≤3))
    else
     some false
   else
    some false
  else
   some false
def F.f16 (n:Int)(c':Vl.Ctor)(i:Nat):Option (Lo Bool Unit):=
 if i<c'.args.length then
  (c'.args[i]?)>>=fun x=>
  (F.f15 n x)>>=fun v15=>
  if v15=true then
   F.f16 n c' (i+1)
  else
   some (.ret false)
 else
  some (.go ())
 partial_fixpoint
def F.f17 (n:Int)(c':Vl.Ctor):Option (Bool):=
 (F.f14 c'.name)>>=fun v=>
 if v=true then
  if 3<c'.args.length then
   some false
  else
   if c'.index<0 then
    some false
   else
    if 3<c'.index then
     some false
    else
     (F.f16 n c' 0)>>=fun o'=>
     match o' with
     | .ret r0=>some r0
     | .go sx=>
      some true
 else
  some false
def F.f18 (w:List Vl.Data)(d:Int)(k:Int)(i:Nat)(j:Nat):Option (Lo Bool Unit):=
 (w[i]?)>>=fun x10=>
 if j<x10.ctors.length then
  if(i:Int)<d then
   (at? w d)>>=fun x33=>
   if k<(x33.ctors.length:Int)then
    (x10.ctors[j]?)>>=fun x37=>
    (at? x33.ctors k)>>=fun x39=>
    if x37.name.toList=x39.name.toList then
     some (.ret true)
    else
     if j+1≤9223372036854775807 then
      F.f18 w d k i (j+1)
     else none
   else
    if j+1≤9223372036854775807 then
     F.f18 w d k i (j+1)
    else none
  else
   if(j:Int)<k then
    (at? w d)>>=fun x19=>
    if k<(x19.ctors.length:Int)then
     (x10.ctors[j]?)>>=fun x23=>
     (at? x19.ctors k)>>=fun x25=>
     if x23.name.toList=x25.name.toList then
      some (.ret true)
     else
      if j+1≤9223372036854775807 then
       F.f18 w d k i (j+1)
      else none
    else
     if j+1≤9223372036854775807 then
      F.f18 w d k i (j+1)
     else none
   else
    some (.go ())
 else
  some (.go ())
 partial_fixpoint
def F.f19 (w:List Vl.Data)(d:Int)(k:Int)(i:Nat)(j50:Nat):Option (Lo Bool Unit):=
 (w[i]?)>>=fun x51=>
 if j50<x51.ctors.length then
  if(i:Int)<d then
   (at? w d)>>=fun x74=>
   if k<(x74.ctors.length:Int)then
    (x51.ctors[j50]?)>>=fun x78=>
    (at? x74.ctors k)>>=fun x80=>
    if x78.name.toList=x80.name.toList then
     some (.ret true)
    else
     if j50+1≤9223372036854775807 then
      F.f19 w d k i (j50+1)
     else none
   else
    if j50+1≤9223372036854775807 then
     F.f19 w d k i (j50+1)
    else none
  else
   if(j50:Int)<k then
    (at? w d)>>=fun x60=>
    if k<(x60.ctors.length:Int)then
     (x51.ctors[j50]?)>>=fun x64=>
     (at? x60.ctors k)>>=fun x66=>
     if x64.name.toList=x66.name.toList then
      some (.ret true)
     else
      if j50+1≤9223372036854775807 then
       F.f19 w d k i (j50+1)
      else none
    else
     if j50+1≤9223372036854775807 then
      F.f19 w d k i (j50+1)
     else none
   else
    some (.go ())
 else
  some (.go ())
 partial_fixpoint
def F.f20 (w:List Vl.Data)(d:Int)(k:Int)(i:Nat):Option (Lo Bool Unit):=
 if(i:Int)≤d then
  if(i:Int)<d then
   (w[i]?)>>=fun x=>
   (at? w d)>>=fun x6=>
   if x.name.toList=x6.name.toList then
    some (.ret true)
   else
    (F.f18 w d k i 0)>>=fun o'=>
    match o' with
    | .ret r0=>some (.ret r0)
    | .go sx=>
     if i+1≤9223372036854775807 then
      F.f20 w d k (i+1)
     else none
  else
   (F.f19 w d k i 0)>>=fun o'89=>
   match o'89 with
   | .ret r093=>some (.ret r093)
   | .go sx90=>
    if i+1≤9223372036854775807 then
     F.f20 w d k (i+1)
    else none
 else
  some (.go ())
 partial_fixpoint
def F.f21 (w:List Vl.Data)(d:Int)(k:Int):Option (Bool):=
 (F.f20 w d k 0)>>=fun o'95=>
 match o'95 with
 | .ret r097=>some r097
 | .go sx96=>
  some false
def F.f22 (w:List Vl.Data)(d:Nat)(k:Nat):Option (Lo Bool Unit):=
 (w[d]?)>>=fun x17=>
 if k<x17.ctors.length then
  (x17.ctors[k]?)>>=fun x22=>
  (F.f17 (w.length:Int) x22)>>=fun v24=>
  if v24=true then
   (F.f21 w (d:Int) (k:Int))>>=fun v28=>
   if v28=true then
    some (.ret false)
   else
    if k+1≤9223372036854775807 then
     F.f22 w d (k+1)
    else none
  else
   some (.ret false)
 else
  some (.go ())
 partial_fixpoint
def F.f23 (w:List Vl.Data)(d:Nat):Option (Lo Bool Unit):=
 if d<w.length then
  (w[d]?)>>=fun x=>
  (F.f12 x.name)>>=fun v=>
  if v=true then
   if x.ctors.length=0 then
    some (.ret false)
   else
    if 4<x.ctors.length then
     some (.ret false)
    else
     (F.f22 w d 0)>>=fun o'=>
     match o' with
     | .ret r0=>some (.ret r0)
     | .go sx=>
      if d+1≤9223372036854775807 then
       F.f23 w (d+1)
      else none
  else
   some (.ret false)
 else
  some (.go ())
 partial_fixpoint
def F.f24 (w:List Vl.Data):Option (Bool):=
 if 4<w.length then
  some false
 else
  (F.f23 w 0)>>=fun o'38=>
  match o'38 with
  | .ret r040=>some r040
  | .go sx39=>
   some true
def F.f25 (n7:Int)(out:ByteArray):Option (Int×ByteArray):=
 if 9<n7 then
  if(strB [IntKind.u8.wrap (IntKind.i64.wrap (48+n7.tmod 10))]).size+out.size≤9223372036854775807 then
   F.f25 (IntKind.i64.wrap (n7.tdiv 10)) ((strB [IntKind.u8.wrap (IntKind.i64.wrap (48+n7.tmod 10))])++out)
  else none
 else
  some (n7,out)
 partial_fixpoint
def F.f26 (n:Int):Option (ByteArray):=
 if n<(-9223372036854775807)then
  some (⟨#[45,57,50,50,51,51,55,50,48,51,54,56,53,52,55,55,53,56,48,56]⟩:ByteArray)
 else
  if n<0 then
   (F.f26 (IntKind.i64.wrap (0-n)))>>=fun v=>
   if(⟨#[45]⟩:ByteArray).size+v.size≤9223372036854775807 then
    some ((⟨#[45]⟩:ByteArray)++v)
   else none
  else
   (F.f25 n ByteArray.empty)>>=fun o'=>
   if(strB [IntKind.u8.wrap (IntKind.i64.wrap (48+o'.1))]).size+o'.2.size≤9223372036854775807 then
    some ((strB [IntKind.u8.wrap (IntKind.i64.wrap (48+o'.1))])++o'.2)
   else none
 partial_fixpoint
def F.f27 (n:Int):Option (ByteArray):=
 if n=0 then
  some ByteArray.empty
 else
  if n=(-1)then
   some (⟨#[42]⟩:ByteArray)
  else
   (F.f26 n)>>=fun v=>
   some v
def F.f28 (w:List Vl.Data)(t:Vl.Ty):Option (ByteArray):=
 if t.data=(-1)then
  some (⟨#[73]⟩:ByteArray)
 else
  (at? w t.data)>>=fun x=>
  (F.f27 t.index)>>=fun v=>
  if x.name.size+v.size≤9223372036854775807 then
   some (x.name++v)
  else none
def F.f29 (w:List Vl.Data)(c':Vl.Ctor)(out:ByteArray)(i:Nat):Option (ByteArray):=
 if i<c'.args.length then
  if i=0 then
   if out.size+(⟨#[40]⟩:ByteArray).size≤9223372036854775807 then
    (c'.args[i]?)>>=fun x=>
    (F.f28 w x)>>=fun v=>
    if(out++(⟨#[40]⟩:ByteArray)).size+v.size≤9223372036854775807 then
     F.f29 w c' ((out++(⟨#[40]⟩:ByteArray))++v) (i+1)
    else none
   else none
  else
   if out.size+(⟨#[44]⟩:ByteArray).size≤9223372036854775807 then
    (c'.args[i]?)>>=fun x13=>
    (F.f28 w x13)>>=fun v15=>
    if(out++(⟨#[44]⟩:ByteArray)).size+v15.size≤9223372036854775807 then
     F.f29 w c' ((out++(⟨#[44]⟩:ByteArray))++v15) (i+1)
    else none
   else none
 else
  some out
 partial_fixpoint
def F.f30 (w:List Vl.Data)(c':Vl.Ctor):Option (ByteArray):=
 (F.f29 w c' c'.name 0)>>=fun o'=>
 if 0<c'.args.length then
  if o'.size+(⟨#[41]⟩:ByteArray).size≤9223372036854775807 then
   if 0<c'.index then
    if(o'++(⟨#[41]⟩:ByteArray)).size+(⟨#[58]⟩:ByteArray).size≤9223372036854775807 then
     (F.f26 c'.index)>>=fun v27=>
     if((o'++(⟨#[41]⟩:ByteArray))++(⟨#[58]⟩:ByteArray)).size+v27.size≤9223372036854775807 then
      some (((o'++(⟨#[41]⟩:ByteArray))++(⟨#[58]⟩:ByteArray))++v27)
     else none
    else none
   else
    some (o'++(⟨#[41]⟩:ByteArray))
  else none
 else
  if 0<c'.index then
   if o'.size+(⟨#[58]⟩:ByteArray).size≤9223372036854775807 then
    (F.f26 c'.index)>>=fun v33=>
    if(o'++(⟨#[58]⟩:ByteArray)).size+v33.size≤9223372036854775807 then
     some ((o'++(⟨#[58]⟩:ByteArray))++v33)
    else none
   else none
  else
   some o'
def F.f31 (w:List Vl.Data)(d:Nat)(out11:ByteArray)(k:Nat):Option (ByteArray):=
 (w[d]?)>>=fun x12=>
 if k<x12.ctors.length then
  if 0<k then
   if out11.size+(⟨#[124]⟩:ByteArray).size≤9223372036854775807 then
    (x12.ctors[k]?)>>=fun x21=>
    (F.f30 w x21)>>=fun v=>
    if(out11++(⟨#[124]⟩:ByteArray)).size+v.size≤9223372036854775807 then
     if k+1≤9223372036854775807 then
      F.f31 w d ((out11++(⟨#[124]⟩:ByteArray))++v) (k+1)
     else none
    else none
   else none
  else
   (x12.ctors[k]?)>>=fun x27=>
   (F.f30 w x27)>>=fun v29=>
   if out11.size+v29.size≤9223372036854775807 then
    if k+1≤9223372036854775807 then
     F.f31 w d (out11++v29) (k+1)
    else none
   else none
 else
  some out11
 partial_fixpoint
def F.f32 (w:List Vl.Data)(d:Nat)(out41:ByteArray)(k42:Nat):Option (ByteArray):=
 (w[d]?)>>=fun x43=>
 if k42<x43.ctors.length then
  if 0<k42 then
   if out41.size+(⟨#[124]⟩:ByteArray).size≤9223372036854775807 then
    (x43.ctors[k42]?)>>=fun x52=>
    (F.f30 w x52)>>=fun v54=>
    if(out41++(⟨#[124]⟩:ByteArray)).size+v54.size≤9223372036854775807 then
     if k42+1≤9223372036854775807 then
      F.f32 w d ((out41++(⟨#[124]⟩:ByteArray))++v54) (k42+1)
     else none
    else none
   else none
  else
   (x43.ctors[k42]?)>>=fun x59=>
   (F.f30 w x59)>>=fun v61=>
   if out41.size+v61.size≤9223372036854775807 then
    if k42+1≤9223372036854775807 then
     F.f32 w d (out41++v61) (k42+1)
    else none
   else none
 else
  some out41
 partial_fixpoint
def F.f33 (w:List Vl.Data)(out:ByteArray)(d:Nat):Option (ByteArray):=
 if d<w.length then
  if 0<d then
   if out.size+(⟨#[59]⟩:ByteArray).size≤9223372036854775807 then
    (w[d]?)>>=fun x=>
    if(out++(⟨#[59]⟩:ByteArray)).size+x.name.size≤9223372036854775807 then
     if((out++(⟨#[59]⟩:ByteArray))++x.name).size+(⟨#[61]⟩:ByteArray).size≤9223372036854775807 then
      (F.f31 w d (((out++(⟨#[59]⟩:ByteArray))++x.name)++(⟨#[61]⟩:ByteArray)) 0)>>=fun o'=>
      if d+1≤9223372036854775807 then
       F.f33 w o' (d+1)
      else none
     else none
    else none
   else none
  else
   (w[d]?)>>=fun x37=>
   if out.size+x37.name.size≤9223372036854775807 then
    if(out++x37.name).size+(⟨#[61]⟩:ByteArray).size≤9223372036854775807 then
     (F.f32 w d ((out++x37.name)++(⟨#[61]⟩:ByteArray)) 0)>>=fun o'67=>
     if d+1≤9223372036854775807 then
      F.f33 w o'67 (d+1)
     else none
    else none
   else none
 else
  some out
 partial_fixpoint
def F.f34 (w:List Vl.Data):Option (ByteArray):=
 (F.f33 w ByteArray.empty 0)>>=fun o'71=>
 some o'71
def F.f35 (text:ByteArray)(v:List ByteArray)(names:List ByteArray)(i:Nat):Option (Lo ((List Vl.Data)×Bool) (List ByteArray)):=
 if i<v.length then
  if i≤4 then
   if text.toList=ByteArray.empty.toList then
    some (.go names)
   else
    (v[i]?)>>=fun x=>
    (F.f3 x (61:Int))>>=fun v11=>
    if v11.length=2 then
     (v11[0]?)>>=fun x16=>
     if names.length+1≤67108864 then
      F.f35 text v (names++[x16]) (i+1)
     else none
    else
     some (.ret ([],false))
  else
   some (.go names)
 else
  some (.go names)
 partial_fixpoint
def F.f36 (text:ByteArray)(v:List ByteArray)(out:List Vl.Data)(names21:List ByteArray)(i22:Nat)(v32:List ByteArray)(x34:ByteArray)(out36:List Vl.Ctor)(k:Nat):Option (List Vl.Ctor):=
 if k<v32.length then
  if k≤4 then
   (v32[k]?)>>=fun x43=>
   (F.f10 names21 x43)>>=fun v45=>
   if out36.length+1≤67108864 then
    F.f36 text v out names21 i22 v32 x34 (out36++[v45]) (k+1)
   else none
  else
   some out36
 else
  some out36
 partial_fixpoint
def F.f37 (text:ByteArray)(v:List ByteArray)(out:List Vl.Data)(names21:List ByteArray)(i22:Nat):Option (List Vl.Data):=
 if i22<names21.length then
  (v[i22]?)>>=fun x26=>
  (F.f3 x26 (61:Int))>>=fun v28=>
  (v28[1]?)>>=fun x30=>
  (F.f3 x30 (124:Int))>>=fun v32=>
  (names21[i22]?)>>=fun x34=>
  (F.f36 text v out names21 i22 v32 x34 [] 0)>>=fun o'50=>
  if out.length+1≤67108864 then
   if i22+1≤9223372036854775807 then
    F.f37 text v (out++[(⟨x34,o'50⟩:Vl.Data)]) names21 (i22+1)
   else none
  else none
 else
  some out
 partial_fixpoint
def F.f38 (text:ByteArray):Option ((List Vl.Data)×Bool):=
 (F.f3 text (59:Int))>>=fun v=>
 (F.f35 text v [] 0)>>=fun o'=>
 match o' with
 | .ret r0=>some r0
 | .go sx=>
  (F.f37 text v [] sx 0)>>=fun o'55=>
  (F.f24 o'55)>>=fun v56=>
  if v56=true then
   (F.f34 o'55)>>=fun v60=>
   if v60.toList=text.toList then
    some (o'55,true)
   else
    some ([],false)
  else
   some ([],false)
def F.f39 (r':Vl.T_spec_l17Rd):Option ((List Vl.Data)×Vl.T_spec_l17Rd):=
 (F.f0)>>=fun v=>
 (F.f1 r' (IntKind.i64.wrap ((v.length:Int) -1)))>>=fun v2=>
 (at? v v2.1)>>=fun x=>
 (F.f38 x)>>=fun v5=>
 some (v5.1,v2.2)
def F.f40 (c':Vl.Ctor)(index':Int):Option (Bool):=
 if c'.index=0 then
  some true
 else
  if index'=0 then
   some true
  else
   some (decide (c'.index=index'))
def F.f41 (w:List Vl.Data)(t:Vl.Ty)(out:List Int)(k:Nat):Option (List Int):=
 (at? w t.data)>>=fun x=>
 if k<x.ctors.length then
  (x.ctors[k]?)>>=fun x7=>
  (F.f40 x7 t.index)>>=fun v=>
  if v=true then
   if out.length+1≤67108864 then
    if k+1≤9223372036854775807 then
     F.f41 w t (out++[(k:Int)]) (k+1)
    else none
   else none
  else
   if k+1≤9223372036854775807 then
    F.f41 w t out (k+1)
   else none
 else
  some out
 partial_fixpoint
def F.f42 (w:List Vl.Data)(t:Vl.Ty):Option (List Int):=
 if t.data=(-1)then
  some []
 else
  (F.f41 w t [] 0)>>=fun o'=>
  some o'
def F.f43 (c':Vl.Ctor)(index':Int):Option (Int):=
 if c'.index=0 then
  some index'
 else
  some c'.index
def F.f44 (t:Vl.Ty)(x2:Vl.Ctor)(out:List Vl.Ty)(i:Nat):Option (List Vl.Ty):=
 if i<x2.args.length then
  (x2.args[i]?)>>=fun x7=>
  if x7.index=(-1)then
   (F.f43 x2 t.index)>>=fun v=>
   if out.length+1≤67108864 then
    F.f44 t x2 (out++[(⟨x7.data,v⟩:Vl.Ty)]) (i+1)
   else none
  else
   if out.length+1≤67108864 then
    F.f44 t x2 (out++[x7]) (i+1)
   else none
 else
  some out
 partial_fixpoint
def F.f45 (w:List Vl.Data)(t:Vl.Ty)(ctor:Int):Option (List Vl.Ty):=
 (at? w t.data)>>=fun x=>
 (at? x.ctors ctor)>>=fun x2=>
 (F.f44 t x2 [] 0)>>=fun o'=>
 some o'
def F.f46 (t:Vl.Ty):Option (Int):=
 some (IntKind.i64.wrap (IntKind.i64.wrap (t.data*4)+t.index))
def F.f47 (table:List Int)(t:Vl.Ty):Option (Int):=
 if t.data=(-1)then
  some (1:Int)
 else
  (F.f46 t)>>=fun v=>
  (at? table v)>>=fun x=>
  some x
def F.f48 (table:List Int)(v:List Vl.Ty)(most:Int)(i:Nat):Option (Lo Int Int):=
 if i<v.length then
  (v[i]?)>>=fun x=>
  (F.f47 table x)>>=fun v6=>
  if v6=0 then
   some (.ret (0:Int))
  else
   if most<v6 then
    F.f48 table v v6 (i+1)
   else
    F.f48 table v most (i+1)
 else
  some (.go most)
 partial_fixpoint
def F.f49 (w:List Vl.Data)(table:List Int)(t:Vl.Ty)(ctor:Int):Option (Int):=
 (F.f45 w t ctor)>>=fun v=>
 (F.f48 table v (0:Int) 0)>>=fun o'=>
 match o' with
 | .ret r0=>some r0
 | .go sx=>
  some (IntKind.i64.wrap (sx+1))
def F.f50 (w:List Vl.Data)(n:Nat)(s:Nat)(v:List Int)(table10:List Int)(i:Nat):Option (List Int):=
 if i<v.length then
  (v[i]?)>>=fun x=>
  (F.f49 w table10 (⟨IntKind.i64.wrap ((s:Int).tdiv 4),(s:Int).tmod 4⟩:Vl.Ty) x)>>=fun v15=>
  if 0<v15 then
   (table10[s]?)>>=fun x19=>
   if x19=0 then
    F.f50 w n s v (table10.set s v15) (i+1)
   else
    if v15<x19 then
     F.f50 w n s v (table10.set s v15) (i+1)
    else
     F.f50 w n s v table10 (i+1)
  else
   F.f50 w n s v table10 (i+1)
 else
  some table10
 partial_fixpoint
def F.f51 (w:List Vl.Data)(n:Nat)(table5:List Int)(s:Nat):Option (List Int):=
 if s<table5.length then
  (F.f42 w (⟨IntKind.i64.wrap ((s:Int).tdiv 4),(s:Int).tmod 4⟩:Vl.Ty))>>=fun v=>
  (F.f50 w n s v table5 0)>>=fun o'=>
  if s+1≤9223372036854775807 then
   F.f51 w n o' (s+1)
  else none
 else
  some table5
 partial_fixpoint
def F.f52 (w:List Vl.Data)(table:List Int)(n:Nat):Option (List Int):=
 if n≤table.length then
  (F.f51 w n table 0)>>=fun o'33=>
  if n+1≤9223372036854775807 then
   F.f52 w o'33 (n+1)
  else none
 else
  some table
 partial_fixpoint
def F.f53 (w:List Vl.Data):Option (List Int):=
 if 0≤IntKind.i64.wrap ((w.length:Int)*4)∧(IntKind.i64.wrap ((w.length:Int)*4)).toNat≤67108864 then
  (F.f52 w (List.replicate ((IntKind.i64.wrap ((w.length:Int)*4)).toNat) (0:Int)) 0)>>=fun o'37=>
  some o'37
 else none
def F.f54 (r':Vl.T_spec_l17Rd)(list:List Int):Option (Int×Vl.T_spec_l17Rd):=
 (F.f1 r' (list.length:Int))>>=fun v=>
 (at? list v.1)>>=fun x=>
 some (x,v.2)
def F.f55 (r':Vl.T_spec_l17Rd)(w:List Vl.Data)(table:List Int)(t:Vl.Ty)(depth:Int)(v4:List Int)(fine:List Int)(i:Nat):Option (List Int):=
 if i<v4.length then
  (v4[i]?)>>=fun x=>
  (F.f49 w table t x)>>=fun v10=>
  if 0<v10 then
   if v10≤depth then
    if fine.length+1≤67108864 then
     F.f55 r' w table t depth v4 (fine++[x]) (i+1)
    else none
   else
    (F.f47 table t)>>=fun v16=>
    if v10=v16 then
     if fine.length+1≤67108864 then
      F.f55 r' w table t depth v4 (fine++[x]) (i+1)
     else none
    else
     F.f55 r' w table t depth v4 fine (i+1)
  else
   F.f55 r' w table t depth v4 fine (i+1)
 else
  some fine
 partial_fixpoint
mutual
def F.f56 (r':Vl.T_spec_l17Rd)(w:List Vl.Data)(table:List Int)(t:Vl.Ty)(depth:Int):Option (Vl.Value×Vl.T_spec_l17Rd):=
 if t.data=(-1)then
  (F.f1 r' (10:Int))>>=fun v=>
  some ((⟨(-1:Int),v.1,[]⟩:Vl.Value),v.2)
 else
  (F.f42 w t)>>=fun v4=>
  (F.f55 r' w table t depth v4 [] 0)>>=fun o'=>
  (F.f1 r' (o'.length:Int))>>=fun v27=>
  (at? o' v27.1)>>=fun x29=>
  (F.f45 w t x29)>>=fun v31=>
  (F.f57 w table depth x29 v31 v27.2.f0 v27.2.f1 [] 0)>>=fun o'45=>
  some ((⟨x29,(0:Int),o'45.2.2⟩:Vl.Value),(⟨o'45.1,o'45.2.1⟩:Vl.T_spec_l17Rd))
 partial_fixpoint
def F.f57 (w:List Vl.Data)(table:List Int)(depth:Int)(x29:Int)(v31:List Vl.Ty)(z:List Int)(z33:Int)(out:List Vl.Value)(i34:Nat):Option ((List Int)×Int×(List Vl.Value)):=
 if i34<v31.length then
  (v31[i34]?)>>=fun x38=>
  (F.f56 (⟨z,z33⟩:Vl.T_spec_l17Rd) w table x38 (IntKind.i64.wrap (depth-1)))>>=fun v40=>
  if out.length+1≤67108864 then
   F.f57 w table depth x29 v31 v40.2.f0 v40.2.f1 (out++[v40.1]) (i34+1)
  else none
 else
  some (z,z33,out)
 partial_fixpoint
end
def F.f58 (r':Vl.T_spec_l17Rd):Option ((List Vl.Data)×Vl.Ty×Vl.Value×Vl.T_spec_l17Rd):=
 (F.f39 r')>>=fun v=>
 (F.f53 v.1)>>=fun v2=>
 (F.f1 v.2 (v.1.length:Int))>>=fun v4=>
 (F.f54 v4.2 [(0:Int),(0:Int),(1:Int),(2:Int)])>>=fun v6=>
 (F.f47 v2 (⟨v4.1,v6.1⟩:Vl.Ty))>>=fun v8=>
 if v8=0 then
  (F.f54 v6.2 [(3:Int),(2:Int),(4:Int),(1:Int)])>>=fun v12=>
  (F.f56 v12.2 v.1 v2 (⟨(-1:Int),(0:Int)⟩:Vl.Ty) v12.1)>>=fun v14=>
  some (v.1,(⟨(-1:Int),(0:Int)⟩:Vl.Ty),v14.1,v14.2)
 else
  (F.f54 v6.2 [(3:Int),(2:Int),(4:Int),(1:Int)])>>=fun v16=>
  (F.f56 v16.2 v.1 v2 (⟨v4.1,v6.1⟩:Vl.Ty) v16.1)>>=fun v18=>
  some (v.1,(⟨v4.1,v6.1⟩:Vl.Ty),v18.1,v18.2)
def F.f59 (r':Vl.T_spec_l17Rd):Option ((List Vl.Data)×(List Vl.FunType)×(List Vl.VarType)×Vl.Ty×Vl.T_spec_l17Rd):=
 (F.f58 r')>>=fun v=>
 (F.f1 v.2.2.2 (4:Int))>>=fun v2=>
 if 0≤v2.1∧v2.1.toNat≤[(⟨v.2.1,(⟨(-1:Int),(0:Int)⟩:Vl.Ty)⟩:Vl.FunType),(⟨(⟨(-1:Int),(0:Int)⟩:Vl.Ty),v.2.1⟩:Vl.FunType),(⟨v.2.1,v.2.1⟩:Vl.FunType)].length then
  (F.f1 v2.2 (4:Int))>>=fun v5=>
  if 0≤v5.1∧v5.1.toNat≤[(⟨(0:Int),(⟨(-1:Int),(0:Int)⟩:Vl.Ty)⟩:Vl.VarType),(⟨(1:Int),v.2.1⟩:Vl.VarType),(⟨(3:Int),(⟨(-1:Int),(0:Int)⟩:Vl.Ty)⟩:Vl.VarType)].length then
   some (v.1,List.take v2.1.toNat [(⟨v.2.1,(⟨(-1:Int),(0:Int)⟩:Vl.Ty)⟩:Vl.FunType),(⟨(⟨(-1:Int),(0:Int)⟩:Vl.Ty),v.2.1⟩:Vl.FunType),(⟨v.2.1,v.2.1⟩:Vl.FunType)],List.take v5.1.toNat [(⟨(0:Int),(⟨(-1:Int),(0:Int)⟩:Vl.Ty)⟩:Vl.VarType),(⟨(1:Int),v.2.1⟩:Vl.VarType),(⟨(3:Int),(⟨(-1:Int),(0:Int)⟩:Vl.Ty)⟩:Vl.VarType)],v.2.1,v5.2)
  else none
 else none
def F.f60 (a:Vl.Ty)(b:Vl.Ty):Option (Bool):=
 if a.data=b.data then
  if b.index=0 then
   some true
  else
   some (decide (a.index=b.index))
 else
  some false
mutual
def F.f61 (v:Vl.Value):Option (Vl.Expr):=
 if v.ctor=(-1)then
  some (⟨(1:Int),v.n,(0:Int),[]⟩:Vl.Expr)
 else
  (F.f62 v [] 0)>>=fun o'=>
  some (⟨(3:Int),(0:Int),v.ctor,o'⟩:Vl.Expr)
 partial_fixpoint
def F.f62 (v:Vl.Value)(out:List Vl.Expr)(i:Nat):Option (List Vl.Expr):=
 if i<v.kids.length then
  (v.kids[i]?)>>=fun x=>
  (F.f61 x)>>=fun v7=>
  if out.length+1≤67108864 then
   F.f62 v (out++[v7]) (i+1)
  else none
 else
  some out
 partial_fixpoint
end
def F.f63 (w:List Vl.Data)(funs:List Vl.FunType)(vars:List Vl.VarType)(t:Vl.Ty)(depth:Int)(v:List Int)(z:List Int)(z2:Int)(i:Nat):Option (Lo (Vl.Expr×Vl.T_spec_l17Rd) ((List Int)×Int)):=
 if i<vars.length then
  (F.f1 (⟨z,z2⟩:Vl.T_spec_l17Rd) (3:Int))>>=fun v6=>
  if 0<v6.1 then
   (F.f1 v6.2 (vars.length:Int))>>=fun v10=>
   (at? vars v10.1)>>=fun x=>
   (F.f60 x.type t)>>=fun v13=>
   if v13=true then
    some (.ret ((⟨(2:Int),x.var,(0:Int),[]⟩:Vl.Expr),v10.2))
   else
    F.f63 w funs vars t depth v v10.2.f0 v10.2.f1 (i+1)
  else
   some (.go (v6.2.f0,v6.2.f1))
 else
  some (.go (z,z2))
 partial_fixpoint
mutual
def F.f64 (r':Vl.T_spec_l17Rd)(w:List Vl.Data)(funs:List Vl.FunType)(vars:List Vl.VarType)(t:Vl.Ty)(depth:Int):Option (Vl.Expr×Vl.T_spec_l17Rd):=
 (F.f53 w)>>=fun v=>
 (F.f63 w funs vars t depth v r'.f0 r'.f1 0)>>=fun o'=>
 match o' with
 | .ret r099=>some r099
 | .go sx=>
  (F.f65 w funs vars t depth v sx.1 sx.2 0)>>=fun o'41=>
  match o'41 with
  | .ret r0=>some r0
  | .go sx42=>
   if t.data=(-1)then
    if 1<depth then
     (F.f1 (⟨sx42.1,sx42.2⟩:Vl.T_spec_l17Rd) (3:Int))>>=fun v47=>
     if v47.1=0 then
      (F.f64 v47.2 w funs vars t (IntKind.i64.wrap (depth-1)))>>=fun v51=>
      (F.f64 v51.2 w funs vars t (IntKind.i64.wrap (depth-1)))>>=fun v53=>
      some ((⟨(4:Int),(0:Int),(0:Int),[v51.1,v53.1]⟩:Vl.Expr),v53.2)
     else
      if depth<2 then
       (F.f56 v47.2 w v t (1:Int))>>=fun v61=>
       (F.f61 v61.1)>>=fun v63=>
       some (v63,v61.2)
      else
       (F.f56 v47.2 w v t (1:Int))>>=fun v57=>
       (F.f61 v57.1)>>=fun v59=>
       some (v59,v57.2)
    else
     if depth<2 then
      (F.f56 (⟨sx42.1,sx42.2⟩:Vl.T_spec_l17Rd) w v t (1:Int))>>=fun v71=>
      (F.f61 v71.1)>>=fun v73=>
      some (v73,v71.2)
     else
      (F.f56 (⟨sx42.1,sx42.2⟩:Vl.T_spec_l17Rd) w v t (1:Int))>>=fun v67=>
      (F.f61 v67.1)>>=fun v69=>
      some (v69,v67.2)
   else
    if depth<2 then
     (F.f56 (⟨sx42.1,sx42.2⟩:Vl.T_spec_l17Rd) w v t (1:Int))>>=fun v95=>
     (F.f61 v95.1)>>=fun v97=>
     some (v97,v95.2)
    else
     (F.f56 (⟨sx42.1,sx42.2⟩:Vl.T_spec_l17Rd) w v t depth)>>=fun v77=>
     (F.f45 w t v77.1.ctor)>>=fun v79=>
     (F.f66 w funs vars depth v77 v79 v77.2.f0 v77.2.f1 [] 0)>>=fun o'94=>
     some ((⟨(3:Int),(0:Int),v77.1.ctor,o'94.2.2⟩:Vl.Expr),(⟨o'94.1,o'94.2.1⟩:Vl.T_spec_l17Rd))
 partial_fixpoint
def F.f65 (w:List Vl.Data)(funs:List Vl.FunType)(vars:List Vl.VarType)(t:Vl.Ty)(depth:Int)(v:List Int)(z19:List Int)(z20:Int)(i21:Nat):Option (Lo (Vl.Expr×Vl.T_spec_l17Rd) ((List Int)×Int)):=
 if i21<funs.length then
  if 1<depth then
   (funs[i21]?)>>=fun x27=>
   (F.f60 x27.res t)>>=fun v29=>
   if v29=true then
    (F.f47 v x27.arg)>>=fun v33=>
    if 0<v33 then
     (F.f1 (⟨z19,z20⟩:Vl.T_spec_l17Rd) (3:Int))>>=fun v37=>
     if v37.1=0 then
      (F.f64 v37.2 w funs vars x27.arg (IntKind.i64.wrap (depth-1)))>>=fun v41=>
      some (.ret ((⟨(5:Int),(i21:Int),(0:Int),[v41.1]⟩:Vl.Expr),v41.2))
     else
      F.f65 w funs vars t depth v v37.2.f0 v37.2.f1 (i21+1)
    else
     F.f65 w funs vars t depth v z19 z20 (i21+1)
   else
    F.f65 w funs vars t depth v z19 z20 (i21+1)
  else
   some (.go (z19,z20))
 else
  some (.go (z19,z20))
 partial_fixpoint
def F.f66 (w:List Vl.Data)(funs:List Vl.FunType)(vars:List Vl.VarType)(depth:Int)(v77:Vl.Value×Vl.T_spec_l17Rd)(v79:List Vl.Ty)(z81:List Int)(z82:Int)(out:List Vl.Expr)(i83:Nat):Option ((List Int)×Int×(List Vl.Expr)):=
 if i83<v79.length then
  (v79[i83]?)>>=fun x87=>
  (F.f64 (⟨z81,z82⟩:Vl.T_spec_l17Rd) w funs vars x87 (IntKind.i64.wrap (depth-1)))>>=fun v89=>
  if out.length+1≤67108864 then
   F.f66 w funs vars depth v77 v79 v89.2.f0 v89.2.f1 (out++[v89.1]) (i83+1)
  else none
 else
  some (z81,z82,out)
 partial_fixpoint
end
def F.f67 (r':Vl.T_spec_l17Rd)(e:Vl.Expr):Option (Vl.Expr×Vl.T_spec_l17Rd):=
 if e.kids.length≤67108864 then
  (F.f1 r' (24:Int))>>=fun v=>
  if v.1=0 then
   (F.f54 v.2 [(0:Int),(6:Int),(1:Int),(2:Int),(5:Int)])>>=fun v5=>
   some ((⟨v5.1,e.n,e.ctor,e.kids⟩:Vl.Expr),v5.2)
  else
   if v.1=1 then
    (F.f54 v.2 [(10:Int),(-1:Int),(3:Int)])>>=fun v9=>
    some ((⟨e.op,v9.1,e.ctor,e.kids⟩:Vl.Expr),v9.2)
   else
    if v.1=2 then
     if e.kids.length+1≤67108864 then
      some ((⟨e.op,e.n,e.ctor,e.kids++[(⟨(1:Int),(0:Int),(0:Int),[]⟩:Vl.Expr)]⟩:Vl.Expr),v.2)
     else none
    else
     if v.1=3 then
      if 0<e.kids.length then
       (e.kids[0]?)>>=fun x=>
       (F.f67 v.2 x)>>=fun v20=>
       (F.f67 v20.2 v20.1)>>=fun v22=>
       some ((⟨e.op,e.n,e.ctor,e.kids.set 0 v22.1⟩:Vl.Expr),v22.2)
      else
       some (e,v.2)
     else
      some (e,v.2)
 else none
 partial_fixpoint
def F.f68 (code:List Int):Option ((List Vl.Data)×(List Vl.FunType)×(List Vl.VarType)×Vl.Ty×Vl.Expr):=
 if 2000<code.length then
  if 2000≤code.length then
   (F.f59 (⟨(code.drop 0).take (2000-0),(0:Int)⟩:Vl.T_spec_l17Rd))>>=fun v=>
   (F.f54 v.2.2.2.2 [(3:Int),(2:Int),(4:Int),(1:Int)])>>=fun v6=>
   (F.f64 v6.2 v.1 v.2.1 v.2.2.1 v.2.2.2.1 v6.1)>>=fun v8=>
   (F.f67 v8.2 v8.1)>>=fun v10=>
   (F.f1 v10.2 (24:Int))>>=fun v12=>
   if v12.1=0 then
    if v.2.1.length+1≤67108864 then
     some (v.1,v.2.1++[(⟨(⟨(9:Int),(0:Int)⟩:Vl.Ty),(⟨(0:Int),(0:Int)⟩:Vl.Ty)⟩:Vl.FunType)],v.2.2.1,v.2.2.2.1,v10.1)
    else none
   else
    if v12.1=1 then
     (F.f54 v12.2 [(0:Int),(9:Int),(-1:Int)])>>=fun v19=>
     if v.2.2.1.length+1≤67108864 then
      some (v.1,v.2.1,v.2.2.1++[(⟨v19.1,v.2.2.2.1⟩:Vl.VarType)],v.2.2.2.1,v10.1)
     else none
    else
     some (v.1,v.2.1,v.2.2.1,v.2.2.2.1,v10.1)
  else none
 else
  (F.f59 (⟨code,(0:Int)⟩:Vl.T_spec_l17Rd))>>=fun v22=>
  (F.f54 v22.2.2.2.2 [(3:Int),(2:Int),(4:Int),(1:Int)])>>=fun v24=>
  (F.f64 v24.2 v22.1 v22.2.1 v22.2.2.1 v22.2.2.2.1 v24.1)>>=fun v26=>
  (F.f67 v26.2 v26.1)>>=fun v28=>
  (F.f1 v28.2 (24:Int))>>=fun v30=>
  if v30.1=0 then
   if v22.2.1.length+1≤67108864 then
    some (v22.1,v22.2.1++[(⟨(⟨(9:Int),(0:Int)⟩:Vl.Ty),(⟨(0:Int),(0:Int)⟩:Vl.Ty)⟩:Vl.FunType)],v22.2.2.1,v22.2.2.2.1,v28.1)
   else none
  else
   if v30.1=1 then
    (F.f54 v30.2 [(0:Int),(9:Int),(-1:Int)])>>=fun v37=>
    if v22.2.2.1.length+1≤67108864 then
     some (v22.1,v22.2.1,v22.2.2.1++[(⟨v37.1,v22.2.2.2.1⟩:Vl.VarType)],v22.2.2.2.1,v28.1)
    else none
   else
    some (v22.1,v22.2.1,v22.2.2.1,v22.2.2.2.1,v28.1)
def F.f69 (n:Int)(low:Int)(high:Int):Option (Bool):=
 if low≤n then
  some (decide (n≤high))
 else
  some false
def F.f70 (s:ByteArray)(i:Nat):Option (Lo Bool Unit):=
 if i<s.size then
  if byteAt s i<97 then
   some (.ret false)
  else
   if 122<byteAt s i then
    some (.ret false)
   else
    if i+1≤9223372036854775807 then
     F.f70 s (i+1)
    else none
 else
  some (.go ())
 partial_fixpoint
def F.f71 (s:ByteArray):Option (Bool):=
 (F.f69 (s.size:Int) (1:Int) (5:Int))>>=fun v=>
 if v=true then
  if 0<s.size then
   if byteAt s 0<65 then
    some false
   else
    if 90<byteAt s 0 then
     some false
    else
     (F.f70 s 1)>>=fun o'=>
     match o' with
     | .ret r0=>some r0
     | .go sx=>
      some true
  else none
 else
  some false
def F.f72 (w:List Vl.Data)(t:Vl.Ty):Option (Bool):=
 if dec (eq2 (t.data,t.index) ((-1),0))=true then
  some true
 else
  (F.f69 t.data (0:Int) (IntKind.i64.wrap ((w.length:Int) -1)))>>=fun v=>
  if v=true then
   (F.f69 t.index (-1:Int) (3:Int))>>=fun v6=>
   some v6
  else
   some false
def F.f73 (t:Vl.Ty)(a1:List Vl.Data):Option (Bool):=
 (F.f72 a1 t)>>=fun v=>
 some (!v)
def F.f74 (s:List Vl.Ty)(k0:List Vl.Data)(i:Nat):Option (Lo Int Unit):=
 if i<s.length then
  (s[i]?)>>=fun x=>
  (F.f73 x k0)>>=fun v=>
  if v=true then
   some (.ret (i:Int))
  else
   F.f74 s k0 (i+1)
 else
  some (.go ())
 partial_fixpoint
def F.f75 (s:List Vl.Ty)(k0:List Vl.Data):Option (Int):=
 (F.f74 s k0 0)>>=fun o'=>
 match o' with
 | .ret r0=>some r0
 | .go sx=>
  some (-1:Int)
def F.f76 (s:List Vl.Ty)(k0:List Vl.Data):Option (Bool):=
 (F.f75 s k0)>>=fun v=>
 some (decide (0≤v))
def F.f77 (w:List Vl.Data)(c':Vl.Ctor):Option (Bool):=
 (F.f71 c'.name)>>=fun v=>
 if v=true then
  if c'.args.length≤3 then
   (F.f69 c'.index (0:Int) (3:Int))>>=fun v7=>
   if v7=true then
    (F.f76 c'.args w)>>=fun v11=>
    some (!v11)
   else
    some false
  else
   some false
 else
  some false
def F.f78 (w:List Vl.Data)(met4:List ByteArray)(i:Nat)(x:Vl.Data)(met26:List ByteArray)(i27:Nat):Option (Lo Bool (List ByteArray)):=
 if i27<x.ctors.length then
  (x.ctors[i27]?)>>=fun x31=>
  (F.f77 w x31)>>=fun v33=>
  if v33=true then
   if dec (x31.name∈met26)=true then
    some (.ret false)
   else
    F.f78 w met4 i x (msIns met26 x31.name) (i27+1)
  else
   some (.ret false)
 else
  some (.go met26)
 partial_fixpoint
def F.f79 (w:List Vl.Data)(met:List ByteArray)(met4:List ByteArray)(i:Nat):Option (Lo Bool ((List ByteArray)×(List ByteArray))):=
 if i<w.length then
  (w[i]?)>>=fun x=>
  if x.name.size=1 then
   if 0<x.name.size then
    if byteAt x.name 0<65 then
     some (.ret false)
    else
     if 90<byteAt x.name 0 then
      some (.ret false)
     else
      if x.name.toList=(⟨#[73]⟩:ByteArray).toList then
       some (.ret false)
      else
       if dec (x.name∈met4)=true then
        some (.ret false)
       else
        (F.f69 (x.ctors.length:Int) (1:Int) (4:Int))>>=fun v=>
        if v=true then
         (F.f78 w met4 i x met 0)>>=fun o'=>
         match o' with
         | .ret r0=>some (.ret r0)
         | .go sx=>
          if i+1≤9223372036854775807 then
           F.f79 w sx (msIns met4 x.name) (i+1)
          else none
        else
         some (.ret false)
   else none
  else
   some (.ret false)
 else
  some (.go (met,met4))
 partial_fixpoint
def F.f80 (w:List Vl.Data):Option (Bool):=
 if 4<w.length then
  some false
 else
  (F.f79 w [] [] 0)>>=fun o'44=>
  match o'44 with
  | .ret r046=>some r046
  | .go sx45=>
   some true
def F.f81 (w:List Vl.Data)(t:Vl.Ty):Option (Bool):=
 if dec (eq2 (t.data,t.index) ((-1),0))=true then
  some true
 else
  (F.f69 t.data (0:Int) (IntKind.i64.wrap ((w.length:Int) -1)))>>=fun v=>
  if v=true then
   (F.f69 t.index (0:Int) (3:Int))>>=fun v6=>
   some v6
  else
   some false
def F.f82 (w:List Vl.Data)(t:Vl.Ty):Option (Bool):=
 (F.f80 w)>>=fun v=>
 if v=true then
  (F.f81 w t)>>=fun v4=>
  some v4
 else
  some false
def F.f83 (f:Vl.FunType)(a1:Vl.T_impl_scope):Option (Bool):=
 (F.f81 a1.f0 f.arg)>>=fun v=>
 if v=true then
  (F.f81 a1.f0 f.res)>>=fun v4=>
  some (!v4)
 else
  some true
def F.f84 (s:List Vl.FunType)(k0:Vl.T_impl_scope)(i:Nat):Option (Lo Int Unit):=
 if i<s.length then
  (s[i]?)>>=fun x=>
  (F.f83 x k0)>>=fun v=>
  if v=true then
   some (.ret (i:Int))
  else
   F.f84 s k0 (i+1)
 else
  some (.go ())
 partial_fixpoint
def F.f85 (s:List Vl.FunType)(k0:Vl.T_impl_scope):Option (Int):=
 (F.f84 s k0 0)>>=fun o'=>
 match o' with
 | .ret r0=>some r0
 | .go sx=>
  some (-1:Int)
def F.f86 (s:List Vl.FunType)(k0:Vl.T_impl_scope):Option (Bool):=
 (F.f85 s k0)>>=fun v=>
 some (decide (0≤v))
def F.f87 (v:Int):Option (Bool):=
 (F.f69 v (0:Int) (5:Int))>>=fun v1=>
 some v1
def F.f88 (s:Vl.T_impl_scope)(set':Nat→Bool)(i:Nat):Option (Lo Bool Unit):=
 if i<s.f2.length then
  (s.f2[i]?)>>=fun x=>
  (F.f87 x.var)>>=fun v11=>
  if v11=true then
   if 0≤x.var∧x.var.toNat<6 then
    if set' x.var.toNat=true then
     some (.ret false)
    else
     (F.f81 s.f0 x.type)>>=fun v18=>
     if v18=true then
      F.f88 s (updF set' x.var.toNat true) (i+1)
     else
      some (.ret false)
   else none
  else
   some (.ret false)
 else
  some (.go ())
 partial_fixpoint
def F.f89 (s:Vl.T_impl_scope):Option (Bool):=
 if 4<s.f1.length then
  some false
 else
  (F.f86 s.f1 s)>>=fun v=>
  if v=true then
   some false
  else
   (F.f88 s (fun _=>false) 0)>>=fun o'=>
   match o' with
   | .ret r0=>some r0
   | .go sx=>
    some true
def F.f90 (x:Vl.VarType)(a1:Int):Option (Bool):=
 some (decide (x.var=a1))
def F.f91 (s:List Vl.VarType)(k0:Int)(i:Nat):Option (Lo Int Unit):=
 if i<s.length then
  (s[i]?)>>=fun x=>
  (F.f90 x k0)>>=fun v=>
  if v=true then
   some (.ret (i:Int))
  else
   F.f91 s k0 (i+1)
 else
  some (.go ())
 partial_fixpoint
def F.f92 (s:List Vl.VarType)(k0:Int):Option (Int):=
 (F.f91 s k0 0)>>=fun o'=>
 match o' with
 | .ret r0=>some r0
 | .go sx=>
  some (-1:Int)
def F.f93 (s:Vl.T_impl_scope)(v:Int):Option (Vl.Ty×Bool):=
 (F.f92 s.f2 v)>>=fun v1=>
 if v1<0 then
  some ((⟨(0:Int),(0:Int)⟩:Vl.Ty),false)
 else
  (at? s.f2 v1)>>=fun x=>
  some (x.type,true)
def F.f94 (a:Vl.Ty)(b:Vl.Ty):Option (Bool):=
 if a.data=b.data then
  if b.index=0 then
   some true
  else
   some (decide (a.index=b.index))
 else
  some false
def F.f95 (t:Vl.Ty)(x:Vl.Data)(i:Nat)(out:List Int):Option (List Int):=
 if i<x.ctors.length then
  (x.ctors[i]?)>>=fun x7=>
  if t.index=0 then
   if out.length+1≤67108864 then
    F.f95 t x (i+1) (out++[(i:Int)])
   else none
  else
   if x7.index=0 then
    if out.length+1≤67108864 then
     F.f95 t x (i+1) (out++[(i:Int)])
    else none
   else
    if x7.index=t.index then
     if out.length+1≤67108864 then
      F.f95 t x (i+1) (out++[(i:Int)])
     else none
    else
     F.f95 t x (i+1) out
 else
  some out
 partial_fixpoint
def F.f96 (w:List Vl.Data)(t:Vl.Ty):Option (List Int):=
 if t.data=(-1)then
  some []
 else
  (at? w t.data)>>=fun x=>
  (F.f95 t x 0 [])>>=fun o'=>
  some o'
def F.f97 (s:List Int)(v:Int)(i:Nat):Option (Lo Int Unit):=
 if i<s.length then
  (s[i]?)>>=fun x=>
  if v=x then
   some (.ret (i:Int))
  else
   F.f97 s v (i+1)
 else
  some (.go ())
 partial_fixpoint
def F.f98 (s:List Int)(v:Int):Option (Int):=
 (F.f97 s v 0)>>=fun o'=>
 match o' with
 | .ret r0=>some r0
 | .go sx=>
  some (-1:Int)
def F.f99 (s:List Int)(v:Int):Option (Bool):=
 (F.f98 s v)>>=fun v1=>
 some (decide (0≤v1))
def F.f100 (t:Vl.Ty)(x2:Vl.Ctor)(i:Nat)(out:List Vl.Ty):Option (List Vl.Ty):=
 if i<x2.args.length then
  (x2.args[i]?)>>=fun x9=>
  if x9.index=(-1)then
   if out.length+1≤67108864 then
    F.f100 t x2 (i+1) (out++[(⟨x9.data,t.index⟩:Vl.Ty)])
   else none
  else
   if out.length+1≤67108864 then
    F.f100 t x2 (i+1) (out++[x9])
   else none
 else
  some out
 partial_fixpoint
def F.f101 (x2:Vl.Ctor)(i18:Nat)(out19:List Vl.Ty):Option (List Vl.Ty):=
 if i18<x2.args.length then
  (x2.args[i18]?)>>=fun x23=>
  if x23.index=(-1)then
   if out19.length+1≤67108864 then
    F.f101 x2 (i18+1) (out19++[(⟨x23.data,x2.index⟩:Vl.Ty)])
   else none
  else
   if out19.length+1≤67108864 then
    F.f101 x2 (i18+1) (out19++[x23])
   else none
 else
  some out19
 partial_fixpoint
def F.f102 (w:List Vl.Data)(t:Vl.Ty)(ctor:Int):Option (List Vl.Ty):=
 (at? w t.data)>>=fun x=>
 (at? x.ctors ctor)>>=fun x2=>
 if x2.index=0 then
  (F.f100 t x2 0 [])>>=fun o'=>
  some o'
 else
  (F.f101 x2 0 [])>>=fun o'32=>
  some o'32
def F.f103 (s:Vl.T_impl_scope)(t:Vl.Ty)(e:Vl.Expr):Option ((List Vl.Ty)×Bool):=
 if e.op=1 then
  if t.data=(-1)then
   (F.f69 e.n (0:Int) (9:Int))>>=fun v=>
   if v=true then
    some ([],decide (e.ctor=0))
   else
    some ([],false)
  else
   some ([],false)
 else
  if e.op=2 then
   (F.f93 s e.n)>>=fun v10=>
   if v10.2=true then
    (F.f94 v10.1 t)>>=fun v14=>
    if v14=true then
     some ([],decide (e.ctor=0))
    else
     some ([],false)
   else
    some ([],false)
  else
   if e.op=3 then
    if e.n=0 then
     (F.f96 s.f0 t)>>=fun v22=>
     (F.f99 v22 e.ctor)>>=fun v24=>
     if v24=true then
      (F.f102 s.f0 t e.ctor)>>=fun v28=>
      some (v28,true)
     else
      some ([],false)
    else
     some ([],false)
   else
    if e.op=4 then
     if t.data=(-1)then
      if e.n=0 then
       some ([t,t],decide (e.ctor=0))
      else
       some ([t,t],false)
     else
      some ([t,t],false)
    else
     if e.op=5 then
      (F.f69 e.n (0:Int) (IntKind.i64.wrap ((s.f1.length:Int) -1)))>>=fun v38=>
      if v38=true then
       if e.ctor=0 then
        (at? s.f1 e.n)>>=fun x=>
        (F.f94 x.res t)>>=fun v45=>
        some ([x.arg],v45)
       else
        some ([],false)
      else
       some ([],false)
     else
      some ([],false)
mutual
def F.f104 (s:Vl.T_impl_scope)(t:Vl.Ty)(e:Vl.Expr)(deep:Int)(count:Int):Option (Bool×Int):=
 if 60<IntKind.i64.wrap (count+1)then
  some (false,IntKind.i64.wrap (count+1))
 else
  if 10<deep then
   some (false,IntKind.i64.wrap (count+1))
  else
   (F.f103 s t e)>>=fun v=>
   if v.2=true then
    if v.1.length=e.kids.length then
     (F.f105 s e deep v (IntKind.i64.wrap (count+1)) 0)>>=fun o'=>
     match o' with
     | .ret r0=>some r0
     | .go sx=>
      some (true,sx)
    else
     some (false,IntKind.i64.wrap (count+1))
   else
    some (false,IntKind.i64.wrap (count+1))
 partial_fixpoint
def F.f105 (s:Vl.T_impl_scope)(e:Vl.Expr)(deep:Int)(v:(List Vl.Ty)×Bool)(z:Int)(i:Nat):Option (Lo (Bool×Int) Int):=
 if i<e.kids.length then
  (e.kids[i]?)>>=fun x=>
  (v.1[i]?)>>=fun x15=>
  (F.f104 s x15 x (IntKind.i64.wrap (deep+1)) z)>>=fun v17=>
  if v17.1=true then
   F.f105 s e deep v v17.2 (i+1)
  else
   some (.ret (false,v17.2))
 else
  some (.go z)
 partial_fixpoint
end
def F.f106 (s:Vl.T_impl_scope)(t:Vl.Ty)(e:Vl.Expr):Option (Bool):=
 (F.f104 s t e (1:Int) (0:Int))>>=fun v=>
 some v.1
def F.f107 (w:List Vl.Data)(funs:List Vl.FunType)(vars:List Vl.VarType)(t:Vl.Ty)(e:Vl.Expr):Option (Bool):=
 (F.f82 w t)>>=fun v=>
 if v=true then
  (F.f89 (⟨w,funs,vars⟩:Vl.T_impl_scope))>>=fun v4=>
  if v4=true then
   (F.f106 (⟨w,funs,vars⟩:Vl.T_impl_scope) t e)>>=fun v8=>
   some v8
  else
   some false
 else
  some false
def F.f108 (w:List Vl.Data)(t:Vl.Ty):Option (Bool):=
 (F.f15 (w.length:Int) t)>>=fun v=>
 if v=true then
  some (decide (0≤t.index))
 else
  some false
def F.f109 (w:List Vl.Data)(t:Vl.Ty):Option (Bool):=
 (F.f24 w)>>=fun v=>
 if v=true then
  (F.f108 w t)>>=fun v4=>
  some v4
 else
  some false
def F.f110 (w:List Vl.Data)(funs:List Vl.FunType)(i:Nat):Option (Lo Bool Unit):=
 if i<funs.length then
  if i≤4 then
   (funs[i]?)>>=fun x=>
   (F.f108 w x.arg)>>=fun v=>
   if v=true then
    (F.f108 w x.res)>>=fun v11=>
    if v11=true then
     F.f110 w funs (i+1)
    else
     some (.ret false)
   else
    some (.ret false)
  else
   some (.go ())
 else
  some (.go ())
 partial_fixpoint
def F.f111 (w:List Vl.Data)(funs:List Vl.FunType):Option (Bool):=
 (F.f110 w funs 0)>>=fun o'=>
 match o' with
 | .ret r0=>some r0
 | .go sx=>
  some (decide (funs.length≤4))
def F.f112 (list:List Vl.VarType)(n:Int)(i:Nat):Option (Lo Int Unit):=
 if i<list.length then
  (list[i]?)>>=fun x=>
  if x.var=n then
   some (.ret (i:Int))
  else
   F.f112 list n (i+1)
 else
  some (.go ())
 partial_fixpoint
def F.f113 (list:List Vl.VarType)(n:Int):Option (Int):=
 (F.f112 list n 0)>>=fun o'=>
 match o' with
 | .ret r0=>some r0
 | .go sx=>
  some (-1:Int)
def F.f114 (w:List Vl.Data)(vars:List Vl.VarType)(i:Nat):Option (Lo Bool Unit):=
 if i<vars.length then
  (vars[i]?)>>=fun x=>
  if x.var<0 then
   some (.ret false)
  else
   if 5<x.var then
    some (.ret false)
   else
    (F.f108 w x.type)>>=fun v=>
    if v=true then
     (F.f113 vars x.var)>>=fun v12=>
     if v12=(i:Int)then
      F.f114 w vars (i+1)
     else
      some (.ret false)
    else
     some (.ret false)
 else
  some (.go ())
 partial_fixpoint
def F.f115 (w:List Vl.Data)(vars:List Vl.VarType):Option (Bool):=
 (F.f114 w vars 0)>>=fun o'=>
 match o' with
 | .ret r0=>some r0
 | .go sx=>
  some true
def F.f116 (w:List Vl.Data)(funs:List Vl.FunType)(vars:List Vl.VarType)(t:Vl.Ty):Option (Bool):=
 (F.f109 w t)>>=fun v=>
 if v=true then
  (F.f111 w funs)>>=fun v4=>
  if v4=true then
   (F.f115 w vars)>>=fun v8=>
   some v8
  else
   some false
 else
  some false
def F.f117 (list:List Int)(n:Int)(i:Nat):Option (Lo Bool Unit):=
 if i<list.length then
  (list[i]?)>>=fun x=>
  if x=n then
   some (.ret true)
  else
   F.f117 list n (i+1)
 else
  some (.go ())
 partial_fixpoint
def F.f118 (list:List Int)(n:Int):Option (Bool):=
 (F.f117 list n 0)>>=fun o'=>
 match o' with
 | .ret r0=>some r0
 | .go sx=>
  some false
def F.f119 (w:List Vl.Data)(funs:List Vl.FunType)(vars:List Vl.VarType)(t:Vl.Ty)(e:Vl.Expr):Option ((List Vl.Ty)×Bool):=
 if e.op=3 then
  if e.n=0 then
   (F.f42 w t)>>=fun v40=>
   (F.f118 v40 e.ctor)>>=fun v42=>
   if v42=true then
    (F.f45 w t e.ctor)>>=fun v46=>
    some (v46,true)
   else
    some ([],false)
  else
   some ([],false)
 else
  if e.ctor=0 then
   if e.op=4 then
    if e.n=0 then
     some ([(⟨(-1:Int),(0:Int)⟩:Vl.Ty),(⟨(-1:Int),(0:Int)⟩:Vl.Ty)],dec (eq2 (t.data,t.index) ((-1),0)))
    else
     some ([],false)
   else
    if e.op=1 then
     if dec (eq2 (t.data,t.index) ((-1),0))=true then
      if 0≤e.n then
       some ([],decide (e.n≤9))
      else
       some ([],false)
     else
      some ([],false)
    else
     if e.op=2 then
      (F.f113 vars e.n)>>=fun v=>
      if 0≤v then
       (at? vars v)>>=fun x=>
       (F.f60 x.type t)>>=fun v23=>
       some ([],v23)
      else
       some ([],false)
     else
      if e.op=5 then
       if e.n<0 then
        some ([],false)
       else
        if(funs.length:Int)≤e.n then
         some ([],false)
        else
         (at? funs e.n)>>=fun x31=>
         (F.f60 x31.res t)>>=fun v33=>
         some ([x31.arg],v33)
      else
       some ([],false)
  else
   some ([],false)
mutual
def F.f120 (w:List Vl.Data)(funs:List Vl.FunType)(vars:List Vl.VarType)(t:Vl.Ty)(e:Vl.Expr)(depth:Int):Option (Bool):=
 if depth<1 then
  some false
 else
  (F.f119 w funs vars t e)>>=fun v=>
  if v.2=true then
   if e.kids.length=v.1.length then
    (F.f121 w funs vars e depth v 0)>>=fun o'=>
    match o' with
    | .ret r0=>some r0
    | .go sx=>
     some true
   else
    some false
  else
   some false
 partial_fixpoint
def F.f121 (w:List Vl.Data)(funs:List Vl.FunType)(vars:List Vl.VarType)(e:Vl.Expr)(depth:Int)(v:(List Vl.Ty)×Bool)(i:Nat):Option (Lo Bool Unit):=
 if i<v.1.length then
  (v.1[i]?)>>=fun x=>
  (e.kids[i]?)>>=fun x13=>
  (F.f120 w funs vars x x13 (IntKind.i64.wrap (depth-1)))>>=fun v15=>
  if v15=true then
   F.f121 w funs vars e depth v (i+1)
  else
   some (.ret false)
 else
  some (.go ())
 partial_fixpoint
end
mutual
def F.f122 (e:Vl.Expr)(most:Int):Option (Int):=
 (F.f123 e most (1:Int) 0)>>=fun o'=>
 some o'
 partial_fixpoint
def F.f123 (e:Vl.Expr)(most:Int)(n:Int)(i:Nat):Option (Int):=
 if i<e.kids.length then
  if n≤most then
   (e.kids[i]?)>>=fun x=>
   (F.f122 x (IntKind.i64.wrap (most-n)))>>=fun v=>
   F.f123 e most (IntKind.i64.wrap (n+v)) (i+1)
  else
   some n
 else
  some n
 partial_fixpoint
end
def F.f124 (w:List Vl.Data)(funs:List Vl.FunType)(vars:List Vl.VarType)(t:Vl.Ty)(e:Vl.Expr):Option (Bool):=
 (F.f120 w funs vars t e (10:Int))>>=fun v=>
 if v=true then
  (F.f122 e (60:Int))>>=fun v4=>
  some (decide (v4≤60))
 else
  some false
def F.f125 (w:List Vl.Data)(funs:List Vl.FunType)(vars:List Vl.VarType)(t:Vl.Ty)(e:Vl.Expr):Option (Bool):=
 (F.f116 w funs vars t)>>=fun v=>
 if v=true then
  (F.f124 w funs vars t e)>>=fun v4=>
  some v4
 else
  some false
def F.f126 (i:Int):Option (ByteArray):=
 if 0≤i∧i<100 then
  some (itoaB i)
 else none
def F.f127 (v:Int):Option (ByteArray):=
 some (strB [IntKind.u8.wrap (IntKind.i64.wrap (97+v))])
def F.f128 (elems:List ByteArray)(sep:ByteArray):Option (ByteArray):=
 if joinOk elems sep then
  some (joinB elems sep)
 else none
def F.f129 (list:List ByteArray):Option (ByteArray):=
 if list.length=0 then
  some ByteArray.empty
 else
  (F.f128 list (⟨#[44]⟩:ByteArray))>>=fun v=>
  if(⟨#[40]⟩:ByteArray).size+v.size≤9223372036854775807 then
   if((⟨#[40]⟩:ByteArray)++v).size+(⟨#[41]⟩:ByteArray).size≤9223372036854775807 then
    some (((⟨#[40]⟩:ByteArray)++v)++(⟨#[41]⟩:ByteArray))
   else none
  else none
mutual
def F.f130 (s:Vl.T_impl_scope)(t:Vl.Ty)(e:Vl.Expr):Option (ByteArray):=
 (F.f103 s t e)>>=fun v=>
 (F.f131 s t e v 0 [])>>=fun o'=>
 if e.op=1 then
  (F.f126 e.n)>>=fun v15=>
  some v15
 else
  if e.op=2 then
   (F.f127 e.n)>>=fun v19=>
   some v19
  else
   if e.op=3 then
    (at? s.f0 t.data)>>=fun x23=>
    (at? x23.ctors e.ctor)>>=fun x25=>
    (F.f129 o')>>=fun v27=>
    if x25.name.size+v27.size≤9223372036854775807 then
     some (x25.name++v27)
    else none
   else
    if e.op=4 then
     (F.f129 o')>>=fun v32=>
     if(⟨#[43]⟩:ByteArray).size+v32.size≤9223372036854775807 then
      some ((⟨#[43]⟩:ByteArray)++v32)
     else none
    else
     (F.f126 e.n)>>=fun v35=>
     if(⟨#[35]⟩:ByteArray).size+v35.size≤9223372036854775807 then
      (F.f129 o')>>=fun v38=>
      if((⟨#[35]⟩:ByteArray)++v35).size+v38.size≤9223372036854775807 then
       some (((⟨#[35]⟩:ByteArray)++v35)++v38)
      else none
     else none
 partial_fixpoint
def F.f131 (s:Vl.T_impl_scope)(t:Vl.Ty)(e:Vl.Expr)(v:(List Vl.Ty)×Bool)(i:Nat)(kids:List ByteArray):Option (List ByteArray):=
 if i<e.kids.length then
  (e.kids[i]?)>>=fun x=>
  (v.1[i]?)>>=fun x6=>
  (F.f130 s x6 x)>>=fun v8=>
  if kids.length+1≤67108864 then
   F.f131 s t e v (i+1) (kids++[v8])
  else none
 else
  some kids
 partial_fixpoint
end
def F.f132 (w:List Vl.Data)(funs:List Vl.FunType)(vars:List Vl.VarType)(t:Vl.Ty)(e:Vl.Expr):Option (ByteArray):=
 (F.f107 w funs vars t e)>>=fun v=>
 if v=true then
  (F.f130 (⟨w,funs,vars⟩:Vl.T_impl_scope) t e)>>=fun v4=>
  some v4
 else
  some ByteArray.empty
def F.f133 (code:List Int):Option (Bool):=
 if 1048576<code.length then
  some true
 else
  (F.f68 code)>>=fun v=>
  (F.f107 v.1 v.2.1 v.2.2.1 v.2.2.2.1 v.2.2.2.2)>>=fun v5=>
  (F.f125 v.1 v.2.1 v.2.2.1 v.2.2.2.1 v.2.2.2.2)>>=fun v7=>
  if v5=v7 then
   if v5=true then
    if v.2.1.length=4 then
     (F.f125 v.1 v.2.1 v.2.2.1 v.2.2.2.1 v.2.2.2.2)>>=fun v16=>
     some (decide (v5=v16))
    else
     if v.2.1.length≤67108864 then
      if v.2.1.length+1≤67108864 then
       (F.f107 v.1 (v.2.1++[(⟨(⟨(-1:Int),(0:Int)⟩:Vl.Ty),(⟨(-1:Int),(0:Int)⟩:Vl.Ty)⟩:Vl.FunType)]) v.2.2.1 v.2.2.2.1 v.2.2.2.2)>>=fun v20=>
       if v20=true then
        (F.f132 v.1 (v.2.1++[(⟨(⟨(-1:Int),(0:Int)⟩:Vl.Ty),(⟨(-1:Int),(0:Int)⟩:Vl.Ty)⟩:Vl.FunType)]) v.2.2.1 v.2.2.2.1 v.2.2.2.2)>>=fun v24=>
        (F.f132 v.1 v.2.1 v.2.2.1 v.2.2.2.1 v.2.2.2.2)>>=fun v26=>
        some (decide (v24.toList=v26.toList))
       else
        some false
      else none
     else none
   else
    (F.f125 v.1 v.2.1 v.2.2.1 v.2.2.2.1 v.2.2.2.2)>>=fun v28=>
    some (decide (v5=v28))
  else
   (F.f125 v.1 v.2.1 v.2.2.1 v.2.2.2.1 v.2.2.2.2)>>=fun v30=>
   some (decide (v5=v30))
end
end Go.Vl
