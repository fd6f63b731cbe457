/- Plain laws that this one rests on (printed by gen_l.py). -/
import Derived.Test.YtnbcpgpmeeminaaDoorExactFormatNodesP
import Derived.Test.YtnbcpgpmeeminaaDoorVlQ
set_option linter.all false
set_option maxRecDepth 100000
namespace Go.Vl
open Go Go.RowKit
def texts :List ByteArray:=[⟨#[76,61,78,105,108,124,67,111,110,115,40,73,44,76,41]⟩,⟨#[66,61,84,114,117,124,70,108,115,59,84,61,76,101,97,102,124,78,111,100,101,40,84,44,66,44,84,41]⟩,⟨#[69,61,78,117,109,40,73,41,58,49,124,66,111,108,40,66,41,58,50,124,65,100,100,40,69,49,44,69,49,41,58,49,124,73,102,40,69,50,44,69,42,44,69,42,41,59,66,61,84,114,117,124,70,108,115]⟩,⟨#[79,61,78,111,110,124,83,111,109,40,73,41,59,80,61,80,97,105,114,40,79,44,79,41]⟩,⟨#[86,61,69,110,100,58,49,124,83,111,109,101,40,73,44,86,49,41,58,50,124,84,119,111,40,86,42,41]⟩,⟨#[78,61,78,101,118,101,114,40,78,41,59,66,61,84,114,117,124,70,108,115,124,77,97,121,40,78,41]⟩,⟨#[83,61,82,101,100,124,71,114,101,101,110,124,66,108,117,101,124,77,105,120,40,83,44,83,41]⟩,ByteArray.empty]
theorem ba_ext {a b:ByteArray}(h:a.data.toList=b.data.toList):a=b:=by
 obtain⟨x⟩:=a
 obtain⟨y⟩:=b
 congr 1
 exact Array.toList_inj.1 h
theorem ba_app (a b:ByteArray):(a++b).data.toList=a.data.toList++b.data.toList:=by rw[ByteArray.data_append,Array.toList_append]
theorem ba_size (a:ByteArray):a.size=a.data.toList.length:=by rw[Array.length_toList];rfl
theorem ba_add (a b:ByteArray):(a++b).size=a.size+b.size:=by rw[ba_size,ba_app,List.length_append,←ba_size,←ba_size]
theorem ba_assoc (a b c:ByteArray):a++b++c=a++(b++c):=ba_ext (by simp[ba_app])
theorem ba_nil (a:ByteArray):a++ByteArray.empty=a:=ba_ext (by simp[ba_app])
theorem nil_ba (a:ByteArray):ByteArray.empty++a=a:=ba_ext (by simp[ba_app])
theorem wrap_u8 (n:Int):IntKind.u8.wrap n=n%256:=rfl
theorem wrap_i64_mod (n:Int):IntKind.i64.wrap n%256=n%256:=by
 have:IntKind.i64.wrap n=n%18446744073709551616∨IntKind.i64.wrap n=n%18446744073709551616-18446744073709551616:=by
  unfold IntKind.wrap
  simp only
  split
  ·exact .inr rfl
  ·exact .inl rfl
 rcases this with e|e<;>omega
def hasV (v:Int):Nat→Pattern→Prop
 |0,_=>False
 |d+1,p=>(∃i,∃h:i<p.kids.length,hasV v d p.kids[i])∨((p.op=2∨p.op=6)∧p.var=v)
def hv (d:Nat)(p:Pattern):Prop:=∃v,hasV v d p
structure nodeOk (i:Nat)(x:Node):Prop where
 op0:0≤x.op
 op2:x.op≤2
 els0: -1≤x.els
 els1:x.els<i
 len:x.edges.length≤10
 edges:∀j (h:j<x.edges.length),0≤x.edges[j].to∧x.edges[j].to<i
theorem P.NodesValid_l2 (list:List Node)(i:Nat)(x:Node):F.f20 list i x 0=some (if dec (∀j (h:j<x.edges.length),0≤j→(0≤x.edges[j].to∧x.edges[j].to<i))=true then .go ()else .ret false):=by
 refine allLoop (a:=x.edges) (Q:=fun _ e=>0≤e.to∧e.to<i) (L:=F.f20 list i x) (fun k hk=> ?_) (fun k hk hq=> ?_) (fun k hk hq=> ?_) _ 0 rfl
 ·rw[F.f20,if_neg hk]
 ·rw[F.f20,if_pos hk,List.getElem?_eq_getElem hk]
  simp only[Option.bind_eq_bind,Option.bind_some]
  rw[if_neg (by omega),if_neg (by omega)]
 ·rw[F.f20,if_pos hk,List.getElem?_eq_getElem hk]
  simp only[Option.bind_eq_bind,Option.bind_some]
  by_cases h:x.edges[k].to<0
  ·rw[if_pos h]
  ·rw[if_neg h,if_pos (by omega)]
theorem P.spec_NodesValid (list:List Node):F.f22 list=some (dec (1≤list.length∧list.length≤300∧∀j (h:j<list.length),nodeOk j list[j])):=by
 unfold F.f22
 by_cases h0:list.length=0
 ·rw[if_pos h0,dec_not (by omega)]
 rw[if_neg h0]
 by_cases h1:300<list.length
 ·rw[if_pos h1,dec_not (by omega)]
 rw[if_neg h1]
 have key:F.f21 list 0=some (if dec (∀j (h:j<list.length),0≤j→nodeOk j list[j])=true then .go ()else .ret false):=by
  refine allLoop (a:=list) (Q:=nodeOk) (L:=fun k=>F.f21 list k) (fun k hk=> ?_) (fun k hk hq=> ?_) (fun k hk hq=> ?_) _ 0 rfl
  ·show F.f21 list k=_
   rw[F.f21,if_neg (by omega)]
  ·show F.f21 list k=F.f21 list (k+1)
   rw[F.f21,if_pos (by omega),List.getElem?_eq_getElem hk]
   have:=hq.op0;have:=hq.op2;have:=hq.els0;have:=hq.els1;have:=hq.len
   simp only[Option.bind_eq_bind,Option.bind_some,F.f19]
   rw[if_neg (by omega),if_neg (by omega),if_neg (by omega),if_neg (by omega),if_neg (by omega),P.NodesValid_l2,if_pos (dec_of fun j h _=>hq.edges j h)]
   exact if_pos (by omega)
  ·show F.f21 list k=_
   rw[F.f21,if_pos (by omega),List.getElem?_eq_getElem hk]
   simp only[Option.bind_eq_bind,Option.bind_some,F.f19]
   by_cases a1:list[k].op<0
   ·rw[if_pos a1]
   rw[if_neg a1]
   by_cases a2:2<list[k].op
   ·rw[if_pos a2]
   rw[if_neg a2]
   by_cases a3:list[k].els< -1
   ·rw[if_pos a3]
   rw[if_neg a3]
   by_cases a4:(k:Int)≤list[k].els
   ·rw[if_pos a4]
   rw[if_neg a4]
   by_cases a5:10<list[k].edges.length
   ·rw[if_pos a5]
   rw[if_neg a5,P.NodesValid_l2,if_neg (by
    rw[dec_not fun hh=>hq ⟨by omega,by omega,by omega,by omega,by omega,fun j h=>hh j h (by omega)⟩];simp)]
   rfl
 rw[key]
 simp only[Option.bind_eq_bind,Option.bind_some]
 by_cases hall:∀j (h:j<list.length),0≤j→nodeOk j list[j]
 ·rw[if_pos (dec_of hall),dec_of ⟨by omega,by omega,fun j h=>hall j h (by omega)⟩]
 ·rw[if_neg (by rw[dec_not hall];simp),dec_not fun hh=>hall fun j h _=>hh.2.2 j h]
theorem P.withinN (n low high:Int):F.f33 n low high=some (decide (low≤n∧n≤high)):=by
 unfold F.f33
 by_cases h:low≤n<;>simp[h]
theorem P.closure (e:Edge)(i:Nat)(hi:i≤67108864):F.f34 e i=some (!decide (0≤e.to∧e.to<(i:Int))):=by
 unfold F.f34
 rw[P.withinN,wrap_in (by omega) (by omega)]
 simp only[Option.bind_eq_bind,Option.bind_some]
 congr 2
 exact decide_eq_decide.2 (by omega)
theorem P.index (s:List Edge)(i:Nat)(hi:i≤67108864)(hs:s.length≤67108864):∀(m k:Nat),s.length-k=m→∃r,F.f35 s i k=some r∧
  match r with| .ret j=>0≤j∧∃l,∃h:l<s.length,k≤l∧¬(0≤s[l].to∧s[l].to<i)| .go _=>∀l (h:l<s.length),k≤l→(0≤s[l].to∧s[l].to<i):=by
 intro m
 induction m with
 |zero=>
  intro k hm
  rw[F.f35,if_neg (by omega)]
  exact⟨_,rfl,fun l h hl=>by omega⟩
 |succ m ih=>
  intro k hm
  have hk:k<s.length:=by omega
  rw[F.f35,if_pos hk,List.getElem?_eq_getElem hk]
  simp only[Option.bind_eq_bind,Option.bind_some]
  rw[P.closure _ _ hi]
  simp only[Option.bind_some]
  by_cases h:0≤s[k].to∧s[k].to<i
  ·rw[if_neg (by simp[h])]
   obtain⟨r,hr,hx⟩:=ih (k+1) (by omega)
   refine⟨r,hr,?_⟩
   cases r with
   |ret j=>obtain⟨h1,l,h2,h3,h4⟩:=hx;exact⟨h1,l,h2,by omega,h4⟩
   |go _=>
    intro l hl hkl
    by_cases e:k=l
    ·subst e;exact h
    ·exact hx l hl (by omega)
  ·rw[if_pos (by rw[decide_eq_false h];rfl)]
   exact⟨_,rfl,by omega,k,hk,Nat.le_refl _,h⟩
theorem P.contains (s:List Edge)(i:Nat)(hi:i≤67108864)(hs:s.length≤67108864):F.f37 s i=some (!dec (∀l (h:l<s.length),0≤s[l].to∧s[l].to<i)):=by
 unfold F.f37 F.f36
 obtain⟨r,hr,hx⟩:=P.index s i hi hs _ 0 rfl
 rw[hr]
 cases r with
 |ret j=>
  obtain⟨h1,l,h2,_,h4⟩:=hx
  simp only[Option.bind_eq_bind,Option.bind_some]
  rw[dec_not fun hh=>h4 (hh l h2)]
  simp[h1]
 |go _=>
  simp only[Option.bind_eq_bind,Option.bind_some]
  rw[dec_of fun l h=>hx l h (by omega)]
  simp
theorem P.impl_NodesValid (list:List Node)(hl:list.length≤1048576):F.f39 list=some (dec (1≤list.length∧list.length≤300∧∀j (h:j<list.length),nodeOk j list[j])):=by
 unfold F.f39
 have key:F.f38 list 0=some (if dec (∀j (h:j<list.length),0≤j→nodeOk j list[j])=true then .go ()else .ret false):=by
  refine allLoop (a:=list) (Q:=nodeOk) (L:=F.f38 list) (fun k hk=> ?_) (fun k hk hq=> ?_) (fun k hk hq=> ?_) _ 0 rfl
  ·rw[F.f38,if_neg (by omega)]
  ·rw[F.f38,if_pos (by omega),List.getElem?_eq_getElem hk]
   have:=hq.op0;have:=hq.op2;have:=hq.els0;have:=hq.els1;have:=hq.len
   simp only[Option.bind_eq_bind,Option.bind_some,P.withinN]
   rw[if_pos (by simp;omega),if_neg (by omega),wrap_in (by omega) (by omega),if_pos (by simp;omega),P.contains _ _ (by omega) (by omega),dec_of hq.edges]
   simp
  ·rw[F.f38,if_pos (by omega),List.getElem?_eq_getElem hk]
   simp only[Option.bind_eq_bind,Option.bind_some,P.withinN]
   by_cases a1:0≤list[k].op∧list[k].op≤2
   ·rw[if_pos (by simp;omega)]
    by_cases a5:10<list[k].edges.length
    ·rw[if_pos a5]
    rw[if_neg a5,wrap_in (by omega) (by omega)]
    by_cases a3: -1≤list[k].els∧list[k].els≤(k:Int) -1
    ·rw[if_pos (by simp;omega),P.contains _ _ (by omega) (by omega),dec_not fun hh=>hq ⟨a1.1,a1.2,a3.1,by omega,by omega,hh⟩]
     simp
    ·rw[if_neg (by simp;omega)]
   ·rw[if_neg (by simp;omega)]
 rw[key]
 simp only[Option.bind_eq_bind,Option.bind_some]
 by_cases hall:∀j (h:j<list.length),0≤j→nodeOk j list[j]
 ·rw[if_pos (dec_of hall)]
  simp only[P.withinN,Option.bind_some,←dec_eq]
  congr 1
  exact dec_congr ⟨fun h=>⟨by omega,by omega,fun j hj=>hall j hj (by omega)⟩,fun h=>by omega⟩
 ·rw[if_neg (by rw[dec_not hall];simp),dec_not fun hh=>hall fun j h _=>hh.2.2 j h]
noncomputable def decN (n:Nat):ByteArray:=⟨(Lib.decDigits n).toArray⟩
theorem digit_one (n:Nat)(h:n<10):strB [IntKind.u8.wrap (IntKind.i64.wrap (48+(n:Int)))]=⟨#[UInt8.ofNat (48+n)]⟩:=by
 have e1:IntKind.u8.wrap (IntKind.i64.wrap (48+(n:Int)))=48+(n:Int):=by rw[wrap_u8,wrap_i64_mod];omega
 have e2:(48+(n:Int)).toNat=48+n:=by omega
 refine ba_ext ?_
 simp[strB,e1,e2]
theorem decN_lt {n:Nat}(h:n<10):decN n=⟨#[UInt8.ofNat (48+n)]⟩:=by unfold decN;rw[Lib.decDigits,dif_pos h]
theorem decN_ge {n:Nat}(h:¬n<10):decN n=decN (n/10)++⟨#[UInt8.ofNat (48+n%10)]⟩:=by
 refine ba_ext ?_
 rw[ba_app]
 unfold decN
 rw[Lib.decDigits,dif_neg h]
theorem decN_size :∀(f n:Nat),n<10^ (f+1)→(decN n).size≤f+1
 |0,n,h=>by rw[decN_lt (by omega)];exact Nat.le_refl _
 |f+1,n,h=>by
  by_cases h9:n<10
  ·rw[decN_lt h9];show 1≤_;omega
  ·rw[decN_ge h9,ba_add]
   have:=decN_size f (n/10) (by rw[Nat.pow_succ]at h;omega)
   show _+1≤_
   omega
theorem P.l17Dec_run :∀(f n:Nat) (out:ByteArray),n<10^ (f+1)→(n:Int)≤9223372036854775807→out.size+f≤1000→
  ∃(m:Nat) (o2:ByteArray),F.f23 (n:Int) out=some ((m:Int),o2)∧m<10∧⟨#[UInt8.ofNat (48+m)]⟩++o2=decN n++out∧o2.size≤out.size+f
 |0,n,out,h,h63,hs=>⟨n,out,by rw[F.f23,if_neg (by omega)],by omega,by rw[decN_lt (by omega)],by omega⟩
 |f+1,n,out,h,h63,hs=>by
  by_cases h9:n<10
  ·exact⟨n,out,by rw[F.f23,if_neg (by omega)],h9,by rw[decN_lt h9],by omega⟩
  ·have e1:(n:Int).tmod 10=((n%10:Nat):Int):=by rw[Int.tmod_eq_emod_of_nonneg (by omega)];omega
   have e2:IntKind.i64.wrap ((n:Int).tdiv 10)=((n/10:Nat):Int):=by
    rw[Int.tdiv_eq_ediv_of_nonneg (by omega),wrap_in (by omega) (by omega)];omega
   have e3:(⟨#[UInt8.ofNat (48+n%10)]⟩:ByteArray).size=1:=rfl
   obtain⟨m,o2,q1,q2,q3,q4⟩:=P.l17Dec_run f (n/10) (⟨#[UInt8.ofNat (48+n%10)]⟩++out) (by rw[Nat.pow_succ]at h;omega) (by omega) (by rw[ba_add,e3];omega)
   refine⟨m,o2,?_,q2,?_,by rw[ba_add,e3]at q4;omega⟩
   ·rw[F.f23,if_pos (by omega),e1,digit_one _ (Nat.mod_lt _ (by omega)),e2,if_pos (by rw[e3];omega)]
    exact q1
   ·rw[q3,decN_ge h9,ba_assoc]
theorem itoaN_nat (n:Nat):itoaN (n:Int)=decN n:=by unfold itoaN decN Lib.itoa;rw[if_neg (by omega)];rfl
theorem itoaN_neg {n:Int}(h:n<0):itoaN n=⟨#[45]⟩++decN n.natAbs:=by
 refine ba_ext ?_
 rw[ba_app]
 unfold itoaN decN Lib.itoa
 rw[if_pos h]
 rfl
theorem P.l17Dec_nat (n:Nat)(h63:(n:Int)≤9223372036854775807):F.f24 (n:Int)=some (decN n):=by
 have e:(10:Nat)^ (18+1)=10000000000000000000:=by decide
 obtain⟨m,o2,q1,q2,q3,q4⟩:=P.l17Dec_run 18 n ByteArray.empty (by omega) h63 (by decide)
 have e0:ByteArray.empty.size=0:=rfl
 have e1:(⟨#[UInt8.ofNat (48+m)]⟩:ByteArray).size=1:=rfl
 rw[F.f24,if_neg (by omega),if_neg (by omega),q1]
 simp only[Option.bind_eq_bind,Option.bind_some]
 rw[digit_one m q2,if_pos (by rw[e1];omega),q3,ba_nil]
theorem itoaN_size {n:Int}(h:inR n):(itoaN n).size≤20:=by
 have e:(10:Nat)^ (18+1)=10000000000000000000:=by decide
 have h1:=h.1
 have h2:=h.2
 by_cases hn:n<0
 ·rw[itoaN_neg hn,ba_add]
  have:=decN_size 18 n.natAbs (by omega)
  have e1:(⟨#[45]⟩:ByteArray).size=1:=rfl
  omega
 ·obtain⟨k,rfl⟩:=Int.eq_ofNat_of_zero_le (show 0≤n by omega)
  rw[itoaN_nat]
  have:=decN_size 18 k (by omega)
  omega
theorem itoaN_min :itoaN (-9223372036854775808)=⟨#[45,57,50,50,51,51,55,50,48,51,54,56,53,52,55,55,53,56,48,56]⟩:=by
 rw[itoaN_neg (by decide)]
 refine ba_ext ?_
 rw[ba_app]
 have e:(-9223372036854775808).natAbs=9223372036854775808:=by decide
 rw[e]
 unfold decN
 simp[Lib.decDigits]
theorem P.l17Dec_any {n:Int}(h:inR n):F.f24 n=some (itoaN n):=by
 have h1:=h.1
 have h2:=h.2
 by_cases hm:n< -9223372036854775807
 ·have:n= -9223372036854775808:=by omega
  subst this
  rw[F.f24,if_pos (by decide),itoaN_min]
 by_cases hn:n<0
 ·rw[F.f24,if_neg hm,if_pos hn]
  have e:IntKind.i64.wrap (0-n)=((n.natAbs:Nat):Int):=by rw[wrap_in (by omega) (by omega)];omega
  have hs:=itoaN_size h
  rw[itoaN_neg hn,ba_add]at hs
  rw[e,P.l17Dec_nat _ (by omega)]
  simp only[Option.bind_eq_bind,Option.bind_some]
  rw[if_pos (by omega),itoaN_neg hn]
 ·obtain⟨k,rfl⟩:=Int.eq_ofNat_of_zero_le (show 0≤n by omega)
  rw[P.l17Dec_nat k (by omega),itoaN_nat]
theorem P.l8Dec_any {n:Int}(h:inR n):F.f25 n=some (itoaN n):=by
 have h1:=h.1
 unfold F.f25
 by_cases hn:n<0
 ·rw[if_pos hn]
  by_cases hm: -1000000<n
  ·have e:IntKind.i64.wrap (0-n)=((n.natAbs:Nat):Int):=by rw[wrap_in (by omega) (by omega)];omega
   have hs:=itoaN_size h
   rw[itoaN_neg hn,ba_add]at hs
   rw[if_pos hm,e,P.l17Dec_nat _ (by omega)]
   simp only[Option.bind_eq_bind,Option.bind_some]
   rw[if_pos (by omega),itoaN_neg hn]
  ·rw[if_neg hm,P.l17Dec_any h];rfl
 ·rw[if_neg hn,P.l17Dec_any h];rfl
theorem P.Itoa_any {n:Int}(h:inR n):F.f40 n=some (itoaN n):=by unfold F.f40;exact if_pos h
theorem bytesI_app (a b:ByteArray):bytesI (a++b)=bytesI a++bytesI b:=by unfold bytesI;rw[ba_app,List.map_append]
theorem bytesI_empty :bytesI ByteArray.empty=[]:=rfl
theorem bytesI_len (a:ByteArray):(bytesI a).length=a.size:=by unfold bytesI;rw[List.length_map,ba_size]
theorem okB_bytes (a:ByteArray):okB (bytesI a):=by
 intro x hx
 obtain⟨b,_,rfl⟩:=List.mem_map.1 hx
 have:=b.toNat_lt
 omega
theorem strB_bytes (a:ByteArray):strB (bytesI a)=a:=by
 have key:∀(l:List UInt8) (r:ByteArray),((l.map fun b=>(b.toNat:Int)).foldl (fun r n=>r.push (UInt8.ofNat n.toNat)) r).data.toList=r.data.toList++l:=by
  intro l
  induction l with
  |nil=>intro r;simp
  |cons b l ih=>
   intro r
   rw[List.map_cons,List.foldl_cons,ih]
   simp[ByteArray.push]
 refine ba_ext ?_
 unfold strB bytesI
 rw[key]
 rfl
noncomputable def catT :List ByteArray→ByteArray
 | []=>ByteArray.empty
 |x::r=>x++catT r
theorem catT_size :∀xs:List ByteArray,(catT xs).size=(xs.map ByteArray.size).sum
 | []=>rfl
 |x::r=>by rw[catT,ba_add,catT_size r];rfl
theorem catLoop {α β:Type}{a:List α}{g:α→ByteArray}{c:ByteArray→β}{L:β→Nat→Option β}{M:Nat}(h0:∀o k,¬k<a.length→L (c o) k=some (c o))
  (h1:∀o k (h:k<a.length),o.size+(g a[k]).size≤M→L (c o) k=L (c (o++g a[k])) (k+1)):
  ∀n k o,a.length-k=n→o.size+((a.drop k).map fun x=>(g x).size).sum≤M→L (c o) k=some (c (o++catT ((a.drop k).map g)))
 |0,k,o,hn,hs=>by
  have e:a.drop k=[]:=List.drop_eq_nil_of_le (by omega)
  rw[h0 o k (by omega),e,List.map_nil,catT,ba_nil]
 |n+1,k,o,hn,hs=>by
  have hk:k<a.length:=by omega
  have e:a.drop k=a[k]::a.drop (k+1):=List.drop_eq_getElem_cons hk
  rw[e]at hs ⊢
  simp only[List.map_cons,List.sum_cons]at hs
  rw[h1 o k hk (by omega),catLoop h0 h1 n (k+1) _ (by omega) (by rw[ba_add];omega),List.map_cons,catT,ba_assoc]
theorem catLoopI {α:Type}{a:List α}{g:α→ByteArray}{L:ByteArray→Nat→Option ByteArray}{M:Nat}(h0:∀o k,¬k<a.length→L o k=some o)
  (h1:∀o k (h:k<a.length),o.size+(g a[k]).size≤M→L o k=L (o++g a[k]) (k+1)) (o:ByteArray) (hs:o.size+(a.map fun x=>(g x).size).sum≤M):L o 0=some (o++catT (a.map g)):=by
 have:=catLoop (c:=id) (L:=L) h0 h1 a.length 0 o rfl (by rw[List.drop_zero];exact hs)
 rw[List.drop_zero]at this
 exact this
theorem sumLe {α:Type}{f g:α→Nat}{xs:List α}(h:∀x,x∈xs→f x≤g x):(xs.map f).sum≤(xs.map g).sum:=by
 induction xs with
 |nil=>simp
 |cons x r ih=>
  simp only[List.map_cons,List.sum_cons]
  have:=h x (List.mem_cons_self ..)
  have:=ih fun y hy=>h y (List.mem_cons_of_mem _ hy)
  omega
theorem sumMul {α:Type}(k m:Nat)(f:α→Nat)(xs:List α):(xs.map fun x=>k+m*f x).sum=k*xs.length+m*(xs.map f).sum:=by
 induction xs with
 |nil=>simp
 |cons x r ih=>simp only[List.map_cons,List.sum_cons,List.length_cons,ih,Nat.mul_add,Nat.mul_one];omega
theorem z1a :(⟨#[46]⟩:ByteArray).size=1:=rfl
theorem z1b :(⟨#[118]⟩:ByteArray).size=1:=rfl
theorem z1c :(⟨#[32]⟩:ByteArray).size=1:=rfl
theorem z1e :(⟨#[45]⟩:ByteArray).size=1:=rfl
theorem z1f :(⟨#[10]⟩:ByteArray).size=1:=rfl
theorem z4a :(⟨#[102,97,105,108]⟩:ByteArray).size=4:=rfl
noncomputable def dotI (x:Int):ByteArray:=⟨#[46]⟩++itoaN x
theorem dotI_size {x:Int}(h:inR x):(dotI x).size≤21:=by
 have:=itoaN_size h
 unfold dotI;rw[ba_add,z1a];omega
noncomputable def pathT (p:List Int):ByteArray:=⟨#[118]⟩++catT (p.map dotI)
theorem dots_size {p:List Int}(h:∀x,x∈p→inR x):(p.map fun x=>(dotI x).size).sum≤21*p.length:=by
 have h1:=sumLe (f:=fun x=>(dotI x).size) (g:=fun _=>21+0*0) (xs:=p) fun x hx=>by have:=dotI_size (h x hx);omega
 have h2:=sumMul 21 0 (fun _=>0) p
 omega
theorem pathT_size {p:List Int}(h:∀x,x∈p→inR x):(pathT p).size≤1+21*p.length:=by
 have:=dots_size h
 unfold pathT
 rw[ba_add,z1b,catT_size,List.map_map]
 exact Nat.add_le_add_left this 1
theorem P.spec_pathT {p:List Int}(h:∀x,x∈p→inR x)(hl:p.length≤10000000):F.f27 p=some (pathT p):=by
 have hd:=dots_size h
 unfold F.f27
 rw[catLoopI (a:=p) (g:=dotI) (M:=1000000000) (L:=F.f26 p) (fun o k hk=>by rw[F.f26,if_neg hk]) (fun o k hk hs=>by
  have hx:=itoaN_size (h _ (List.getElem_mem hk))
  unfold dotI at hs ⊢
  rw[ba_add,z1a]at hs
  rw[F.f26,if_pos hk,List.getElem?_eq_getElem hk]
  simp only[Option.bind_eq_bind,Option.bind_some,P.l17Dec_any (h _ (List.getElem_mem hk))]
  rw[if_pos (by rw[z1a];omega),if_pos (by rw[ba_add,z1a];omega),ba_assoc]) _ (by rw[z1b];omega)]
 rfl
theorem P.impl_pathT {p:List Int}(h:∀x,x∈p→inR x)(hl:p.length≤10000000):F.f42 p=some (pathT p):=by
 have hd:=dots_size h
 unfold F.f42
 rw[catLoopI (a:=p) (g:=dotI) (M:=1000000000) (L:=F.f41 p) (fun o k hk=>by rw[F.f41,if_neg hk]) (fun o k hk hs=>by
  have hx:=itoaN_size (h _ (List.getElem_mem hk))
  unfold dotI at hs ⊢
  rw[ba_add,z1a]at hs
  rw[F.f41,if_pos hk,List.getElem?_eq_getElem hk]
  simp only[Option.bind_eq_bind,Option.bind_some,P.Itoa_any (h _ (List.getElem_mem hk))]
  rw[if_pos (by rw[z1a];omega),if_pos (by rw[ba_add,z1a];omega)]) _ (by rw[z1b];omega)]
 rfl
noncomputable def linesT {α:Type}(g:Nat→α→ByteArray):Nat→List α→ByteArray
 |_,[]=>ByteArray.empty
 |k,x::r=>g k x++linesT g (k+1) r
theorem lineLoop {α β:Type}{a:List α}{g:Nat→α→ByteArray}{f:α→Nat}{c:ByteArray→β}{L:β→Nat→Option β}{M:Nat}(h0:∀o k,¬k<a.length→L (c o) k=some (c o))(hg:∀k (h:k<a.length),(g k a[k]).size≤f a[k])
  (h1:∀o k (h:k<a.length),o.size+f a[k]≤M→L (c o) k=L (c (o++g k a[k])) (k+1)):
  ∀n k o,a.length-k=n→o.size+((a.drop k).map f).sum≤M→L (c o) k=some (c (o++linesT g k (a.drop k)))∧(o++linesT g k (a.drop k)).size≤M
 |0,k,o,hn,hs=>by
  have e:a.drop k=[]:=List.drop_eq_nil_of_le (by omega)
  rw[h0 o k (by omega),e,linesT,ba_nil]
  exact⟨rfl,by rw[e]at hs;simpa using hs⟩
 |n+1,k,o,hn,hs=>by
  have hk:k<a.length:=by omega
  have e:a.drop k=a[k]::a.drop (k+1):=List.drop_eq_getElem_cons hk
  rw[e]at hs ⊢
  simp only[List.map_cons,List.sum_cons]at hs
  have hgk:=hg k hk
  rw[h1 o k hk (by omega),linesT,←ba_assoc]
  exact lineLoop h0 hg h1 n (k+1) _ (by omega) (by rw[ba_add];omega)
theorem z1h :(⟨#[58]⟩:ByteArray).size=1:=rfl
theorem z1i :(⟨#[62]⟩:ByteArray).size=1:=rfl
theorem z6a :(⟨#[32,101,108,115,101,32]⟩:ByteArray).size=6:=rfl
theorem z6b :(⟨#[32,108,101,97,102,32]⟩:ByteArray).size=6:=rfl
theorem z6c :(⟨#[32,102,97,105,108,10]⟩:ByteArray).size=6:=rfl
theorem z5d :(⟨#[108,101,97,102,32]⟩:ByteArray).size=5:=rfl
theorem z7a :(⟨#[115,119,105,116,99,104,32]⟩:ByteArray).size=7:=rfl
theorem z8a :(⟨#[32,115,119,105,116,99,104,32]⟩:ByteArray).size=8:=rfl
noncomputable def edgeT (e:Edge):ByteArray:=⟨#[32]⟩++itoaN e.ctor++⟨#[58]⟩++itoaN e.n++⟨#[45]⟩++itoaN e.m++⟨#[62]⟩++itoaN e.to
theorem edgeT_size {e:Edge}(h:e.Ok):(edgeT e).size≤84:=by
 have:=itoaN_size h.ctor;have:=itoaN_size h.n;have:=itoaN_size h.m;have:=itoaN_size h.to
 unfold edgeT
 simp only[ba_add,z1c,z1h,z1e,z1i]
 omega
noncomputable def edgesT (es:List Edge):ByteArray:=catT (es.map edgeT)
theorem edgesT_sum {es:List Edge}(h:∀e,e∈es→e.Ok):(es.map fun e=>(edgeT e).size).sum≤84*es.length:=by
 have h1:=sumLe (f:=fun e=>(edgeT e).size) (g:=fun _=>84+0*0) (xs:=es) fun e he=>by have:=edgeT_size (h e he);omega
 have h2:=sumMul 84 0 (fun _=>0) es
 omega
theorem edgesT_size {es:List Edge}(h:∀e,e∈es→e.Ok):(edgesT es).size≤84*es.length:=by
 have:=edgesT_sum h
 unfold edgesT;rw[catT_size,List.map_map];exact this
noncomputable def elseT (x:Node):ByteArray:=if 0≤x.els then⟨#[32,101,108,115,101,32]⟩++itoaN x.els else ByteArray.empty
theorem elseT_size {x:Node}(h:x.Ok):(elseT x).size≤26:=by
 have:=itoaN_size h.els
 unfold elseT
 split
 ·rw[ba_add,z6a];omega
 ·show 0≤26;omega
noncomputable def bodyT (x:Node):ByteArray:=
 if x.op=0 then⟨#[102,97,105,108]⟩else(if x.op=2 then⟨#[115,119,105,116,99,104,32]⟩++pathT x.path else⟨#[108,101,97,102,32]⟩++itoaN x.clause)++edgesT x.edges++elseT x
noncomputable def nodeT (i:Nat)(x:Node):ByteArray:=itoaN (i:Int)++⟨#[32]⟩++bodyT x++⟨#[10]⟩
theorem bodyT_size {x:Node}(h:x.Ok)(he:x.edges.length≤10):(bodyT x).size≤900+21*x.path.length:=by
 have:=itoaN_size h.clause;have:=pathT_size h.path.2;have:=edgesT_size h.edges.2;have:=elseT_size h
 unfold bodyT
 split
 ·rw[z4a];omega
 ·split
  ·simp only[ba_add,z7a];omega
  ·simp only[ba_add,z5d];omega
theorem smallR {i:Nat}(h:i≤1048576):inR (i:Int):=⟨by omega,by omega⟩
theorem nodeT_size {i:Nat}(hi:i≤1048576){x:Node}(h:x.Ok)(he:x.edges.length≤10):(nodeT i x).size≤922+21*x.path.length:=by
 have:=itoaN_size (smallR hi);have:=bodyT_size h he
 unfold nodeT
 simp only[ba_add,z1c,z1f]
 omega
theorem P.spec_edges1 {x:Node}(h:∀e,e∈x.edges→e.Ok)(hl:x.edges.length≤10)(o:ByteArray)(ho:o.size≤900000000):F.f28 x o 0=some (o++edgesT x.edges):=by
 have hd:=edgesT_sum h
 refine catLoopI (a:=x.edges) (g:=edgeT) (M:=1000000000) (L:=F.f28 x) (fun o k hk=>by rw[F.f28,if_neg hk]) (fun o k hk hs=> ?_) o (by omega)
 have hb:=h _ (List.getElem_mem hk)
 have:=itoaN_size hb.ctor;have:=itoaN_size hb.n;have:=itoaN_size hb.m;have:=itoaN_size hb.to
 unfold edgeT at hs ⊢
 rw[F.f28,if_pos hk,List.getElem?_eq_getElem hk]
 simp only[Option.bind_eq_bind,Option.bind_some,P.l8Dec_any hb.ctor,P.l8Dec_any hb.n,P.l8Dec_any hb.m,P.l17Dec_any hb.to]
 simp only[ba_add,z1c,z1h,z1e,z1i]at hs ⊢
 rw[if_pos (by omega),if_pos (by omega),if_pos (by omega),if_pos (by omega),if_pos (by omega),if_pos (by omega),if_pos (by omega),if_pos (by omega)]
 simp only[ba_assoc]
theorem P.spec_edges2 {x:Node}(h:∀e,e∈x.edges→e.Ok)(hl:x.edges.length≤10)(o:ByteArray)(ho:o.size≤900000000):F.f29 x o 0=some (o++edgesT x.edges):=by
 have hd:=edgesT_sum h
 refine catLoopI (a:=x.edges) (g:=edgeT) (M:=1000000000) (L:=F.f29 x) (fun o k hk=>by rw[F.f29,if_neg hk]) (fun o k hk hs=> ?_) o (by omega)
 have hb:=h _ (List.getElem_mem hk)
 have:=itoaN_size hb.ctor;have:=itoaN_size hb.n;have:=itoaN_size hb.m;have:=itoaN_size hb.to
 unfold edgeT at hs ⊢
 rw[F.f29,if_pos hk,List.getElem?_eq_getElem hk]
 simp only[Option.bind_eq_bind,Option.bind_some,P.l8Dec_any hb.ctor,P.l8Dec_any hb.n,P.l8Dec_any hb.m,P.l17Dec_any hb.to]
 simp only[ba_add,z1c,z1h,z1e,z1i]at hs ⊢
 rw[if_pos (by omega),if_pos (by omega),if_pos (by omega),if_pos (by omega),if_pos (by omega),if_pos (by omega),if_pos (by omega),if_pos (by omega)]
 simp only[ba_assoc]
theorem P.impl_edges2 {x:Node}{l:List Node}{q:List Int}{i:Nat}(h:∀e,e∈x.edges→e.Ok)(hl:x.edges.length≤10)(o:ByteArray)(ho:o.size≤900000000):F.f43 l q i x 0 o=some (o++edgesT x.edges):=by
 have hd:=edgesT_sum h
 refine catLoopI (a:=x.edges) (g:=edgeT) (M:=1000000000) (L:=fun o k=>F.f43 l q i x k o) (fun o k hk=>by show F.f43 l q i x k o=_;rw[F.f43,if_neg hk]) (fun o k hk hs=> ?_) o (by omega)
 have hb:=h _ (List.getElem_mem hk)
 have:=itoaN_size hb.ctor;have:=itoaN_size hb.n;have:=itoaN_size hb.m;have:=itoaN_size hb.to
 show F.f43 l q i x k o=F.f43 l q i x (k+1) _
 unfold edgeT at hs ⊢
 rw[F.f43,if_pos hk,List.getElem?_eq_getElem hk]
 simp only[Option.bind_eq_bind,Option.bind_some,P.Itoa_any hb.ctor,P.Itoa_any hb.n,P.Itoa_any hb.m,P.Itoa_any hb.to]
 simp only[ba_add,z1c,z1h,z1e,z1i]at hs ⊢
 rw[if_pos (by omega),if_pos (by omega),if_pos (by omega),if_pos (by omega),if_pos (by omega),if_pos (by omega),if_pos (by omega),if_pos (by omega)]
theorem P.impl_edges3 {x:Node}{l:List Node}{q:List Int}{i:Nat}(h:∀e,e∈x.edges→e.Ok)(hl:x.edges.length≤10)(o:ByteArray)(ho:o.size≤900000000):F.f44 l q i x 0 o=some (o++edgesT x.edges):=by
 have hd:=edgesT_sum h
 refine catLoopI (a:=x.edges) (g:=edgeT) (M:=1000000000) (L:=fun o k=>F.f44 l q i x k o) (fun o k hk=>by show F.f44 l q i x k o=_;rw[F.f44,if_neg hk]) (fun o k hk hs=> ?_) o (by omega)
 have hb:=h _ (List.getElem_mem hk)
 have:=itoaN_size hb.ctor;have:=itoaN_size hb.n;have:=itoaN_size hb.m;have:=itoaN_size hb.to
 show F.f44 l q i x k o=F.f44 l q i x (k+1) _
 unfold edgeT at hs ⊢
 rw[F.f44,if_pos hk,List.getElem?_eq_getElem hk]
 simp only[Option.bind_eq_bind,Option.bind_some,P.Itoa_any hb.ctor,P.Itoa_any hb.n,P.Itoa_any hb.m,P.Itoa_any hb.to]
 simp only[ba_add,z1c,z1h,z1e,z1i]at hs ⊢
 rw[if_pos (by omega),if_pos (by omega),if_pos (by omega),if_pos (by omega),if_pos (by omega),if_pos (by omega),if_pos (by omega),if_pos (by omega)]
theorem P.spec_bodyT {x:Node}(h:x.Ok)(hl:x.edges.length≤10)(hp:x.path.length≤1048576):F.f30 x=some (bodyT x):=by
 have a1:=itoaN_size h.clause;have a2:=pathT_size h.path.2;have a3:=edgesT_size h.edges.2;have a4:=itoaN_size h.els
 unfold F.f30 bodyT elseT
 by_cases h0:x.op=0
 ·rw[if_pos h0,if_pos h0]
 ·rw[if_neg h0,if_neg h0,P.l8Dec_any h.clause]
  simp only[Option.bind_eq_bind,Option.bind_some]
  rw[if_pos (by rw[z5d];omega)]
  by_cases h2:x.op=2
  ·rw[if_pos h2,if_pos h2,P.spec_pathT h.path.2 (by omega)]
   simp only[Option.bind_some]
   rw[if_pos (by rw[z7a];omega),P.spec_edges1 h.edges.2 hl _ (by rw[ba_add,z7a];omega)]
   simp only[Option.bind_some]
   by_cases he:0≤x.els
   ·rw[if_pos he,if_pos he,if_pos (by simp only[ba_add,z7a,z6a];omega),P.l17Dec_any h.els]
    simp only[Option.bind_some]
    rw[if_pos (by simp only[ba_add,z7a,z6a];omega)]
    simp only[ba_assoc]
   ·rw[if_neg he,if_neg he,ba_nil]
  ·rw[if_neg h2,if_neg h2,P.spec_edges2 h.edges.2 hl _ (by rw[ba_add,z5d];omega)]
   simp only[Option.bind_some]
   by_cases he:0≤x.els
   ·rw[if_pos he,if_pos he,if_pos (by simp only[ba_add,z5d,z6a];omega),P.l17Dec_any h.els]
    simp only[Option.bind_some]
    rw[if_pos (by simp only[ba_add,z5d,z6a];omega)]
    simp only[ba_assoc]
   ·rw[if_neg he,if_neg he,ba_nil]
noncomputable def nodesT (l:List Node):ByteArray:=linesT nodeT 0 l
theorem paths_sum (l:List Node):(l.map fun x=>922+21*x.path.length).sum≤922*l.length+21*wtL Node.wt l:=by
 have h1:=sumMul 922 21 (fun x:Node=>x.path.length) l
 have h2:=sumLe (f:=fun x:Node=>x.path.length) (g:=Node.wt) (xs:=l) fun x _=>by unfold Node.wt;rw[wtL_int];omega
 rw[h1,wtL_eq]
 omega
theorem P.spec_nodesT {l:List Node}(h:∀x,x∈l→x.Ok)(hw:wtL Node.wt l≤1048576)(hv:1≤l.length∧l.length≤300∧∀j (h:j<l.length),nodeOk j l[j]):F.f32 l=some (nodesT l):=by
 have hd:=paths_sum l
 have hll:=wtL_len Node.wt l
 unfold F.f32
 have key:=(lineLoop (c:=id) (a:=l) (g:=nodeT) (f:=fun x=>922+21*x.path.length) (M:=100000000) (L:=F.f31 l) (fun o k hk=>by show F.f31 l o k=_;rw[F.f31,if_neg hk];rfl)
  (fun k hk=>nodeT_size (by omega) (h _ (List.getElem_mem hk)) (hv.2.2 k hk).len) (fun o k hk hs=>by
  have hx:=h _ (List.getElem_mem hk)
  have hm:=wtL_mem Node.wt (List.getElem_mem hk)
  have e1:l[k].path.length≤l[k].wt:=by unfold Node.wt;rw[wtL_int];omega
  have a1:=itoaN_size (smallR (i:=k) (by omega));have a2:=bodyT_size hx (hv.2.2 k hk).len
  show F.f31 l o k=F.f31 l (o++nodeT k l[k]) (k+1)
  unfold nodeT
  rw[F.f31,if_pos hk,P.spec_NodesValid l,dec_of hv]
  simp only[Option.bind_eq_bind,Option.bind_some]
  rw[if_pos trivial,P.l17Dec_any (smallR (by omega)),List.getElem?_eq_getElem hk]
  simp only[Option.bind_some,P.spec_bodyT hx (hv.2.2 k hk).len (by omega)]
  rw[if_pos (by omega),if_pos (by simp only[ba_add,z1c];omega),if_pos (by simp only[ba_add,z1c];omega),if_pos (by simp only[ba_add,z1c,z1f];omega)]
  simp only[ba_assoc]) l.length 0 ByteArray.empty rfl (by rw[List.drop_zero];show 0+_≤_;omega)).1
 rw[List.drop_zero,nil_ba]at key
 have key:F.f31 l ByteArray.empty 0=some (nodesT l):=key
 rw[key]
 rfl
theorem P.impl_nodesT {l:List Node}(h:∀x,x∈l→x.Ok)(hw:wtL Node.wt l≤1048576)(hv:1≤l.length∧l.length≤300∧∀j (h:j<l.length),nodeOk j l[j]):F.f46 l=some (nodesT l):=by
 have hd:=paths_sum l
 have hll:=wtL_len Node.wt l
 unfold F.f46
 rw[P.impl_NodesValid l (by omega),dec_of hv]
 simp only[Option.bind_eq_bind,Option.bind_some]
 rw[if_pos trivial]
 have key:=lineLoop (c:=bytesI) (a:=l) (g:=nodeT) (f:=fun x=>922+21*x.path.length) (M:=100000000) (L:=F.f45 l) (fun o k hk=>by rw[F.f45,if_neg hk])
  (fun k hk=>nodeT_size (by omega) (h _ (List.getElem_mem hk)) (hv.2.2 k hk).len) (fun o k hk hs=>by
  have hx:=h _ (List.getElem_mem hk)
  have hm:=wtL_mem Node.wt (List.getElem_mem hk)
  have e1:l[k].path.length≤l[k].wt:=by unfold Node.wt;rw[wtL_int];omega
  have hok:=hv.2.2 k hk
  have b0:=hok.op0;have b2:=hok.op2;have hl:=hok.len
  have a1:=itoaN_size (smallR (i:=k) (by omega));have a2:=pathT_size hx.path.2;have a3:=edgesT_size hx.edges.2;have a4:=itoaN_size hx.els;have a5:=itoaN_size hx.clause
  unfold nodeT bodyT elseT
  rw[F.f45,if_pos hk,List.getElem?_eq_getElem hk,P.Itoa_any (smallR (by omega))]
  simp only[Option.bind_eq_bind,Option.bind_some]
  have e32:∀(a b:ByteArray),a++(⟨#[32]⟩:ByteArray)++b=a++(⟨#[32]⟩++b):=fun a b=>ba_assoc _ _ _
  by_cases h0:l[k].op=0
  ·rw[if_pos h0,if_pos h0,if_pos (by rw[z6c];omega),if_pos (by simp only[ba_add,z6c,bytesI_len];omega),←bytesI_app]
   have e:(⟨#[32,102,97,105,108,10]⟩:ByteArray)=⟨#[32]⟩++(⟨#[102,97,105,108]⟩++⟨#[10]⟩):=ba_ext (by simp only[ba_app];rfl)
   rw[e]
   simp only[ba_assoc]
  ·rw[if_neg h0,if_neg h0]
   by_cases h1:l[k].op=1
   ·have h2:¬l[k].op=2:=by omega
    have e:(⟨#[32,108,101,97,102,32]⟩:ByteArray)=⟨#[32]⟩++⟨#[108,101,97,102,32]⟩:=ba_ext (by simp only[ba_app];rfl)
    rw[if_pos h1,if_neg h2,P.Itoa_any hx.clause]
    simp only[Option.bind_some]
    rw[if_pos (by rw[z6b];omega),if_pos (by simp only[ba_add,z6b];omega),P.impl_edges2 hx.edges.2 hl _ (by simp only[ba_add,z6b];omega)]
    simp only[Option.bind_some]
    by_cases he:0≤l[k].els
    ·rw[if_pos he,if_pos he,P.Itoa_any hx.els]
     simp only[Option.bind_some]
     rw[if_pos (by rw[z6a];omega),if_pos (by simp only[ba_add,z6a,z6b];omega),if_pos (by simp only[ba_add,z6a,z6b,z1f];omega),if_pos (by simp only[ba_add,z6a,z6b,z1f,bytesI_len];omega),if_pos (by omega),←bytesI_app,e]
     simp only[ba_assoc]
    ·rw[if_neg he,if_neg he,if_pos (by simp only[ba_add,z6b,z1f];omega),if_pos (by simp only[ba_add,z6b,z1f,bytesI_len];omega),if_pos (by omega),←bytesI_app,e,ba_nil]
     simp only[ba_assoc]
   ·have h2:l[k].op=2:=by omega
    have e:(⟨#[32,115,119,105,116,99,104,32]⟩:ByteArray)=⟨#[32]⟩++⟨#[115,119,105,116,99,104,32]⟩:=ba_ext (by simp only[ba_app];rfl)
    rw[if_neg h1,if_pos h2,P.impl_pathT hx.path.2 (by omega)]
    simp only[Option.bind_some]
    rw[if_pos (by rw[z8a];omega),if_pos (by simp only[ba_add,z8a];omega),P.impl_edges3 hx.edges.2 hl _ (by simp only[ba_add,z8a];omega)]
    simp only[Option.bind_some]
    by_cases he:0≤l[k].els
    ·rw[if_pos he,if_pos he,P.Itoa_any hx.els]
     simp only[Option.bind_some]
     rw[if_pos (by rw[z6a];omega),if_pos (by simp only[ba_add,z6a,z8a];omega),if_pos (by simp only[ba_add,z6a,z8a,z1f];omega),if_pos (by simp only[ba_add,z6a,z8a,z1f,bytesI_len];omega),if_pos (by omega),←bytesI_app,e]
     simp only[ba_assoc]
    ·rw[if_neg he,if_neg he,if_pos (by simp only[ba_add,z8a,z1f];omega),if_pos (by simp only[ba_add,z8a,z1f,bytesI_len];omega),if_pos (by omega),←bytesI_app,e,ba_nil]
     simp only[ba_assoc]) l.length 0 ByteArray.empty rfl (by rw[List.drop_zero];show 0+_≤_;omega)
 rw[bytesI_empty,List.drop_zero,nil_ba]at key
 obtain⟨key,hsz⟩:=key
 rw[key]
 simp only[Option.bind_some]
 rw[if_pos ⟨okB_bytes _,by rw[bytesI_len];omega⟩,strB_bytes]
 rfl
theorem P.spec_nodesN {l:List Node}(hl:l.length≤67108864)(hv:¬(1≤l.length∧l.length≤300∧∀j (h:j<l.length),nodeOk j l[j])):F.f32 l=some ByteArray.empty:=by
 unfold F.f32
 rw[F.f31]
 by_cases h:0<l.length
 ·rw[if_pos h,P.spec_NodesValid l,dec_not hv]
  rfl
 ·rw[if_neg h];rfl
theorem P.impl_nodesN {l:List Node}(hl:l.length≤1048576)(hv:¬(1≤l.length∧l.length≤300∧∀j (h:j<l.length),nodeOk j l[j])):F.f46 l=some ByteArray.empty:=by
 unfold F.f46
 rw[P.impl_NodesValid l hl,dec_not hv]
 rfl
end Go.Vl
