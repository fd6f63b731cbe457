/- Plain laws that this one rests on (printed by gen_l.py). -/
import Derived.Test.YtnbcpgpmeeminaaDoorExactFormatStepsP
import Derived.Test.YtnbcpgpmeeminaaDoorVlQ
set_option linter.all false
set_option maxRecDepth 100000
namespace Go.Vl
open Go Go.RowKit
def texts :List ByteArray:=[⟨#[76,61,78,105,108,124,67,111,110,115,40,73,44,76,41]⟩,⟨#[66,61,84,114,117,124,70,108,115,59,84,61,76,101,97,102,124,78,111,100,101,40,84,44,66,44,84,41]⟩,⟨#[69,61,78,117,109,40,73,41,58,49,124,66,111,108,40,66,41,58,50,124,65,100,100,40,69,49,44,69,49,41,58,49,124,73,102,40,69,50,44,69,42,44,69,42,41,59,66,61,84,114,117,124,70,108,115]⟩,⟨#[79,61,78,111,110,124,83,111,109,40,73,41,59,80,61,80,97,105,114,40,79,44,79,41]⟩,⟨#[86,61,69,110,100,58,49,124,83,111,109,101,40,73,44,86,49,41,58,50,124,84,119,111,40,86,42,41]⟩,⟨#[78,61,78,101,118,101,114,40,78,41,59,66,61,84,114,117,124,70,108,115,124,77,97,121,40,78,41]⟩,⟨#[83,61,82,101,100,124,71,114,101,101,110,124,66,108,117,101,124,77,105,120,40,83,44,83,41]⟩,ByteArray.empty]
theorem ba_ext {a b:ByteArray}(h:a.data.toList=b.data.toList):a=b:=by
 obtain⟨x⟩:=a
 obtain⟨y⟩:=b
 congr 1
 exact Array.toList_inj.1 h
theorem ba_app (a b:ByteArray):(a++b).data.toList=a.data.toList++b.data.toList:=by rw[ByteArray.data_append,Array.toList_append]
theorem ba_size (a:ByteArray):a.size=a.data.toList.length:=by rw[Array.length_toList];rfl
theorem ba_add (a b:ByteArray):(a++b).size=a.size+b.size:=by rw[ba_size,ba_app,List.length_append,←ba_size,←ba_size]
theorem ba_assoc (a b c:ByteArray):a++b++c=a++(b++c):=ba_ext (by simp[ba_app])
theorem ba_nil (a:ByteArray):a++ByteArray.empty=a:=ba_ext (by simp[ba_app])
theorem nil_ba (a:ByteArray):ByteArray.empty++a=a:=ba_ext (by simp[ba_app])
theorem wrap_u8 (n:Int):IntKind.u8.wrap n=n%256:=rfl
theorem wrap_i64_mod (n:Int):IntKind.i64.wrap n%256=n%256:=by
 have:IntKind.i64.wrap n=n%18446744073709551616∨IntKind.i64.wrap n=n%18446744073709551616-18446744073709551616:=by
  unfold IntKind.wrap
  simp only
  split
  ·exact .inr rfl
  ·exact .inl rfl
 rcases this with e|e<;>omega
noncomputable def decN (n:Nat):ByteArray:=⟨(Lib.decDigits n).toArray⟩
theorem digit_one (n:Nat)(h:n<10):strB [IntKind.u8.wrap (IntKind.i64.wrap (48+(n:Int)))]=⟨#[UInt8.ofNat (48+n)]⟩:=by
 have e1:IntKind.u8.wrap (IntKind.i64.wrap (48+(n:Int)))=48+(n:Int):=by rw[wrap_u8,wrap_i64_mod];omega
 have e2:(48+(n:Int)).toNat=48+n:=by omega
 refine ba_ext ?_
 simp[strB,e1,e2]
theorem decN_lt {n:Nat}(h:n<10):decN n=⟨#[UInt8.ofNat (48+n)]⟩:=by unfold decN;rw[Lib.decDigits,dif_pos h]
theorem decN_ge {n:Nat}(h:¬n<10):decN n=decN (n/10)++⟨#[UInt8.ofNat (48+n%10)]⟩:=by
 refine ba_ext ?_
 rw[ba_app]
 unfold decN
 rw[Lib.decDigits,dif_neg h]
theorem decN_size :∀(f n:Nat),n<10^ (f+1)→(decN n).size≤f+1
 |0,n,h=>by rw[decN_lt (by omega)];exact Nat.le_refl _
 |f+1,n,h=>by
  by_cases h9:n<10
  ·rw[decN_lt h9];show 1≤_;omega
  ·rw[decN_ge h9,ba_add]
   have:=decN_size f (n/10) (by rw[Nat.pow_succ]at h;omega)
   show _+1≤_
   omega
theorem P.l17Dec_run :∀(f n:Nat) (out:ByteArray),n<10^ (f+1)→(n:Int)≤9223372036854775807→out.size+f≤1000→
  ∃(m:Nat) (o2:ByteArray),F.f15 (n:Int) out=some ((m:Int),o2)∧m<10∧⟨#[UInt8.ofNat (48+m)]⟩++o2=decN n++out∧o2.size≤out.size+f
 |0,n,out,h,h63,hs=>⟨n,out,by rw[F.f15,if_neg (by omega)],by omega,by rw[decN_lt (by omega)],by omega⟩
 |f+1,n,out,h,h63,hs=>by
  by_cases h9:n<10
  ·exact⟨n,out,by rw[F.f15,if_neg (by omega)],h9,by rw[decN_lt h9],by omega⟩
  ·have e1:(n:Int).tmod 10=((n%10:Nat):Int):=by rw[Int.tmod_eq_emod_of_nonneg (by omega)];omega
   have e2:IntKind.i64.wrap ((n:Int).tdiv 10)=((n/10:Nat):Int):=by
    rw[Int.tdiv_eq_ediv_of_nonneg (by omega),wrap_in (by omega) (by omega)];omega
   have e3:(⟨#[UInt8.ofNat (48+n%10)]⟩:ByteArray).size=1:=rfl
   obtain⟨m,o2,q1,q2,q3,q4⟩:=P.l17Dec_run f (n/10) (⟨#[UInt8.ofNat (48+n%10)]⟩++out) (by rw[Nat.pow_succ]at h;omega) (by omega) (by rw[ba_add,e3];omega)
   refine⟨m,o2,?_,q2,?_,by rw[ba_add,e3]at q4;omega⟩
   ·rw[F.f15,if_pos (by omega),e1,digit_one _ (Nat.mod_lt _ (by omega)),e2,if_pos (by rw[e3];omega)]
    exact q1
   ·rw[q3,decN_ge h9,ba_assoc]
theorem itoaN_nat (n:Nat):itoaN (n:Int)=decN n:=by unfold itoaN decN Lib.itoa;rw[if_neg (by omega)];rfl
theorem itoaN_neg {n:Int}(h:n<0):itoaN n=⟨#[45]⟩++decN n.natAbs:=by
 refine ba_ext ?_
 rw[ba_app]
 unfold itoaN decN Lib.itoa
 rw[if_pos h]
 rfl
theorem P.l17Dec_nat (n:Nat)(h63:(n:Int)≤9223372036854775807):F.f16 (n:Int)=some (decN n):=by
 have e:(10:Nat)^ (18+1)=10000000000000000000:=by decide
 obtain⟨m,o2,q1,q2,q3,q4⟩:=P.l17Dec_run 18 n ByteArray.empty (by omega) h63 (by decide)
 have e0:ByteArray.empty.size=0:=rfl
 have e1:(⟨#[UInt8.ofNat (48+m)]⟩:ByteArray).size=1:=rfl
 rw[F.f16,if_neg (by omega),if_neg (by omega),q1]
 simp only[Option.bind_eq_bind,Option.bind_some]
 rw[digit_one m q2,if_pos (by rw[e1];omega),q3,ba_nil]
theorem itoaN_size {n:Int}(h:inR n):(itoaN n).size≤20:=by
 have e:(10:Nat)^ (18+1)=10000000000000000000:=by decide
 have h1:=h.1
 have h2:=h.2
 by_cases hn:n<0
 ·rw[itoaN_neg hn,ba_add]
  have:=decN_size 18 n.natAbs (by omega)
  have e1:(⟨#[45]⟩:ByteArray).size=1:=rfl
  omega
 ·obtain⟨k,rfl⟩:=Int.eq_ofNat_of_zero_le (show 0≤n by omega)
  rw[itoaN_nat]
  have:=decN_size 18 k (by omega)
  omega
theorem itoaN_min :itoaN (-9223372036854775808)=⟨#[45,57,50,50,51,51,55,50,48,51,54,56,53,52,55,55,53,56,48,56]⟩:=by
 rw[itoaN_neg (by decide)]
 refine ba_ext ?_
 rw[ba_app]
 have e:(-9223372036854775808).natAbs=9223372036854775808:=by decide
 rw[e]
 unfold decN
 simp[Lib.decDigits]
theorem P.l17Dec_any {n:Int}(h:inR n):F.f16 n=some (itoaN n):=by
 have h1:=h.1
 have h2:=h.2
 by_cases hm:n< -9223372036854775807
 ·have:n= -9223372036854775808:=by omega
  subst this
  rw[F.f16,if_pos (by decide),itoaN_min]
 by_cases hn:n<0
 ·rw[F.f16,if_neg hm,if_pos hn]
  have e:IntKind.i64.wrap (0-n)=((n.natAbs:Nat):Int):=by rw[wrap_in (by omega) (by omega)];omega
  have hs:=itoaN_size h
  rw[itoaN_neg hn,ba_add]at hs
  rw[e,P.l17Dec_nat _ (by omega)]
  simp only[Option.bind_eq_bind,Option.bind_some]
  rw[if_pos (by omega),itoaN_neg hn]
 ·obtain⟨k,rfl⟩:=Int.eq_ofNat_of_zero_le (show 0≤n by omega)
  rw[P.l17Dec_nat k (by omega),itoaN_nat]
theorem P.l8Dec_any {n:Int}(h:inR n):F.f19 n=some (itoaN n):=by
 have h1:=h.1
 unfold F.f19
 by_cases hn:n<0
 ·rw[if_pos hn]
  by_cases hm: -1000000<n
  ·have e:IntKind.i64.wrap (0-n)=((n.natAbs:Nat):Int):=by rw[wrap_in (by omega) (by omega)];omega
   have hs:=itoaN_size h
   rw[itoaN_neg hn,ba_add]at hs
   rw[if_pos hm,e,P.l17Dec_nat _ (by omega)]
   simp only[Option.bind_eq_bind,Option.bind_some]
   rw[if_pos (by omega),itoaN_neg hn]
  ·rw[if_neg hm,P.l17Dec_any h];rfl
 ·rw[if_neg hn,P.l17Dec_any h];rfl
theorem P.Itoa_any {n:Int}(h:inR n):F.f24 n=some (itoaN n):=by unfold F.f24;exact if_pos h
theorem bytesI_app (a b:ByteArray):bytesI (a++b)=bytesI a++bytesI b:=by unfold bytesI;rw[ba_app,List.map_append]
theorem bytesI_empty :bytesI ByteArray.empty=[]:=rfl
theorem bytesI_len (a:ByteArray):(bytesI a).length=a.size:=by unfold bytesI;rw[List.length_map,ba_size]
theorem okB_bytes (a:ByteArray):okB (bytesI a):=by
 intro x hx
 obtain⟨b,_,rfl⟩:=List.mem_map.1 hx
 have:=b.toNat_lt
 omega
theorem strB_bytes (a:ByteArray):strB (bytesI a)=a:=by
 have key:∀(l:List UInt8) (r:ByteArray),((l.map fun b=>(b.toNat:Int)).foldl (fun r n=>r.push (UInt8.ofNat n.toNat)) r).data.toList=r.data.toList++l:=by
  intro l
  induction l with
  |nil=>intro r;simp
  |cons b l ih=>
   intro r
   rw[List.map_cons,List.foldl_cons,ih]
   simp[ByteArray.push]
 refine ba_ext ?_
 unfold strB bytesI
 rw[key]
 rfl
noncomputable def catT :List ByteArray→ByteArray
 | []=>ByteArray.empty
 |x::r=>x++catT r
theorem catT_size :∀xs:List ByteArray,(catT xs).size=(xs.map ByteArray.size).sum
 | []=>rfl
 |x::r=>by rw[catT,ba_add,catT_size r];rfl
theorem catLoop {α β:Type}{a:List α}{g:α→ByteArray}{c:ByteArray→β}{L:β→Nat→Option β}{M:Nat}(h0:∀o k,¬k<a.length→L (c o) k=some (c o))
  (h1:∀o k (h:k<a.length),o.size+(g a[k]).size≤M→L (c o) k=L (c (o++g a[k])) (k+1)):
  ∀n k o,a.length-k=n→o.size+((a.drop k).map fun x=>(g x).size).sum≤M→L (c o) k=some (c (o++catT ((a.drop k).map g)))
 |0,k,o,hn,hs=>by
  have e:a.drop k=[]:=List.drop_eq_nil_of_le (by omega)
  rw[h0 o k (by omega),e,List.map_nil,catT,ba_nil]
 |n+1,k,o,hn,hs=>by
  have hk:k<a.length:=by omega
  have e:a.drop k=a[k]::a.drop (k+1):=List.drop_eq_getElem_cons hk
  rw[e]at hs ⊢
  simp only[List.map_cons,List.sum_cons]at hs
  rw[h1 o k hk (by omega),catLoop h0 h1 n (k+1) _ (by omega) (by rw[ba_add];omega),List.map_cons,catT,ba_assoc]
theorem catLoopI {α:Type}{a:List α}{g:α→ByteArray}{L:ByteArray→Nat→Option ByteArray}{M:Nat}(h0:∀o k,¬k<a.length→L o k=some o)
  (h1:∀o k (h:k<a.length),o.size+(g a[k]).size≤M→L o k=L (o++g a[k]) (k+1)) (o:ByteArray) (hs:o.size+(a.map fun x=>(g x).size).sum≤M):L o 0=some (o++catT (a.map g)):=by
 have:=catLoop (c:=id) (L:=L) h0 h1 a.length 0 o rfl (by rw[List.drop_zero];exact hs)
 rw[List.drop_zero]at this
 exact this
theorem sumLe {α:Type}{f g:α→Nat}{xs:List α}(h:∀x,x∈xs→f x≤g x):(xs.map f).sum≤(xs.map g).sum:=by
 induction xs with
 |nil=>simp
 |cons x r ih=>
  simp only[List.map_cons,List.sum_cons]
  have:=h x (List.mem_cons_self ..)
  have:=ih fun y hy=>h y (List.mem_cons_of_mem _ hy)
  omega
theorem sumMul {α:Type}(k m:Nat)(f:α→Nat)(xs:List α):(xs.map fun x=>k+m*f x).sum=k*xs.length+m*(xs.map f).sum:=by
 induction xs with
 |nil=>simp
 |cons x r ih=>simp only[List.map_cons,List.sum_cons,List.length_cons,ih,Nat.mul_add,Nat.mul_one];omega
theorem z1a :(⟨#[46]⟩:ByteArray).size=1:=rfl
theorem z1b :(⟨#[118]⟩:ByteArray).size=1:=rfl
theorem z1c :(⟨#[32]⟩:ByteArray).size=1:=rfl
theorem z1d :(⟨#[61]⟩:ByteArray).size=1:=rfl
theorem z1e :(⟨#[45]⟩:ByteArray).size=1:=rfl
theorem z1f :(⟨#[10]⟩:ByteArray).size=1:=rfl
theorem z1g :(⟨#[35]⟩:ByteArray).size=1:=rfl
theorem z2a :(⟨#[32,35]⟩:ByteArray).size=2:=rfl
theorem z5a :(⟨#[116,101,115,116,32]⟩:ByteArray).size=5:=rfl
theorem z5b :(⟨#[116,97,107,101,32]⟩:ByteArray).size=5:=rfl
theorem z5c :(⟨#[102,97,105,108,10]⟩:ByteArray).size=5:=rfl
theorem z4a :(⟨#[102,97,105,108]⟩:ByteArray).size=4:=rfl
noncomputable def dotI (x:Int):ByteArray:=⟨#[46]⟩++itoaN x
theorem dotI_size {x:Int}(h:inR x):(dotI x).size≤21:=by
 have:=itoaN_size h
 unfold dotI;rw[ba_add,z1a];omega
noncomputable def pathT (p:List Int):ByteArray:=⟨#[118]⟩++catT (p.map dotI)
theorem dots_size {p:List Int}(h:∀x,x∈p→inR x):(p.map fun x=>(dotI x).size).sum≤21*p.length:=by
 have h1:=sumLe (f:=fun x=>(dotI x).size) (g:=fun _=>21+0*0) (xs:=p) fun x hx=>by have:=dotI_size (h x hx);omega
 have h2:=sumMul 21 0 (fun _=>0) p
 omega
theorem pathT_size {p:List Int}(h:∀x,x∈p→inR x):(pathT p).size≤1+21*p.length:=by
 have:=dots_size h
 unfold pathT
 rw[ba_add,z1b,catT_size,List.map_map]
 exact Nat.add_le_add_left this 1
theorem P.spec_pathT {p:List Int}(h:∀x,x∈p→inR x)(hl:p.length≤10000000):F.f18 p=some (pathT p):=by
 have hd:=dots_size h
 unfold F.f18
 rw[catLoopI (a:=p) (g:=dotI) (M:=1000000000) (L:=F.f17 p) (fun o k hk=>by rw[F.f17,if_neg hk]) (fun o k hk hs=>by
  have hx:=itoaN_size (h _ (List.getElem_mem hk))
  unfold dotI at hs ⊢
  rw[ba_add,z1a]at hs
  rw[F.f17,if_pos hk,List.getElem?_eq_getElem hk]
  simp only[Option.bind_eq_bind,Option.bind_some,P.l17Dec_any (h _ (List.getElem_mem hk))]
  rw[if_pos (by rw[z1a];omega),if_pos (by rw[ba_add,z1a];omega),ba_assoc]) _ (by rw[z1b];omega)]
 rfl
theorem P.impl_pathT {p:List Int}(h:∀x,x∈p→inR x)(hl:p.length≤10000000):F.f26 p=some (pathT p):=by
 have hd:=dots_size h
 unfold F.f26
 rw[catLoopI (a:=p) (g:=dotI) (M:=1000000000) (L:=F.f25 p) (fun o k hk=>by rw[F.f25,if_neg hk]) (fun o k hk hs=>by
  have hx:=itoaN_size (h _ (List.getElem_mem hk))
  unfold dotI at hs ⊢
  rw[ba_add,z1a]at hs
  rw[F.f25,if_pos hk,List.getElem?_eq_getElem hk]
  simp only[Option.bind_eq_bind,Option.bind_some,P.Itoa_any (h _ (List.getElem_mem hk))]
  rw[if_pos (by rw[z1a];omega),if_pos (by rw[ba_add,z1a];omega)]) _ (by rw[z1b];omega)]
 rfl
noncomputable def bindT (b:PathBind):ByteArray:=⟨#[32]⟩++itoaN b.var++⟨#[61]⟩++pathT b.path
theorem bindT_size {b:PathBind}(h:b.Ok):(bindT b).size≤23+21*b.wt:=by
 have:=itoaN_size h.var
 have:=pathT_size h.path.2
 have e:b.wt=b.path.length:=wtL_int b.path
 unfold bindT
 simp only[ba_add,z1c,z1d]
 omega
noncomputable def bindsT (bs:List PathBind):ByteArray:=catT (bs.map bindT)
theorem bindsT_sum {bs:List PathBind}(h:∀b,b∈bs→b.Ok):(bs.map fun b=>(bindT b).size).sum≤23*wtL PathBind.wt bs:=by
 have h1:=sumLe (f:=fun b=>(bindT b).size) (g:=fun b=>23+21*b.wt) (xs:=bs) fun b hb=>bindT_size (h b hb)
 have h2:=sumMul 23 21 PathBind.wt bs
 rw[wtL_eq,Nat.mul_add]
 omega
noncomputable def stepT (x:Step):ByteArray:=
 if x.op=1 then⟨#[116,101,115,116,32]⟩++pathT x.path++(if x.ctor= -1 then⟨#[32]⟩++itoaN x.n++⟨#[45]⟩++itoaN x.m else⟨#[32,35]⟩++itoaN x.ctor)++⟨#[32]⟩++itoaN x.to
 else if x.op=2 then⟨#[116,97,107,101,32]⟩++itoaN x.clause++bindsT x.binds++⟨#[32]⟩++itoaN x.to
 else⟨#[102,97,105,108]⟩
theorem stepT_size {x:Step}(h:x.Ok):(stepT x).size≤70+23*x.wt:=by
 have a1:=itoaN_size h.ctor;have a2:=itoaN_size h.n;have a3:=itoaN_size h.m;have a4:=itoaN_size h.to;have a5:=itoaN_size h.clause
 have a6:=pathT_size h.path.2
 have a7:=bindsT_sum h.binds.2
 have e1:x.wt=x.path.length+wtL PathBind.wt x.binds:=by unfold Step.wt;rw[wtL_int]
 have e2:(bindsT x.binds).size=(x.binds.map fun b=>(bindT b).size).sum:=by unfold bindsT;rw[catT_size,List.map_map];rfl
 unfold stepT
 split
 ·split
  ·simp only[ba_add,z5a,z1c,z1e];omega
  ·simp only[ba_add,z5a,z1c,z2a];omega
 ·split
  ·simp only[ba_add,z5b,z1c,e2];omega
  ·rw[z4a];omega
theorem P.spec_bindsT {x:Step}(h:∀b,b∈x.binds→b.Ok)(hw:wtL PathBind.wt x.binds≤10000000)(o:ByteArray)(ho:o.size≤1000):F.f20 x o 0=some (o++bindsT x.binds):=by
 have hd:=bindsT_sum h
 exact catLoopI (a:=x.binds) (g:=bindT) (M:=1000000000) (L:=F.f20 x) (fun o k hk=>by rw[F.f20,if_neg hk]) (fun o k hk hs=>by
  have hb:=h _ (List.getElem_mem hk)
  have hx:=itoaN_size hb.var
  have hm:=wtL_mem PathBind.wt (List.getElem_mem hk)
  have e:x.binds[k].wt=x.binds[k].path.length:=wtL_int x.binds[k].path
  unfold bindT at hs ⊢
  simp only[ba_add,z1c,z1d]at hs
  rw[F.f20,if_pos hk,List.getElem?_eq_getElem hk]
  simp only[Option.bind_eq_bind,Option.bind_some,P.l8Dec_any hb.var,P.spec_pathT hb.path.2 (by omega)]
  rw[if_pos (by rw[z1c];omega),if_pos (by rw[ba_add,z1c];omega),if_pos (by simp only[ba_add,z1c,z1d];omega),if_pos (by simp only[ba_add,z1c,z1d];omega)]
  simp only[ba_assoc]) o (by omega)
theorem P.impl_bindsT {x:Step}{l:List Step}{i:Nat}(h:∀b,b∈x.binds→b.Ok)(hw:wtL PathBind.wt x.binds≤10000000)(o:ByteArray)(ho:o.size+(x.binds.map fun b=>(bindT b).size).sum≤1000000000):F.f27 l i x (bytesI o) 0=some (bytesI (o++bindsT x.binds)):=by
 have hd:=bindsT_sum h
 have:=catLoop (c:=bytesI) (a:=x.binds) (g:=bindT) (M:=1000000000) (L:=F.f27 l i x) (fun o k hk=>by rw[F.f27,if_neg hk]) (fun o k hk hs=>by
  have hb:=h _ (List.getElem_mem hk)
  have hx:=itoaN_size hb.var
  have hm:=wtL_mem PathBind.wt (List.getElem_mem hk)
  have e:x.binds[k].wt=x.binds[k].path.length:=wtL_int x.binds[k].path
  unfold bindT at hs ⊢
  simp only[ba_add,z1c,z1d]at hs
  rw[F.f27,if_pos hk,List.getElem?_eq_getElem hk]
  simp only[Option.bind_eq_bind,Option.bind_some,P.Itoa_any hb.var,P.impl_pathT hb.path.2 (by omega)]
  rw[if_pos (by rw[z1c];omega),if_pos (by rw[ba_add,z1c,z1d];omega),if_pos (by simp only[ba_add,z1c,z1d];omega),if_pos (by simp only[ba_add,z1c,z1d,bytesI_len];omega),←bytesI_app]) x.binds.length 0 o rfl (by rw[List.drop_zero];omega)
 rw[List.drop_zero]at this
 exact this
theorem P.spec_stepT {x:Step}(h:x.Ok)(hw:x.wt≤10000000):F.f21 x=some (stepT x):=by
 have a1:=itoaN_size h.ctor;have a2:=itoaN_size h.n;have a3:=itoaN_size h.m;have a4:=itoaN_size h.to;have a5:=itoaN_size h.clause
 have a6:=pathT_size h.path.2
 have a7:=bindsT_sum h.binds.2
 have e1:x.wt=x.path.length+wtL PathBind.wt x.binds:=by unfold Step.wt;rw[wtL_int]
 have e2:(bindsT x.binds).size=(x.binds.map fun b=>(bindT b).size).sum:=by unfold bindsT;rw[catT_size,List.map_map];rfl
 unfold F.f21 stepT
 by_cases h1:x.op=1
 ·rw[if_pos h1,if_pos h1]
  by_cases hc:x.ctor= -1
  ·rw[if_pos hc,if_pos hc]
   simp only[Option.bind_eq_bind,Option.bind_some,P.l8Dec_any h.n,P.l8Dec_any h.m,P.l8Dec_any h.to,P.spec_pathT h.path.2 (by omega)]
   rw[if_pos (by simp only[ba_add,z5a];omega),if_pos (by simp only[ba_add,z5a,z1c];omega),if_pos (by simp only[ba_add,z5a,z1c];omega),if_pos (by simp only[ba_add,z5a,z1c,z1e];omega),if_pos (by simp only[ba_add,z5a,z1c,z1e];omega),
    if_pos (by simp only[ba_add,z5a,z1c,z1e];omega),if_pos (by simp only[ba_add,z5a,z1c,z1e];omega)]
   simp only[ba_assoc]
  ·rw[if_neg hc,if_neg hc]
   simp only[Option.bind_eq_bind,Option.bind_some,P.l8Dec_any h.ctor,P.l8Dec_any h.to,P.spec_pathT h.path.2 (by omega)]
   rw[if_pos (by simp only[ba_add,z5a];omega),if_pos (by simp only[ba_add,z5a,z2a];omega),if_pos (by simp only[ba_add,z5a,z2a];omega),if_pos (by simp only[ba_add,z5a,z1c,z2a];omega),if_pos (by simp only[ba_add,z5a,z1c,z2a];omega)]
   simp only[ba_assoc]
 ·rw[if_neg h1,if_neg h1]
  by_cases h2:x.op=2
  ·rw[if_pos h2,if_pos h2]
   simp only[Option.bind_eq_bind,Option.bind_some,P.l8Dec_any h.clause,P.l8Dec_any h.to]
   rw[if_pos (by simp only[z5b];omega),P.spec_bindsT h.binds.2 (by omega) _ (by simp only[ba_add,z5b];omega)]
   simp only[Option.bind_some]
   rw[if_pos (by simp only[ba_add,z5b,z1c,e2];omega),if_pos (by simp only[ba_add,z5b,z1c,e2];omega)]
  ·rw[if_neg h2,if_neg h2]
noncomputable def lineT (x:Step):ByteArray:=stepT x++⟨#[10]⟩
noncomputable def stepsT (l:List Step):ByteArray:=catT (l.map lineT)
theorem lines_sum {l:List Step}(h:∀x,x∈l→x.Ok):(l.map fun x=>(lineT x).size).sum≤71*wtL Step.wt l:=by
 have h1:=sumLe (f:=fun x=>(lineT x).size) (g:=fun x=>71+23*x.wt) (xs:=l) fun x hx=>by
  have:=stepT_size (h x hx)
  unfold lineT;rw[ba_add,z1f];omega
 have h2:=sumMul 71 23 Step.wt l
 rw[wtL_eq,Nat.mul_add]
 omega
theorem P.spec_stepsT {l:List Step}(h:∀x,x∈l→x.Ok)(hw:wtL Step.wt l≤10000000):F.f23 l=some (stepsT l):=by
 have hd:=lines_sum h
 unfold F.f23
 rw[catLoopI (a:=l) (g:=lineT) (M:=1000000000) (L:=F.f22 l) (fun o k hk=>by rw[F.f22,if_neg hk]) (fun o k hk hs=>by
  have hb:=h _ (List.getElem_mem hk)
  have hm:=wtL_mem Step.wt (List.getElem_mem hk)
  unfold lineT at hs ⊢
  simp only[ba_add,z1f]at hs
  rw[F.f22,if_pos hk,List.getElem?_eq_getElem hk]
  simp only[Option.bind_eq_bind,Option.bind_some,P.spec_stepT hb (by omega)]
  rw[if_pos (by omega),if_pos (by simp only[ba_add,z1f];omega),ba_assoc]) _ (by show 0+_≤_;omega),nil_ba]
 rfl
theorem P.impl_stepsT {l:List Step}(h:∀x,x∈l→x.Ok)(hw:wtL Step.wt l≤10000000):F.f29 l=some (stepsT l):=by
 have hd:=lines_sum h
 have hll:=wtL_len Step.wt l
 unfold F.f29
 have key:=catLoop (c:=bytesI) (a:=l) (g:=lineT) (M:=800000000) (L:=F.f28 l) (fun o k hk=>by rw[F.f28,if_neg hk]) (fun o k hk hs=>by
  have h':=h _ (List.getElem_mem hk)
  have hm:=wtL_mem Step.wt (List.getElem_mem hk)
  have hz:=stepT_size h'
  have e1:(l[k]).wt=(l[k]).path.length+wtL PathBind.wt (l[k]).binds:=by unfold Step.wt;rw[wtL_int]
  have e2:(bindsT (l[k]).binds).size=((l[k]).binds.map fun b=>(bindT b).size).sum:=by unfold bindsT;rw[catT_size,List.map_map];rfl
  have a1:=itoaN_size h'.ctor;have a2:=itoaN_size h'.n;have a3:=itoaN_size h'.m;have a4:=itoaN_size h'.to;have a5:=itoaN_size h'.clause
  have a6:=pathT_size h'.path.2
  have a7:=bindsT_sum h'.binds.2
  unfold lineT at hs ⊢
  simp only[ba_add,z1f]at hs
  rw[F.f28,if_pos hk,List.getElem?_eq_getElem hk]
  simp only[Option.bind_eq_bind,Option.bind_some]
  unfold stepT at hs ⊢
  by_cases h1:l[k].op=1
  ·rw[if_pos h1]at hs ⊢
   rw[if_pos h1]
   simp only[P.Itoa_any h'.ctor,Option.bind_some]
   rw[if_pos (by rw[z1g];omega)]
   by_cases hc:l[k].ctor= -1
   ·rw[if_pos hc]at hs ⊢
    rw[if_pos hc]
    simp only[ba_add,z5a,z1c,z1e]at hs
    simp only[Option.bind_some,P.Itoa_any h'.n,P.Itoa_any h'.m,P.Itoa_any h'.to,P.impl_pathT h'.path.2 (by omega)]
    rw[if_pos (by simp only[z1e];omega),if_pos (by simp only[ba_add,z1e];omega),if_pos (by simp only[z5a];omega),if_pos (by simp only[ba_add,z5a,z1c];omega),if_pos (by simp only[ba_add,z5a,z1c,z1e];omega),if_pos (by simp only[ba_add,z5a,z1c,z1e];omega),
     if_pos (by simp only[ba_add,z5a,z1c,z1e];omega),if_pos (by simp only[ba_add,z5a,z1c,z1e,z1f];omega),if_pos (by simp only[ba_add,z5a,z1c,z1e,z1f,bytesI_len];omega),←bytesI_app]
    simp only[ba_assoc]
   ·rw[if_neg hc]at hs ⊢
    rw[if_neg hc]
    simp only[ba_add,z5a,z1c,z2a]at hs
    simp only[Option.bind_some,P.Itoa_any h'.to,P.impl_pathT h'.path.2 (by omega)]
    rw[if_pos (by simp only[z5a];omega),if_pos (by simp only[ba_add,z5a,z1c];omega),if_pos (by simp only[ba_add,z5a,z1c,z1g];omega),if_pos (by simp only[ba_add,z5a,z1c,z1g];omega),if_pos (by simp only[ba_add,z5a,z1c,z1g];omega),
     if_pos (by simp only[ba_add,z5a,z1c,z1g,z1f];omega),if_pos (by simp only[ba_add,z5a,z1c,z1g,z1f,bytesI_len];omega),←bytesI_app]
    have e3:(⟨#[32,35]⟩:ByteArray)=⟨#[32]⟩++⟨#[35]⟩:=ba_ext (by rw[ba_app];rfl)
    rw[e3]
    simp only[ba_assoc]
  ·rw[if_neg h1]at hs ⊢
   rw[if_neg h1]
   by_cases h2:l[k].op=2
   ·rw[if_pos h2]at hs ⊢
    rw[if_pos h2]
    simp only[ba_add,z5b,z1c]at hs
    simp only[P.Itoa_any h'.clause,P.Itoa_any h'.to,Option.bind_some]
    rw[if_pos (by simp only[z5b];omega),if_pos (by simp only[ba_add,z5b,bytesI_len];omega),←bytesI_app,P.impl_bindsT h'.binds.2 (by omega) _ (by simp only[ba_add,z5b];omega)]
    simp only[Option.bind_some]
    rw[if_pos (by simp only[z1c];omega),if_pos (by simp only[ba_add,z1c,z1f];omega),if_pos (by simp only[ba_add,z5b,z1c,z1f,bytesI_len];omega),if_pos (by omega),←bytesI_app]
    simp only[ba_assoc]
   ·rw[if_neg h2]at hs ⊢
    rw[if_neg h2]
    rw[z4a]at hs
    rw[if_pos (by rw[z5c,bytesI_len];omega),←bytesI_app]
    rfl) l.length 0 ByteArray.empty rfl (by rw[List.drop_zero];show 0+_≤_;omega)
 rw[bytesI_empty]at key
 rw[key]
 simp only[Option.bind_eq_bind,Option.bind_some,List.drop_zero,nil_ba]
 rw[if_pos ⟨okB_bytes _,by
  rw[bytesI_len,catT_size,List.map_map]
  show(l.map fun x=>(lineT x).size).sum≤_
  omega⟩,strB_bytes]
 rfl
end Go.Vl
