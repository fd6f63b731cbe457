/- A part of the proof. -/
import Derived.Test.YtodkbabdaoeooaaDoorFormatStepsB1
set_option linter.all false
set_option maxRecDepth 100000
namespace Go.Vl
open Go Go.RowKit
open Go.IntKind (i64)
theorem P.Yj :∀(f n:Nat) (out:ByteArray),n<10^ (f+1)->(n:Int)<=9223372036854775807->out.size+f<=1000->
  ∃(m:Nat) (o2:ByteArray),F.f25 (n:Int) out=some ((m:Int),o2)/\m<10/\⟨#[UInt8.ofNat (48+m)]⟩++o2=ZIs n++out/\o2.size<=out.size+f
 |0,n,out,h,h63,hs=>⟨n,out,by rw[F.f25,if_neg (by omega)],by omega,by rw[ZFm (by omega)],by omega⟩
 |f+1,n,out,h,h63,hs=>by
  by_cases h9:n<10
  ·exact⟨n,out,by rw[F.f25,if_neg (by omega)],h9,by rw[ZFm h9],by omega⟩
  ·have e1:(n:Int).tmod 10=((n%10:Nat):Int):=by rw[Int.tmod_eq_emod_of_nonneg (by omega)];omega
   have e2:i64.wrap ((n:Int).tdiv 10)=((n/10:Nat):Int):=by
    rw[Int.tdiv_eq_ediv_of_nonneg (by omega),ZE (by omega) (by omega)];omega
   have e3:(⟨#[UInt8.ofNat (48+n%10)]⟩:ByteArray).size=1:=rfl
   obtain⟨m,o2,q1,q2,q3,q4⟩:=P.Yj f (n/10) (⟨#[UInt8.ofNat (48+n%10)]⟩++out) (by rw[Nat.pow_succ]at h;omega) (by omega) (by rw[ZL,e3];omega)
   refine⟨m,o2,?_,q2,?_,by rw[ZL,e3]at q4;omega⟩
   ·rw[F.f25,if_pos (by omega),e1,ZGx _ (Nat.mod_lt _ (by omega)),e2,if_pos (by rw[e3];omega)]
    exact q1
   ·rw[q3,ZLg h9,ZAP]
theorem ZD3 (n:Nat):ZA1 (n:Int)=ZIs n:=by unfold ZA1 ZIs Lib.itoa;rw[if_neg (by omega)];rfl
theorem ZAh {n:Int}(h:n<0):ZA1 n=⟨#[45]⟩++ZIs n.natAbs:=by
 refine ZCZ ?_
 rw[ZBp]
 unfold ZA1 ZIs Lib.itoa
 rw[if_pos h]
 rfl
theorem P.YT (n:Nat)(h63:(n:Int)<=9223372036854775807):F.f26 (n:Int)=some (ZIs n):=by
 have e:(10:Nat)^ (18+1)=10000000000000000000:=by decide
 obtain⟨m,o2,q1,q2,q3,q4⟩:=P.Yj 18 n ByteArray.empty (by omega) h63 (by decide)
 have e0:ByteArray.empty.size=0:=rfl
 have e1:(⟨#[UInt8.ofNat (48+m)]⟩:ByteArray).size=1:=rfl
 rw[F.f26,if_neg (by omega),if_neg (by omega),q1]
 simp only[oE,oS]
 rw[ZGx m q2,if_pos (by rw[e1];omega),q3,ZN6]
theorem ZN {n:Int}(h:inR n):(ZA1 n).size<=20:=by
 have e:(10:Nat)^ (18+1)=10000000000000000000:=by decide
 have h1:=h.1
 have h2:=h.2
 by_cases hn:n<0
 ·rw[ZAh hn,ZL]
  have:=ZED 18 n.natAbs (by omega)
  have e1:(⟨#[45]⟩:ByteArray).size=1:=rfl
  omega
 ·obtain⟨k,rfl⟩:=Int.eq_ofNat_of_zero_le (show 0<=n by omega)
  rw[ZD3]
  have:=ZED 18 k (by omega)
  omega
theorem ZLL :ZA1 (-9223372036854775808)=⟨#[45,57,50,50,51,51,55,50,48,51,54,56,53,52,55,55,53,56,48,56]⟩:=by
 rw[ZAh (by decide)]
 refine ZCZ ?_
 rw[ZBp]
 have e:(-9223372036854775808).natAbs=9223372036854775808:=by decide
 rw[e]
 unfold ZIs
 simp[Lib.decDigits]
theorem P.YU {n:Int}(h:inR n):F.f26 n=some (ZA1 n):=by
 have h1:=h.1
 have h2:=h.2
 by_cases hm:n< -9223372036854775807
 ·have:n= -9223372036854775808:=by omega
  subst this
  rw[F.f26,if_pos (by decide),ZLL]
 by_cases hn:n<0
 ·rw[F.f26,if_neg hm,if_pos hn]
  have e:i64.wrap (0-n)=((n.natAbs:Nat):Int):=by rw[ZE (by omega) (by omega)];omega
  have hs:=ZN h
  rw[ZAh hn,ZL]at hs
  rw[e,P.YT _ (by omega)]
  simp only[oE,oS]
  rw[if_pos (by omega),ZAh hn]
 ·obtain⟨k,rfl⟩:=Int.eq_ofNat_of_zero_le (show 0<=n by omega)
  rw[P.YT k (by omega),ZD3]
theorem P.YB {n:Int}(h:inR n):F.f138 n=some (ZA1 n):=by
 have h1:=h.1
 unfold F.f138
 by_cases hn:n<0
 ·rw[if_pos hn]
  by_cases hm: -1000000<n
  ·have e:i64.wrap (0-n)=((n.natAbs:Nat):Int):=by rw[ZE (by omega) (by omega)];omega
   have hs:=ZN h
   rw[ZAh hn,ZL]at hs
   rw[if_pos hm,e,P.YT _ (by omega)]
   simp only[oE,oS]
   rw[if_pos (by omega),ZAh hn]
  ·rw[if_neg hm,P.YU h];rfl
 ·rw[if_neg hn,P.YU h];rfl
theorem P.YC {n:Int}(h:inR n):F.f130 n=some (ZA1 n):=by unfold F.f130;exact if_pos h
theorem ZAa (a b:ByteArray):ZY (a++b)=ZY a++ZY b:=by unfold ZY;rw[ZBp,List.map_append]
theorem ZG3 :ZY ByteArray.empty=[]:=rfl
theorem ZAM (a:ByteArray):(ZY a).length=a.size:=by unfold ZY;rw[List.length_map,ZC0]
theorem ZK4 (a:ByteArray):okB (ZY a):=by
 intro x hx
 obtain⟨b,_,rfl⟩:=List.mem_map.1 hx
 have:=b.toNat_lt
 omega
theorem ZJF (a:ByteArray):ZDB (ZY a)=a:=by
 have key:∀(l:List UInt8) (r:ByteArray),((l.map fun b=>(b.toNat:Int)).foldl (fun r n=>r.push (UInt8.ofNat n.toNat)) r).data.toList=r.data.toList++l:=by
  intro l
  induction l with
  |nil=>intro r;simp
  |cons b l ih=>
   intro r
   rw[List.map_cons,List.foldl_cons,ih]
   simp[ByteArray.push]
 refine ZCZ ?_
 unfold ZDB ZY
 rw[key]
 rfl
noncomputable def ZKJ :List ByteArray->ByteArray
 | []=>ByteArray.empty
 |x::r=>x++ZKJ r
theorem ZAi :∀xs:List ByteArray,(ZKJ xs).size=(xs.map ByteArray.size).sum
 | []=>rfl
 |x::r=>by rw[ZKJ,ZL,ZAi r];rfl
theorem ZFt {α β:Type}{a:List α}{g:α->ByteArray}{c:ByteArray->β}{L:β->Nat->Option β}{M:Nat}(h0:∀o k,¬k<a.length->L (c o) k=some (c o))
  (h1:∀o k (h:k<a.length),o.size+(g a[k]).size<=M->L (c o) k=L (c (o++g a[k])) (k+1)):
  ∀n k o,a.length-k=n->o.size+((a.drop k).map fun x=>(g x).size).sum<=M->L (c o) k=some (c (o++ZKJ ((a.drop k).map g)))
 |0,k,o,hn,hs=>by
  have e:a.drop k=[]:=List.drop_eq_nil_of_le (by omega)
  rw[h0 o k (by omega),e,List.map_nil,ZKJ,ZN6]
 |n+1,k,o,hn,hs=>by
  have hk:k<a.length:=by omega
  have e:a.drop k=a[k]::a.drop (k+1):=List.drop_eq_getElem_cons hk
  rw[e]at hs ⊢
  simp only[List.map_cons,List.sum_cons]at hs
  rw[h1 o k hk (by omega),ZFt h0 h1 n (k+1) _ (by omega) (by rw[ZL];omega),List.map_cons,ZKJ,ZAP]
theorem ZDV {α:Type}{a:List α}{g:α->ByteArray}{L:ByteArray->Nat->Option ByteArray}{M:Nat}(h0:∀o k,¬k<a.length->L o k=some o)
  (h1:∀o k (h:k<a.length),o.size+(g a[k]).size<=M->L o k=L (o++g a[k]) (k+1)) (o:ByteArray) (hs:o.size+(a.map fun x=>(g x).size).sum<=M):L o 0=some (o++ZKJ (a.map g)):=by
 have:=ZFt (c:=id) (L:=L) h0 h1 a.length 0 o rfl (by rw[List.drop_zero];exact hs)
 rw[List.drop_zero]at this
 exact this
theorem ZOF {α:Type}{f g:α->Nat}{xs:List α}(h:∀x,x∈xs->f x<=g x):(xs.map f).sum<=(xs.map g).sum:=by
 induction xs with
 |nil=>simp
 |cons x r ih=>
  simp only[List.map_cons,List.sum_cons]
  have:=h x (List.mem_cons_self ..)
  have:=ih fun y hy=>h y (List.mem_cons_of_mem _ hy)
  omega
theorem ZKQ {α:Type}(k m:Nat)(f:α->Nat)(xs:List α):(xs.map fun x=>k+m*f x).sum=k*xs.length+m*(xs.map f).sum:=by
 induction xs with
 |nil=>simp
 |cons x r ih=>simp only[List.map_cons,List.sum_cons,List.length_cons,ih,Nat.mul_add,Nat.mul_one];omega
theorem z1a :(⟨#[46]⟩:ByteArray).size=1:=rfl
theorem z1b :(⟨#[118]⟩:ByteArray).size=1:=rfl
theorem z1c :(⟨#[32]⟩:ByteArray).size=1:=rfl
theorem z1d :(⟨#[61]⟩:ByteArray).size=1:=rfl
theorem z1e :(⟨#[45]⟩:ByteArray).size=1:=rfl
theorem z1f :(⟨#[10]⟩:ByteArray).size=1:=rfl
theorem z1g :(⟨#[35]⟩:ByteArray).size=1:=rfl
theorem z2a :(⟨#[32,35]⟩:ByteArray).size=2:=rfl
theorem z5a :(⟨#[116,101,115,116,32]⟩:ByteArray).size=5:=rfl
theorem z5b :(⟨#[116,97,107,101,32]⟩:ByteArray).size=5:=rfl
theorem z5c :(⟨#[102,97,105,108,10]⟩:ByteArray).size=5:=rfl
theorem z4a :(⟨#[102,97,105,108]⟩:ByteArray).size=4:=rfl
noncomputable def ZL7 (x:Int):ByteArray:=⟨#[46]⟩++ZA1 x
theorem ZLf {x:Int}(h:inR x):(ZL7 x).size<=21:=by
 have:=ZN h
 unfold ZL7;rw[ZL,z1a];omega
noncomputable def ZGO (p:List Int):ByteArray:=⟨#[118]⟩++ZKJ (p.map ZL7)
theorem ZEC {p:List Int}(h:∀x,x∈p->inR x):(p.map fun x=>(ZL7 x).size).sum<=21*p.length:=by
 have h1:=ZOF (f:=fun x=>(ZL7 x).size) (g:=fun _=>21+0*0) (xs:=p) fun x hx=>by have:=ZLf (h x hx);omega
 have h2:=ZKQ 21 0 (fun _=>0) p
 omega
theorem ZBc {p:List Int}(h:∀x,x∈p->inR x):(ZGO p).size<=1+21*p.length:=by
 have:=ZEC h
 unfold ZGO
 rw[ZL,z1b,ZAi,List.map_map]
 exact Nat.add_le_add_left this 1
theorem P.YQ {p:List Int}(h:∀x,x∈p->inR x)(hl:p.length<=10000000):F.f137 p=some (ZGO p):=by
 have hd:=ZEC h
 unfold F.f137
 rw[ZDV (a:=p) (g:=ZL7) (M:=1000000000) (L:=F.f136 p) (fun o k hk=>by rw[F.f136,if_neg hk]) (fun o k hk hs=>by
  have hx:=ZN (h _ (gM hk))
  unfold ZL7 at hs ⊢
  rw[ZL,z1a]at hs
  rw[F.f136,if_pos hk,gQ hk]
  simp only[oE,oS,P.YU (h _ (gM hk))]
  rw[if_pos (by rw[z1a];omega),if_pos (by rw[ZL,z1a];omega),ZAP]) _ (by rw[z1b];omega)]
 rfl
theorem P.YV {p:List Int}(h:∀x,x∈p->inR x)(hl:p.length<=10000000):F.f132 p=some (ZGO p):=by
 have hd:=ZEC h
 unfold F.f132
 rw[ZDV (a:=p) (g:=ZL7) (M:=1000000000) (L:=F.f131 p) (fun o k hk=>by rw[F.f131,if_neg hk]) (fun o k hk hs=>by
  have hx:=ZN (h _ (gM hk))
  unfold ZL7 at hs ⊢
  rw[ZL,z1a]at hs
  rw[F.f131,if_pos hk,gQ hk]
  simp only[oE,oS,P.YC (h _ (gM hk))]
  rw[if_pos (by rw[z1a];omega),if_pos (by rw[ZL,z1a];omega)]) _ (by rw[z1b];omega)]
 rfl
noncomputable def ZCX (b:PathBind):ByteArray:=⟨#[32]⟩++ZA1 b.var++⟨#[61]⟩++ZGO b.path
theorem ZJ4 {b:PathBind}(h:b.Ok):(ZCX b).size<=23+21*b.wt:=by
 have:=ZN h.var
 have:=ZBc h.path.2
 have e:b.wt=b.path.length:=ZA7 b.path
 unfold ZCX
 simp only[ZL,z1c,z1d]
 omega
noncomputable def ZBR (bs:List PathBind):ByteArray:=ZKJ (bs.map ZCX)
theorem ZA3 {bs:List PathBind}(h:∀b,b∈bs->b.Ok):(bs.map fun b=>(ZCX b).size).sum<=23*wtL PathBind.wt bs:=by
 have h1:=ZOF (f:=fun b=>(ZCX b).size) (g:=fun b=>23+21*b.wt) (xs:=bs) fun b hb=>ZJ4 (h b hb)
 have h2:=ZKQ 23 21 PathBind.wt bs
 rw[ZC8,Nat.mul_add]
 omega
noncomputable def ZHI (x:Step):ByteArray:=
 if x.op=1 then⟨#[116,101,115,116,32]⟩++ZGO x.path++(if x.ctor= -1 then⟨#[32]⟩++ZA1 x.n++⟨#[45]⟩++ZA1 x.m else⟨#[32,35]⟩++ZA1 x.ctor)++⟨#[32]⟩++ZA1 x.to
 else if x.op=2 then⟨#[116,97,107,101,32]⟩++ZA1 x.clause++ZBR x.binds++⟨#[32]⟩++ZA1 x.to
 else⟨#[102,97,105,108]⟩
theorem ZEf {x:Step}(h:x.Ok):(ZHI x).size<=70+23*x.wt:=by
 have a1:=ZN h.ctor;have a2:=ZN h.n;have a3:=ZN h.m;have a4:=ZN h.to;have a5:=ZN h.clause
 have a6:=ZBc h.path.2
 have a7:=ZA3 h.binds.2
 have e1:x.wt=x.path.length+wtL PathBind.wt x.binds:=by unfold Step.wt;rw[ZA7]
 have e2:(ZBR x.binds).size=(x.binds.map fun b=>(ZCX b).size).sum:=by unfold ZBR;rw[ZAi,List.map_map];rfl
 unfold ZHI
 split
 ·split
  ·simp only[ZL,z5a,z1c,z1e];omega
  ·simp only[ZL,z5a,z1c,z2a];omega
 ·split
  ·simp only[ZL,z5b,z1c,e2];omega
  ·rw[z4a];omega
theorem P.Yy {x:Step}(h:∀b,b∈x.binds->b.Ok)(hw:wtL PathBind.wt x.binds<=10000000)(o:ByteArray)(ho:o.size<=1000):F.f139 x o 0=some (o++ZBR x.binds):=by
 have hd:=ZA3 h
 exact ZDV (a:=x.binds) (g:=ZCX) (M:=1000000000) (L:=F.f139 x) (fun o k hk=>by rw[F.f139,if_neg hk]) (fun o k hk hs=>by
  have hb:=h _ (gM hk)
  have hx:=ZN hb.var
  have hm:=ZAA PathBind.wt (gM hk)
  have e:x.binds[k].wt=x.binds[k].path.length:=ZA7 x.binds[k].path
  unfold ZCX at hs ⊢
  simp only[ZL,z1c,z1d]at hs
  rw[F.f139,if_pos hk,gQ hk]
  simp only[oE,oS,P.YB hb.var,P.YQ hb.path.2 (by omega)]
  rw[if_pos (by rw[z1c];omega),if_pos (by rw[ZL,z1c];omega),if_pos (by simp only[ZL,z1c,z1d];omega),if_pos (by simp only[ZL,z1c,z1d];omega)]
  simp only[ZAP]) o (by omega)
theorem P.YAB {x:Step}{l:List Step}{i:Nat}(h:∀b,b∈x.binds->b.Ok)(hw:wtL PathBind.wt x.binds<=10000000)(o:ByteArray)(ho:o.size+(x.binds.map fun b=>(ZCX b).size).sum<=1000000000):F.f133 l i x (ZY o) 0=some (ZY (o++ZBR x.binds)):=by
 have hd:=ZA3 h
 have:=ZFt (c:=ZY) (a:=x.binds) (g:=ZCX) (M:=1000000000) (L:=F.f133 l i x) (fun o k hk=>by rw[F.f133,if_neg hk]) (fun o k hk hs=>by
  have hb:=h _ (gM hk)
  have hx:=ZN hb.var
  have hm:=ZAA PathBind.wt (gM hk)
  have e:x.binds[k].wt=x.binds[k].path.length:=ZA7 x.binds[k].path
  unfold ZCX at hs ⊢
  simp only[ZL,z1c,z1d]at hs
  rw[F.f133,if_pos hk,gQ hk]
  simp only[oE,oS,P.YC hb.var,P.YV hb.path.2 (by omega)]
  rw[if_pos (by rw[z1c];omega),if_pos (by rw[ZL,z1c,z1d];omega),if_pos (by simp only[ZL,z1c,z1d];omega),if_pos (by simp only[ZL,z1c,z1d,ZAM];omega),←ZAa]) x.binds.length 0 o rfl (by rw[List.drop_zero];omega)
 rw[List.drop_zero]at this
 exact this
theorem P.YAC {x:Step}(h:x.Ok)(hw:x.wt<=10000000):F.f140 x=some (ZHI x):=by
 have a1:=ZN h.ctor;have a2:=ZN h.n;have a3:=ZN h.m;have a4:=ZN h.to;have a5:=ZN h.clause
 have a6:=ZBc h.path.2
 have a7:=ZA3 h.binds.2
 have e1:x.wt=x.path.length+wtL PathBind.wt x.binds:=by unfold Step.wt;rw[ZA7]
 have e2:(ZBR x.binds).size=(x.binds.map fun b=>(ZCX b).size).sum:=by unfold ZBR;rw[ZAi,List.map_map];rfl
 unfold F.f140 ZHI
 by_cases h1:x.op=1
 ·rw[if_pos h1,if_pos h1]
  by_cases hc:x.ctor= -1
  ·rw[if_pos hc,if_pos hc]
   simp only[oE,oS,P.YB h.n,P.YB h.m,P.YB h.to,P.YQ h.path.2 (by omega)]
   rw[if_pos (by simp only[ZL,z5a];omega),if_pos (by simp only[ZL,z5a,z1c];omega),if_pos (by simp only[ZL,z5a,z1c];omega),if_pos (by simp only[ZL,z5a,z1c,z1e];omega),if_pos (by simp only[ZL,z5a,z1c,z1e];omega),
    if_pos (by simp only[ZL,z5a,z1c,z1e];omega),if_pos (by simp only[ZL,z5a,z1c,z1e];omega)]
   simp only[ZAP]
  ·rw[if_neg hc,if_neg hc]
   simp only[oE,oS,P.YB h.ctor,P.YB h.to,P.YQ h.path.2 (by omega)]
   rw[if_pos (by simp only[ZL,z5a];omega),if_pos (by simp only[ZL,z5a,z2a];omega),if_pos (by simp only[ZL,z5a,z2a];omega),if_pos (by simp only[ZL,z5a,z1c,z2a];omega),if_pos (by simp only[ZL,z5a,z1c,z2a];omega)]
   simp only[ZAP]
 ·rw[if_neg h1,if_neg h1]
  by_cases h2:x.op=2
  ·rw[if_pos h2,if_pos h2]
   simp only[oE,oS,P.YB h.clause,P.YB h.to]
   rw[if_pos (by simp only[z5b];omega),P.Yy h.binds.2 (by omega) _ (by simp only[ZL,z5b];omega)]
   simp only[oS]
   rw[if_pos (by simp only[ZL,z5b,z1c,e2];omega),if_pos (by simp only[ZL,z5b,z1c,e2];omega)]
  ·rw[if_neg h2,if_neg h2]
noncomputable def ZDM (x:Step):ByteArray:=ZHI x++⟨#[10]⟩
noncomputable def ZCE (l:List Step):ByteArray:=ZKJ (l.map ZDM)
theorem ZDz {l:List Step}(h:∀x,x∈l->x.Ok):(l.map fun x=>(ZDM x).size).sum<=71*wtL Step.wt l:=by
 have h1:=ZOF (f:=fun x=>(ZDM x).size) (g:=fun x=>71+23*x.wt) (xs:=l) fun x hx=>by
  have:=ZEf (h x hx)
  unfold ZDM;rw[ZL,z1f];omega
 have h2:=ZKQ 71 23 Step.wt l
 rw[ZC8,Nat.mul_add]
 omega
theorem P.Yv {l:List Step}(h:∀x,x∈l->x.Ok)(hw:wtL Step.wt l<=10000000):F.f142 l=some (ZCE l):=by
 have hd:=ZDz h
 unfold F.f142
 rw[ZDV (a:=l) (g:=ZDM) (M:=1000000000) (L:=F.f141 l) (fun o k hk=>by rw[F.f141,if_neg hk]) (fun o k hk hs=>by
  have hb:=h _ (gM hk)
  have hm:=ZAA Step.wt (gM hk)
  unfold ZDM at hs ⊢
  simp only[ZL,z1f]at hs
  rw[F.f141,if_pos hk,gQ hk]
  simp only[oE,oS,P.YAC hb (by omega)]
  rw[if_pos (by omega),if_pos (by simp only[ZL,z1f];omega),ZAP]) _ (by show 0+_<=_;omega),ZNx]
 rfl
theorem P.YAA {l:List Step}(h:∀x,x∈l->x.Ok)(hw:wtL Step.wt l<=10000000):F.f135 l=some (ZCE l):=by
 have hd:=ZDz h
 have hll:=ZBw Step.wt l
 unfold F.f135
 have key:=ZFt (c:=ZY) (a:=l) (g:=ZDM) (M:=800000000) (L:=F.f134 l) (fun o k hk=>by rw[F.f134,if_neg hk]) (fun o k hk hs=>by
  have h':=h _ (gM hk)
  have hm:=ZAA Step.wt (gM hk)
  have hz:=ZEf h'
  have e1:(l[k]).wt=(l[k]).path.length+wtL PathBind.wt (l[k]).binds:=by unfold Step.wt;rw[ZA7]
  have e2:(ZBR (l[k]).binds).size=((l[k]).binds.map fun b=>(ZCX b).size).sum:=by unfold ZBR;rw[ZAi,List.map_map];rfl
  have a1:=ZN h'.ctor;have a2:=ZN h'.n;have a3:=ZN h'.m;have a4:=ZN h'.to;have a5:=ZN h'.clause
  have a6:=ZBc h'.path.2
  have a7:=ZA3 h'.binds.2
  unfold ZDM at hs ⊢
  simp only[ZL,z1f]at hs
  rw[F.f134,if_pos hk,gQ hk]
  simp only[oE,oS]
  unfold ZHI at hs ⊢
  by_cases h1:l[k].op=1
  ·rw[if_pos h1]at hs ⊢
   rw[if_pos h1]
   simp only[P.YC h'.ctor,oS]
   rw[if_pos (by rw[z1g];omega)]
   by_cases hc:l[k].ctor= -1
   ·rw[if_pos hc]at hs ⊢
    rw[if_pos hc]
    simp only[ZL,z5a,z1c,z1e]at hs
    simp only[oS,P.YC h'.n,P.YC h'.m,P.YC h'.to,P.YV h'.path.2 (by omega)]
    rw[if_pos (by simp only[z1e];omega),if_pos (by simp only[ZL,z1e];omega),if_pos (by simp only[z5a];omega),if_pos (by simp only[ZL,z5a,z1c];omega),if_pos (by simp only[ZL,z5a,z1c,z1e];omega),if_pos (by simp only[ZL,z5a,z1c,z1e];omega),
     if_pos (by simp only[ZL,z5a,z1c,z1e];omega),if_pos (by simp only[ZL,z5a,z1c,z1e,z1f];omega),if_pos (by simp only[ZL,z5a,z1c,z1e,z1f,ZAM];omega),←ZAa]
    simp only[ZAP]
   ·rw[if_neg hc]at hs ⊢
    rw[if_neg hc]
    simp only[ZL,z5a,z1c,z2a]at hs
    simp only[oS,P.YC h'.to,P.YV h'.path.2 (by omega)]
    rw[if_pos (by simp only[z5a];omega),if_pos (by simp only[ZL,z5a,z1c];omega),if_pos (by simp only[ZL,z5a,z1c,z1g];omega),if_pos (by simp only[ZL,z5a,z1c,z1g];omega),if_pos (by simp only[ZL,z5a,z1c,z1g];omega),
     if_pos (by simp only[ZL,z5a,z1c,z1g,z1f];omega),if_pos (by simp only[ZL,z5a,z1c,z1g,z1f,ZAM];omega),←ZAa]
    have e3:(⟨#[32,35]⟩:ByteArray)=⟨#[32]⟩++⟨#[35]⟩:=ZCZ (by rw[ZBp];rfl)
    rw[e3]
    simp only[ZAP]
  ·rw[if_neg h1]at hs ⊢
   rw[if_neg h1]
   by_cases h2:l[k].op=2
   ·rw[if_pos h2]at hs ⊢
    rw[if_pos h2]
    simp only[ZL,z5b,z1c]at hs
    simp only[P.YC h'.clause,P.YC h'.to,oS]
    rw[if_pos (by simp only[z5b];omega),if_pos (by simp only[ZL,z5b,ZAM];omega),←ZAa,P.YAB h'.binds.2 (by omega) _ (by simp only[ZL,z5b];omega)]
    simp only[oS]
    rw[if_pos (by simp only[z1c];omega),if_pos (by simp only[ZL,z1c,z1f];omega),if_pos (by simp only[ZL,z5b,z1c,z1f,ZAM];omega),if_pos (by omega),←ZAa]
    simp only[ZAP]
   ·rw[if_neg h2]at hs ⊢
    rw[if_neg h2]
    rw[z4a]at hs
    rw[if_pos (by rw[z5c,ZAM];omega),←ZAa]
    rfl) l.length 0 ByteArray.empty rfl (by rw[List.drop_zero];show 0+_<=_;omega)
 rw[ZG3]at key
 rw[key]
 simp only[oE,oS,List.drop_zero,ZNx]
 rw[if_pos ⟨ZK4 _,by
  rw[ZAM,ZAi,List.map_map]
  show(l.map fun x=>(ZDM x).size).sum<=_
  omega⟩,ZJF]
 rfl
theorem ZFe {β:Type}(op:Int)(g:Pattern->List Int->List β)(path:List Int):∀(l:List Pattern) (i:Nat) (s:β),s∈ZAJ op path i (l.map g)->∃(j:Nat) (h:j<l.length),s∈g l[j] (if op=4 then path++[((i+j:Nat):Int)]else path)
 | [],i,s,hs=>by simp[ZAJ]at hs
 |k::r,i,s,hs=>by
  rw[List.map_cons,ZAJ,List.mem_append]at hs
  rcases hs with hs|hs
  ·exact⟨0,by simp,by simpa using hs⟩
  ·obtain⟨j,h,hj⟩:=ZFe op g path r (i+1) s hs
   exact⟨j+1,by simpa using h,by rw[show i+(j+1)=i+1+j by omega];simpa using hj⟩
def ZGP (p:List Int):Prop:=∀x,x∈p->0<=x/\x<=1048576
theorem ZEl {p:List Int}(h:ZGP p){j:Nat}(hj:j<=1048576):ZGP (p++[(j:Int)]):=by
 intro x hx
 rcases List.mem_append.1 hx with hx|hx
 ·exact h x hx
 ·rw[List.mem_singleton.1 hx];omega
theorem ZIa {p:List Int}(h:ZGP p)(hl:p.length<=1048576):okL inR p:=⟨Nat.le_trans hl (by decide),fun x hx=>by have:=h x hx;exact⟨by omega,by omega⟩⟩
theorem ZRq {n:Int}(h: -9223372036854775808<=n)(h':n<=9223372036854775807):inR n:=⟨h,h'⟩
theorem ZLR :inR 0:=⟨by decide,by decide⟩
theorem ZS5 :inR 1:=⟨by decide,by decide⟩
theorem ZS4 :inR 2:=⟨by decide,by decide⟩
theorem ZS3 :inR 3:=⟨by decide,by decide⟩
theorem ZS2 :inR (-1):=⟨by decide,by decide⟩
theorem okN {α:Type}{Q:α->Prop}:okL Q []:=⟨Nat.zero_le _,fun x hx=>by cases hx⟩
theorem ZN5 {w:List Data}:∀(d:Nat) (t:Ty) (p:Pattern),ZGB w d t p->∀path b,ZGP path->p.wt<=1048576->b∈p.bnd path->ZGP b.path
 |0,_,_,h,_,_,_,_,_=>h.elim
 |d+1,t,p,⟨h1,h5,hl,hk⟩,path,b,hp,hw,hb=>by
  rw[ZE3,List.mem_append]at hb
  rcases hb with hb|hb
  ·split at hb
   ·rw[List.mem_singleton.1 hb];exact hp
   ·cases hb
  ·obtain⟨j,hj,hb⟩:=ZFe p.op Pattern.bnd path p.kids 0 b hb
   have hm:=ZAA Pattern.wt (gM hj)
   have hlen:=ZBw Pattern.wt p.kids
   rw[p.wt_eq]at hw
   refine ZN5 d _ _ (hk j (by omega) hj) _ b ?_ (by omega) hb
   split
   ·exact ZEl hp (by omega)
   ·exact hp
theorem ZNm {w:List Data}(hwo:ZR w):∀(d:Nat) (t:Ty) (p:Pattern),Zi w t->ZGB w d t p->∀path s,ZGP path->p.wt<=1048576->s∈p.tst path->
  s.op=1/\s.binds=[]/\s.clause=0/\ZGP s.path/\s.path.length<=path.length+p.wt/\inR s.ctor/\inR s.n/\inR s.m
 |0,_,_,_,h,_,_,_,_,_=>h.elim
 |d+1,t,p,ht,⟨h1,h5,hl,hk⟩,path,s,hp,hw,hs=>by
  have hw':=hw
  rw[p.wt_eq]at hw'
  have hlen:=ZBw Pattern.wt p.kids
  rw[ZIO,List.mem_append]at hs
  rcases hs with hs|hs
  ·split at hs
   ·next h3=>
    rw[List.mem_singleton.1 hs]
    have hn:0<=p.n/\p.n<=p.m/\p.m<=9:=by unfold ZDp at h1;omega
    exact⟨rfl,rfl,rfl,hp,Nat.le_add_right _ _,ZS2,ZRq (n:=p.n) (by omega) (by omega),ZRq (n:=p.m) (by omega) (by omega)⟩
   ·split at hs
    ·next h3 h4=>
     rw[List.mem_singleton.1 hs]
     have hc:p.ctor∈ZU w t:=by
      rcases h1 with h|h|h|h|h|h
      ·omega
      ·omega
      ·omega
      ·exact h.2.2.2.2
      ·omega
      ·omega
     obtain⟨c0,c1,c2⟩:=Zf hc
     have hcs:=(Zu hwo (ZBl ht.1) c0).1
     exact⟨rfl,rfl,rfl,hp,Nat.le_add_right _ _,ZRq (n:=p.ctor) (by omega) (by omega),ZLR,ZLR⟩
    ·cases hs
  ·obtain⟨j,hj,hs⟩:=ZFe p.op Pattern.tst path p.kids 0 s hs
   have hm:=ZAA Pattern.wt (gM hj)
   have hq:ZGP (if p.op=4 then path++[((0+j:Nat):Int)]else path):=by
    split
    ·exact ZEl hp (by omega)
    ·exact hp
   have hql:(if p.op=4 then path++[((0+j:Nat):Int)]else path).length<=path.length+1:=by split<;>simp
   have hj':j<(ZH w t p).length:=by omega
   obtain⟨a1,a2,a3,a4,a5,a6⟩:=ZNm hwo d _ _ (ZA0 hwo ht h1 _ (gM hj')) (hk j hj' hj) _ s hq (by omega) hs
   exact⟨a1,a2,a3,a4,by rw[p.wt_eq];omega,a6⟩
theorem ZBY {α:Type}(f:α->Nat)(a b:List α):wtL f (a++b)=wtL f a+wtL f b:=by
 simp only[ZC8,List.length_append,List.map_append,List.sum_append_nat]
 omega
theorem ZFD {α:Type}{f:α->Nat}{k:Nat}:∀{l:List α},(∀x,x∈l->f x<=k)->wtL f l<=l.length*(1+k)
 | [],_=>by simp
 |x::r,h=>by
  have h1:=h x (List.mem_cons_self ..)
  have h2:=ZFD (l:=r) fun y hy=>h y (List.mem_cons_of_mem _ hy)
  rw[ZAW,List.length_cons,Nat.add_mul]
  omega
def ZOb (w:List Data)(q:Pattern):Prop:=q.wt<=60/\∃d t,Zi w t/\ZGB w d t q
theorem ZMG {w:List Data}{q:Pattern}(h:ZOb w q){i:Nat}(hi:i<=1000){e:Int}(he:inR e):(ZMH i q e).Ok/\(ZMH i q e).wt<=61*61:=by
 obtain⟨hw,d,t,ht,hs⟩:=h
 have hb:∀b,b∈q.bnd []->b.Ok/\b.wt<=60:=fun b hb=>by
  have h1:=ZH5 d t q hs [] b hb
  have h2:=ZN5 d t q hs [] b (fun x hx=>by cases hx) (by omega) hb
  have h3:=ZIw q [] b hb
  simp only[List.length_nil]at h3
  have e:b.wt=b.path.length:=ZA7 b.path
  exact⟨⟨⟨by omega,by omega⟩,ZIa h2 (by omega)⟩,by omega⟩
 have hl:=ZH6 q []
 have hl2:(ZBx (fun x:PathBind=>x.var) (q.bnd [])).length=(q.bnd []).length:=ZKT _
 have hm:∀b,b∈ZBx (fun x:PathBind=>x.var) (q.bnd [])->b∈q.bnd []:=fun b hb=>ZDc.1 hb
 refine⟨⟨ZS4,okN,ZLR,ZLR,ZLR,ZRq (n:=(i:Int)) (by omega) (by omega),⟨?_,fun b h=>(hb b (hm b h)).1⟩,he⟩,?_⟩
 ·show(ZBx (fun x:PathBind=>x.var) (q.bnd [])).length<=_
  rw[hl2];exact Nat.le_trans hl (Nat.le_trans (show 1+q.wt<=61 by omega) (by decide))
 ·have:=ZFD (f:=PathBind.wt) (k:=60) (l:=ZBx (fun x:PathBind=>x.var) (q.bnd [])) fun b h=>(hb b (hm b h)).2
  show wtL (fun _=>0) ([]:List Int)+wtL PathBind.wt (ZBx (fun x:PathBind=>x.var) (q.bnd []))<=_
  rw[hl2]at this
  have h9:(q.bnd []).length*(1+60)<=61*61:=Nat.mul_le_mul (by omega) (Nat.le_refl _)
  simp only[ZDW]
  omega
theorem ZGQ {w:List Data}(hwo:ZR w)(g:Nat->Int)(hg:∀m,inR (g m))(i:Nat)(hi:i<=1000):∀(qs:List Pattern) (n:Nat),(∀q,q∈qs->ZOb w q)->n+(Zg g i n qs).length<=1000000000->
  (∀s,s∈Zg g i n qs->s.Ok)/\wtL Step.wt (Zg g i n qs)<=qs.length*8000
 | [],n,_,_=>⟨fun s hs=>(by cases hs),by simp[Zg]⟩
 |q::r,n,h,hn=>by
  have hq:=h q (List.mem_cons_self ..)
  obtain⟨hw,d,t,ht,hs⟩:=hq
  have hl:=ZFH q []
  have hlen:(Zg g i n (q::r)).length=(q.tst []).length+1+(Zg g i (n+(q.tst []).length+1) r).length:=by simp[Zg];omega
  obtain⟨r1,r2⟩:=ZGQ hwo g hg i hi r (n+(q.tst []).length+1) (fun q hq=>h q (List.mem_cons_of_mem _ hq)) (by omega)
  obtain⟨k1,k2⟩:=ZMG (h q (List.mem_cons_self ..)) hi (hg (n+(q.tst []).length+1))
  have hto:inR ((n+(q.tst []).length+1:Nat):Int):=⟨by omega,by omega⟩
  have hts:∀s,s∈(q.tst []).map (toS ((n+(q.tst []).length+1:Nat):Int))->s.Ok/\s.wt<=60:=fun s hs'=>by
   obtain⟨s0,h0,rfl⟩:=List.mem_map.1 hs'
   obtain⟨a1,a2,a3,a4,a5,a6,a7,a8⟩:=ZNm hwo d t q ht hs [] s0 (fun x hx=>by cases hx) (Nat.le_trans hw (by decide)) h0
   simp only[List.length_nil]at a5
   refine⟨⟨?_,ZIa a4 (show s0.path.length<=1048576 by omega),a6,a7,a8,?_,?_,hto⟩,?_⟩
   ·show inR s0.op;rw[a1];exact ZS5
   ·show inR s0.clause;rw[a3];exact ZLR
   ·show okL PathBind.Ok s0.binds;rw[a2];exact okN
   ·show wtL (fun _=>0) s0.path+wtL PathBind.wt s0.binds<=60
    rw[a2,ZA7,ZDW];exact Nat.le_trans a5 (by omega)
  refine⟨fun s hs'=> ?_,?_⟩
  ·rw[Zg,List.mem_append,List.mem_append]at hs'
   rcases hs' with(hs'|hs')|hs'
   ·exact(hts s hs').1
   ·rw[List.mem_singleton.1 hs'];exact k1
   ·exact r1 s hs'
  ·have u:=ZFD (f:=Step.wt) (k:=60) fun s hs'=>(hts s hs').2
   rw[List.length_map]at u
   have h9:(q.tst []).length*(1+60)<=61*61:=Nat.mul_le_mul (by omega) (Nat.le_refl _)
   rw[Zg,ZBY,ZBY,ZAW,ZDW,List.length_cons,Nat.add_mul]
   omega
theorem ZIu {w:List Data}(hwo:ZR w):∀(vs:List (List Pattern)) (i:Nat) (o:List Step),(∀x,x∈vs->x.length<=40/\∀q,q∈x->ZOb w q)->i+vs.length<=1000->o.length+vs.length*40000<=500000000->(∀s,s∈o->s.Ok)->
  (∀s,s∈ZDN i o vs->s.Ok)/\wtL Step.wt (ZDN i o vs)<=wtL Step.wt o+vs.length*320000
 | [],i,o,_,_,_,ho=>⟨ho,by simp[ZDN]⟩
 |x::r,i,o,h,hi,hb,ho=>by
  obtain⟨h1,h2⟩:=h x (List.mem_cons_self ..)
  rw[List.length_cons]at hi hb
  have h900:∀q,q∈x->q.wt<=900:=fun q hq=>by have:=(h2 q hq).1;omega
  have hcl:=ZH3 (i:=i) (o:=o) h900
  have hpl:=ZCO (fun _=>0) i x o.length h900
  have hpl2:=ZCO (fun _=>((o.length+(Zg (fun _=>0) i o.length x).length:Nat):Int)) i x o.length h900
  obtain⟨p1,p2⟩:=ZGQ hwo (fun _=>((o.length+(Zg (fun _=>0) i o.length x).length:Nat):Int)) (fun m=>⟨by show _<=((_:Nat):Int);omega,by show((_:Nat):Int)<=_;omega⟩) i (by omega) x o.length h2 (by omega)
  have ho2:∀s,s∈clS i o x->s.Ok:=fun s hs=>by
   rw[clS,List.mem_append]at hs
   exact hs.elim (ho s) (p1 s)
  obtain⟨q1,q2⟩:=ZIu hwo r (i+1) (clS i o x) (fun y hy=>h y (List.mem_cons_of_mem _ hy)) (by omega) (by omega) ho2
  refine⟨q1,?_⟩
  have hw:wtL Step.wt (clS i o x)<=wtL Step.wt o+320000:=by
   rw[clS,ZBY]
   have:x.length*8000<=40*8000:=Nat.mul_le_mul_right _ h1
   omega
  rw[ZDN,List.length_cons,Nat.add_mul]
  omega
theorem ZM9 :ZJq.Ok:=⟨ZS3,okN,ZLR,ZLR,ZLR,ZLR,okN,ZLR⟩
theorem ZLh {w:List Data}{t:Ty}{l:List Clause}(hc:ZRP w t l)(hpat:∀c,c∈l->ZCN w t c.pat)(ha:∀c,c∈l->c.pat.alts<=40):
  (∀s,s∈ZDN 0 [] (l.map fun c=>c.pat.splits)++[ZJq]->s.Ok)/\wtL Step.wt (ZDN 0 [] (l.map fun c=>c.pat.splits)++[ZJq])<=10000000:=by
 have hl8:=hc.2.1
 obtain⟨h1,h2⟩:=ZIu hc.1.1 (l.map fun c=>c.pat.splits) 0 [] (fun x hx=>by
  obtain⟨c,h,rfl⟩:=List.mem_map.1 hx
  have hpo:=hpat c h
  refine⟨by rw[ZBZ];exact ha c h,fun q hq=> ?_⟩
  obtain⟨s1,_,s3⟩:=ZCF 10 t c.pat hpo.1 hpo.2.1 q hq
  have:=hpo.2.2
  exact⟨by omega,10,t,hc.1.2,s1⟩) (by rw[List.length_map];omega) (by rw[List.length_map,List.length_nil];omega) (fun s hs=>by cases hs)
 rw[List.length_map,ZDW]at h2
 refine⟨fun s hs=> ?_,?_⟩
 ·rcases List.mem_append.1 hs with hs|hs
  ·exact h1 s hs
  ·rw[List.mem_singleton.1 hs];exact ZM9
 ·have e:ZJq.wt=0:=by simp[ZJq,Step.wt]
  rw[ZBY,ZAW,ZDW,e]
  omega
theorem P.Ym (w:List Data)(hw:ZBI w)(t:Ty)(l:List Clause)(hp:∀c,c∈l->c.pat.wt<=1048576)(hpat:ZRP w t l->∀c,c∈l->ZCN w t c.pat):∃r b,F.f128 w t l=some (r,b)/\(b=false->r=[])/\
  (b=true->ZRP w t l/\(∀c,c∈l->c.pat.alts<=40)/\r=ZDN 0 [] (l.map fun c=>c.pat.splits)++[ZJq]):=by
 unfold F.f128
 rw[P.YX w hw t l hp]
 simp only[oE,oS]
 by_cases hc:ZRP w t l
 ·have hpc:=hpat hc
  have hl8:l.length<=8:=hc.2.1
  rw[ZJ hc,if_pos rfl]
  have h1:∀c,c∈l->F.f110 c.pat=some (c.pat.splits.take 401):=fun c h=>P.Yh w 10 t c.pat (hpc c h).1 (hp c h)
  rw[P.YO l h1 _ 0 rfl,List.drop_zero]
  by_cases ha:∀c,c∈l->c.pat.alts<=40
  ·rw[if_pos ha]
   simp only[oS]
   have hq:∀c,c∈l->∀q,q∈c.pat.splits->ZNr q/\∃d u,ZGB w d u q:=fun c h q hq=>by
    obtain⟨s1,s2,s3⟩:=ZCF 10 t c.pat (hpc c h).1 (hpc c h).2.1 q hq
    have:=(hpc c h).2.2
    exact⟨⟨by omega,ZF9 (hpc c h).1 (hpc c h).2.1 hq []⟩,10,t,s1⟩
   have hlen:∀c,c∈l->c.pat.splits.length<=40:=fun c h=>by rw[ZBZ];exact ha c h
   have e2:=P.Yp w l (fun c h=>⟨by rw[h1 c h,List.take_of_length_le (by have:=hlen c h;omega)],hlen c h,hq c h⟩) (by omega) _ 0 [] rfl (by simp;omega)
   have cl:=ZGy (l.map fun c=>c.pat.splits) 0 [] fun x hx=>by
    obtain⟨c,h,rfl⟩:=List.mem_map.1 hx
    exact⟨hlen c h,fun q hq'=>(hq c h q hq').1.1⟩
   rw[List.length_map,List.length_nil]at cl
   unfold F.f126
   rw[e2,List.drop_zero]
   simp only[oE,oS]
   rw[if_pos (by omega)]
   exact⟨_,_,rfl,fun h=>(by cases h),fun _=>⟨hc,ha,rfl⟩⟩
  ·rw[if_neg ha]
   simp only[oS]
   exact⟨_,_,rfl,fun _=>rfl,fun h=>by cases h⟩
 ·rw[ZF hc,if_neg (by decide)]
  exact⟨_,_,rfl,fun _=>rfl,fun h=>by cases h⟩
def ZKI (b:ByteArray):Nat:=b.data.toList.count 10
theorem ZAY (a b:ByteArray):ZKI (a++b)=ZKI a+ZKI b:=by unfold ZKI;rw[ZBp,List.count_append]
theorem ZGw :∀n:Nat,(Lib.decDigits n).count 10=0:=by
 intro n
 induction n using Nat.strongRecOn with
 |_ n ih=>
  have dg:∀k,k<10->[UInt8.ofNat (48+k)].count 10=0:=by
   intro k hk
   match k,hk with
   |0,_=>rfl
   |1,_=>rfl
   |2,_=>rfl
   |3,_=>rfl
   |4,_=>rfl
   |5,_=>rfl
   |6,_=>rfl
   |7,_=>rfl
   |8,_=>rfl
   |9,_=>rfl
  rw[Lib.decDigits]
  split
  ·next h=>exact dg n h
  ·next h=>rw[List.count_append,ih (n/10) (by omega),dg _ (Nat.mod_lt _ (by omega))]
theorem ZBP (n:Int):ZKI (ZA1 n)=0:=by
 by_cases h:n<0
 ·rw[ZAh h,ZAY]
  have e:ZKI (ZIs n.natAbs)=0:=ZGw _
  rw[e];rfl
 ·obtain⟨k,rfl⟩:=Int.eq_ofNat_of_zero_le (show 0<=n by omega)
  rw[ZD3];exact ZGw _
theorem ZDU {α:Type}{g:α->ByteArray}{k:Nat}:∀{l:List α},(∀x,x∈l->ZKI (g x)=k)->ZKI (ZKJ (l.map g))=k*l.length
 | [],_=>rfl
 |x::r,h=>by
  rw[List.map_cons,ZKJ,ZAY,h x (List.mem_cons_self ..),ZDU fun y hy=>h y (List.mem_cons_of_mem _ hy),List.length_cons,Nat.mul_add,Nat.mul_one,Nat.add_comm]
theorem ZEE (p:List Int):ZKI (ZGO p)=0:=by
 unfold ZGO
 rw[ZAY,ZDU (k:=0) fun x _=>by unfold ZL7;rw[ZAY,ZBP];rfl,Nat.zero_mul]
 rfl
theorem ZLi (x:Step):ZKI (ZDM x)=1:=by
 have hb:ZKI (ZBR x.binds)=0:=by
  unfold ZBR
  rw[ZDU (k:=0) fun b _=>by unfold ZCX;simp only[ZAY,ZBP,ZEE];rfl,Nat.zero_mul]
 unfold ZDM ZHI
 rw[ZAY]
 split
 ·split
  ·simp only[ZAY,ZBP,ZEE];rfl
  ·simp only[ZAY,ZBP,ZEE];rfl
 ·split
  ·simp only[ZAY,ZBP,hb];rfl
  ·rfl
theorem ZJ0 (l:List Step):ZKI (ZCE l)=l.length:=by unfold ZCE;rw[ZDU (k:=1) fun x _=>ZLi x,Nat.one_mul]
theorem ZFo {b : ByteArray} {L : Nat -> Nat -> Option Nat} (hb : b.size <= 9000000000000000000) (hL : ∀ n i, L n i = if i < b.size then if byteAt b i = 10 then if n + 1 <= 9223372036854775807 then if i + 1 <= 9223372036854775807 then L (n + 1) (i + 1) else none else none
   else if i+1<=9223372036854775807 then L n (i+1)else none else some n):∀(m i n:Nat),b.size-i=m->n<=i->i<=b.size->L n i=some (n+(b.data.toList.drop i).count 10)
 |0,i,n,hm,hn,hi=>by
  rw[hL,if_neg (by omega),List.drop_eq_nil_of_le (by rw[←ZC0];omega)];rfl
 |m+1,i,n,hm,hn,hi=>by
  have hk:i<b.size:=by omega
  have hk':i<b.data.toList.length:=by rw[←ZC0];exact hk
  have e:byteAt b i=b.data.toList[i].toNat:=by
   unfold byteAt
   rw[List.getD_eq_getElem?_getD,gQ hk'];rfl
  rw[hL,if_pos hk,List.drop_eq_getElem_cons hk',List.count_cons]
  have hlt:=b.data.toList[i].toNat_lt
  by_cases h:byteAt b i=10
  ·have:b.data.toList[i]=10:=by
    apply UInt8.toNat_inj.1
    show _=10
    omega
   rw[if_pos h,if_pos (by omega),if_pos (by omega),ZFo hb hL m (i+1) (n+1) (by omega) (by omega) (by omega),this]
   simp;omega
  ·have:¬b.data.toList[i]=10:=fun q=>h (by rw[e,q];rfl)
   rw[if_neg h,if_pos (by omega),ZFo hb hL m (i+1) n (by omega) (by omega) (by omega),if_neg (by simpa using this)]
   rfl
end Go.Vl
