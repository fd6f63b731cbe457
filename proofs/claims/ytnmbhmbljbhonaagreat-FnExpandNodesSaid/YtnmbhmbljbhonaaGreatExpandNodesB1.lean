/- A part of the proof. -/
import Derived.Test.YtnmbhmbljbhonaaGreatVlQ
import Derived.Test.YtnmbhmbljbhonaaGreatExpandNodesE
set_option linter.all false
set_option maxRecDepth 100000
namespace Go.Vl
open Go Go.RowKit
open Go.IntKind (i64)
theorem oS {α β:Type}{a:α}{f:α->Option β}:(some a).bind f=f a:=rfl
theorem oE {α β:Type}:(bind:Option α->(α->Option β)->Option β)=Option.bind:=rfl
theorem gQ {α:Type}{l:List α}{i:Nat}(h:i<l.length):l[i]? =some l[i]:=List.getElem?_eq_getElem h
theorem gM {α:Type}{l:List α}{n:Nat}(h:n<l.length):l[n]∈l:=List.getElem_mem h
noncomputable def ZEU {α:Type}(p:α->Prop):Nat->List α->Option Nat
 |_,[]=>none
 |k,x::r=>if dec (p x)=true then some k else ZEU p (k+1) r
theorem ZBE {α:Type}{p:α->Prop}:∀{l:List α} {k j:Nat},ZEU p k l=some j->k<=j/\∃h:j-k<l.length,p l[j-k]/\∀i (hi:i<l.length),i<j-k->¬p l[i]
 |x::r,k,j,h=>by
  simp only[ZEU]at h
  split at h
  ·next hp=>
   obtain rfl:=Option.some.inj h
   refine⟨Nat.le_refl _,by simp,?_,fun i _ hi=>by omega⟩
   simpa using ZDL.1 hp
  ·next hp=>
   obtain⟨h1,h2,h3,h4⟩:=ZBE h
   have e:j-k=(j- (k+1))+1:=by omega
   refine⟨by omega,by simp;omega,?_,fun i hi hlt=> ?_⟩
   ·simp only[e,List.getElem_cons_succ];exact h3
   ·cases i with
    |zero=>exact fun hq=>hp (ZI hq)
    |succ i=>exact h4 i (by simpa using hi) (by omega)
theorem ZBF {α:Type}{p:α->Prop}:∀{l:List α} {k:Nat},ZEU p k l=none->∀x,x∈l->¬p x
 | [],_,_=>fun x hx=>by cases hx
 |x::r,k,h=>by
  simp only[ZEU]at h
  split at h
  ·cases h
  ·next hp=>
   intro y hy
   rcases List.mem_cons.1 hy with rfl|hy
   ·exact fun hq=>hp (ZI hq)
   ·exact ZBF h y hy
theorem ZMJ {α:Type}{a:List α}{p:α->Prop}{L:Nat->Option (Lo Int Unit)}(h0:∀k,a.length<=k->L k=some (.go ()))(h1:∀k (h:k<a.length),¬p a[k]->L k=L (k+1))
  (h2:∀k (h:k<a.length),p a[k]->L k=some (.ret (k:Int))):∀(m k:Nat),a.length-k=m->L k=some (match ZEU p k (a.drop k)with|some j=>.ret (j:Int)|none=>.go ()):=by
 intro m
 induction m with
 |zero=>intro k hm;rw[h0 k (by omega),List.drop_eq_nil_of_le (by omega)];rfl
 |succ m ih=>
  intro k hm
  have hk:k<a.length:=by omega
  rw[List.drop_eq_getElem_cons hk]
  by_cases hp:p a[k]
  ·rw[h2 k hk hp];simp only[ZEU];rw[if_pos (ZI hp)]
  ·rw[h1 k hk hp,ih (k+1) (by omega)];simp only[ZEU];rw[if_neg (by rw[ZH hp];simp)]
def ZN0 (c:Nat):Prop:=65<=c/\c<=90
def ZEZ (s:ByteArray):Prop:=s.size=1/\ZN0 (byteAt s 0)/\s≠⟨#[73]⟩
def ZI2 (s:ByteArray):Prop:=1<=s.size/\s.size<=5/\ZN0 (byteAt s 0)/\∀i,1<=i->i<s.size->97<=byteAt s i/\byteAt s i<=122
def ZEd (n:Nat)(t:Ty):Prop:=(t.data= -1/\t.index=0)∨(0<=t.data/\t.data<n/\-1<=t.index/\t.index<=3)
def ZGz (n:Nat)(c:Ctor):Prop:=ZI2 c.name/\c.args.length<=3/\0<=c.index/\c.index<=3/\∀j,0<=j->(h:j<c.args.length)->ZEd n c.args[j]
theorem P.Yp (c:Nat):F.f11 c=some (dec (ZN0 c)):=by
 unfold F.f11
 by_cases h:65<=(c:Int)
 ·rw[if_pos h];congr 1;rw[←ZAT];exact ZS ⟨fun h'=>⟨by omega,by omega⟩,fun h'=>by have:=h'.2;omega⟩
 ·rw[if_neg h,ZH fun h'=>h (by have:=h'.1;omega)]
theorem P.YAN (s:ByteArray):F.f12 s=some (dec (ZEZ s)):=by
 unfold F.f12
 by_cases h:s.size=1
 ·rw[if_pos h,if_pos (by omega),P.Yp]
  simp only[oE,oS]
  by_cases hb:ZN0 (byteAt s 0)
  ·rw[if_pos (ZI hb)];congr 1;rw[←ZAT];exact ZS ⟨fun h'=>⟨h,hb,fun e=>h' (by rw[e])⟩,fun h' e=>h'.2.2 (ZAo.1 e)⟩
  ·rw[if_neg (by rw[ZH hb];simp),ZH fun h'=>hb h'.2.1]
 ·rw[if_neg h,ZH fun h'=>h h'.1]
theorem P.YAF (s:ByteArray)(hs:s.size<=1048576):F.f13 s 1=some (if dec (∀i,1<=i->i<s.size->97<=byteAt s i/\byteAt s i<=122)=true then .go ()else .ret false):=by
 refine ZG6 (L:=F.f13 s) (fun k hk=> ?_) (fun k hk hq=> ?_) (fun k hk hq=> ?_) _ 1 rfl
 ·rw[F.f13,if_neg (by omega)]
 ·rw[F.f13,if_pos hk,if_neg (by omega),if_neg (by omega),if_pos (by omega)]
 ·rw[F.f13,if_pos hk]
  by_cases h:byteAt s k<97
  ·rw[if_pos h]
  ·rw[if_neg h,if_pos (by omega)]
theorem P.Yr (s:ByteArray)(hs:s.size<=1048576):F.f14 s=some (dec (ZI2 s)):=by
 unfold F.f14
 by_cases h0:s.size=0
 ·rw[if_pos h0,ZH fun h=>by have:=h.1;omega]
 by_cases h5:5<s.size
 ·rw[if_neg h0,if_pos h5,ZH fun h=>by have:=h.2.1;omega]
 rw[if_neg h0,if_neg h5,if_pos (by omega),P.Yp]
 simp only[oE,oS]
 by_cases hb:ZN0 (byteAt s 0)
 ·rw[if_pos (ZI hb),P.YAF s hs]
  simp only[oS]
  by_cases hall:∀i,1<=i->i<s.size->97<=byteAt s i/\byteAt s i<=122
  ·rw[if_pos (ZI hall),ZI ⟨by omega,by omega,hb,hall⟩]
  ·rw[if_neg (by rw[ZH hall];simp),ZH fun h=>hall h.2.2.2]
 ·rw[if_neg (by rw[ZH hb];simp),ZH fun h=>hb h.2.2.1]
theorem P.YZ (n:Nat)(t:Ty):F.f15 n t=some (dec (ZEd n t)):=by
 unfold F.f15
 by_cases h:t.data= -1
 ·rw[if_pos h];congr 1;rw[←ZAT];exact ZS ⟨fun h'=>.inl ⟨h,h'⟩,fun h'=>h'.elim (·.2) (fun h'=>by have:=h'.1;omega)⟩
 rw[if_neg h]
 by_cases h1:0<=t.data
 ·by_cases h2:t.data<n
  ·by_cases h3: -1<=t.index
   ·rw[if_pos h1,if_pos h2,if_pos h3];congr 1;rw[←ZAT];exact ZS ⟨fun h'=>.inr ⟨h1,h2,h3,h'⟩,fun h'=>h'.elim (fun h'=>absurd h'.1 h) (fun h'=>h'.2.2.2)⟩
   ·rw[if_pos h1,if_pos h2,if_neg h3,ZH fun h'=>h'.elim (fun h'=>h h'.1) (fun h'=>h3 h'.2.2.1)]
  ·rw[if_pos h1,if_neg h2,ZH fun h'=>h'.elim (fun h'=>h h'.1) (fun h'=>h2 h'.2.1)]
 ·rw[if_neg h1,ZH fun h'=>h'.elim (fun h'=>h h'.1) (fun h'=>h1 h'.1)]
theorem P.Yj (n:Nat)(c:Ctor)(hs:c.name.size<=1048576):F.f17 n c=some (dec (ZGz n c)):=by
 unfold F.f17
 rw[P.Yr _ hs]
 simp only[oE,oS]
 by_cases h1:ZI2 c.name
 ·rw[if_pos (ZI h1)]
  by_cases h2:3<c.args.length
  ·rw[if_pos h2,ZH fun h=>by have:=h.2.1;omega]
  by_cases h3:c.index<0
  ·rw[if_neg h2,if_pos h3,ZH fun h=>by have:=h.2.2.1;omega]
  by_cases h4:3<c.index
  ·rw[if_neg h2,if_neg h3,if_pos h4,ZH fun h=>by have:=h.2.2.2.1;omega]
  rw[if_neg h2,if_neg h3,if_neg h4]
  have key:F.f16 n c 0=some (if dec (∀j,0<=j->j<c.args.length->∀h:j<c.args.length,ZEd n c.args[j])=true then .go ()else .ret false):=by
   refine ZG6 (n:=c.args.length) (Q:=fun j=>∀h:j<c.args.length,ZEd n c.args[j]) (L:=F.f16 n c) (fun k hk=> ?_) (fun k hk hq=> ?_) (fun k hk hq=> ?_) _ 0 rfl
   ·rw[F.f16,if_neg (by omega)]
   ·rw[F.f16,if_pos hk,gQ hk]
    simp only[oE,oS]
    rw[P.YZ]
    simp only[oS]
    rw[if_pos (ZI (hq hk))]
   ·rw[F.f16,if_pos hk,gQ hk]
    simp only[oE,oS]
    rw[P.YZ]
    simp only[oS]
    rw[if_neg (by rw[ZH fun h=>hq fun _=>h];simp)]
  rw[key]
  simp only[oS]
  by_cases hall:∀j,0<=j->j<c.args.length->∀h:j<c.args.length,ZEd n c.args[j]
  ·rw[if_pos (ZI hall),ZI ⟨h1,by omega,by omega,by omega,fun j h0 hj=>hall j h0 hj hj⟩]
  ·rw[if_neg (by rw[ZH hall];simp),ZH fun h=>hall fun j h0 _ hj=>h.2.2.2.2 j h0 hj]
 ·rw[if_neg (by rw[ZH h1];simp),ZH fun h=>h1 h.1]
abbrev ZLF (d:Data):List ByteArray:=d.ctors.map (·.name)
structure ctorAt (w:List Data)(i:Nat)(d:Data)(k:Nat)(c:Ctor):Prop where
 ok:ZGz w.length c
 new:c.name∉(w.take i).flatMap ZLF++(d.ctors.take k).map (·.name)
structure dataAt (w:List Data)(i:Nat)(d:Data):Prop where
 name:ZEZ d.name
 new:d.name∉(w.take i).map (·.name)
 some:1<=d.ctors.length
 few:d.ctors.length<=4
 ctors:∀k,0<=k->k<d.ctors.length->∀h:k<d.ctors.length,ctorAt w i d k d.ctors[k]
def ZU (w:List Data):Prop:=w.length<=4/\∀i,0<=i->i<w.length->∀h:i<w.length,dataAt w i w[i]
def ZBA (w:List Data):Prop:=w.length<=1048576/\∀d,d∈w->∀c,c∈d.ctors->c.name.size<=1048576
theorem P.YAL (w:List Data)(hw:ZBA w)(d k i:Nat)(hd:d<w.length)(hk:k<w[d].ctors.length)(hi:i<d)(hl:w[d].ctors.length<=4)(hli:w[i].ctors.length<=4):F.f18 w d k i 0=
  some (if dec (∀j,0<=j->j<w[i].ctors.length->∀h:j<w[i].ctors.length,w[i].ctors[j].name≠w[d].ctors[k].name)=true then .go ()else .ret true):=by
 have hi':i<w.length:=by omega
 refine ZG6 (n:=w[i].ctors.length) (r:=true) (Q:=fun j=>∀h:j<w[i].ctors.length,w[i].ctors[j].name≠w[d].ctors[k].name) (L:=F.f18 w d k i) (fun j hj=> ?_) (fun j hj hq=> ?_) (fun j hj hq=> ?_) _ 0 rfl
 ·rw[F.f18,gQ hi']
  simp only[oE,oS]
  rw[if_neg (by omega)]
 ·rw[F.f18,gQ hi']
  simp only[oE,oS]
  rw[if_pos hj,if_pos (by omega),Zx hd]
  simp only[oS]
  rw[if_pos (by omega),gQ hj,Zx hk]
  simp only[oS]
  rw[if_neg (fun h=>hq hj (ZAo.1 h)),if_pos (by omega)]
 ·rw[F.f18,gQ hi']
  simp only[oE,oS]
  rw[if_pos hj,if_pos (by omega),Zx hd]
  simp only[oS]
  rw[if_pos (by omega),gQ hj,Zx hk]
  simp only[oS]
  rw[if_pos (ZAo.2 (Classical.byContradiction fun h=>hq fun _=>h))]
theorem P.YAK (w:List Data)(hw:ZBA w)(d k:Nat)(hd:d<w.length)(hk:k<w[d].ctors.length)(hl:w[d].ctors.length<=4):F.f19 w d k d 0=
  some (if dec (∀j,0<=j->j<k->∀h:j<w[d].ctors.length,w[d].ctors[j].name≠w[d].ctors[k].name)=true then .go ()else .ret true):=by
 refine ZG6 (n:=k) (r:=true) (Q:=fun j=>∀h:j<w[d].ctors.length,w[d].ctors[j].name≠w[d].ctors[k].name) (L:=F.f19 w d k d) (fun j hj=> ?_) (fun j hj hq=> ?_) (fun j hj hq=> ?_) _ 0 rfl
 ·rw[F.f19,gQ hd]
  simp only[oE,oS]
  rcases Nat.lt_or_ge j w[d].ctors.length with h|h
  ·rw[if_pos h,if_neg (by omega),if_neg (by omega)]
  ·rw[if_neg (by omega)]
 ·have hj':j<w[d].ctors.length:=Nat.lt_trans hj hk
  rw[F.f19,gQ hd]
  simp only[oE,oS]
  rw[if_pos hj',if_neg (by omega),if_pos (by omega),Zx hd]
  simp only[oS]
  rw[if_pos (by omega),gQ hj',Zx hk]
  simp only[oS]
  rw[if_neg (fun h=>hq hj' (ZAo.1 h)),if_pos (by omega)]
 ·have hj':j<w[d].ctors.length:=Nat.lt_trans hj hk
  rw[F.f19,gQ hd]
  simp only[oE,oS]
  rw[if_pos hj',if_neg (by omega),if_pos (by omega),Zx hd]
  simp only[oS]
  rw[if_pos (by omega),gQ hj',Zx hk]
  simp only[oS]
  rw[if_pos (ZAo.2 (Classical.byContradiction fun h=>hq fun _=>h))]
structure fresh (w:List Data)(d k i:Nat)(hd:d<w.length)(hk:k<w[d].ctors.length):Prop where
 data:i<d->∀h:i<w.length,w[i].name≠w[d].name
 ctor:i<d->∀h:i<w.length,∀j,0<=j->j<w[i].ctors.length->∀h:j<w[i].ctors.length,w[i].ctors[j].name≠w[d].ctors[k].name
 own:i=d->∀j,0<=j->j<k->∀h:j<w[d].ctors.length,w[d].ctors[j].name≠w[d].ctors[k].name
theorem P.Yc (w:List Data)(hw:ZBA w)(d k:Nat)(hd:d<w.length)(hk:k<w[d].ctors.length)(hw4:w.length<=4)(hl:∀i,i<=d->∀h:i<w.length,w[i].ctors.length<=4):F.f21 w d k=some (!dec (∀i,0<=i->i<d+1->fresh w d k i hd hk)):=by
 unfold F.f21
 have key:F.f20 w d k 0=some (if dec (∀i,0<=i->i<d+1->fresh w d k i hd hk)=true then .go ()else .ret true):=by
  refine ZG6 (n:=d+1) (r:=true) (Q:=fun i=>fresh w d k i hd hk) (L:=F.f20 w d k) (fun i hi=> ?_) (fun i hi hq=> ?_) (fun i hi hq=> ?_) _ 0 rfl
  ·rw[F.f20,if_neg (by omega)]
  ·rw[F.f20,if_pos (by omega)]
   by_cases h:i<d
   ·have hi':i<w.length:=by omega
    rw[if_pos (by omega),gQ hi',Zx hd]
    simp only[oE,oS]
    rw[if_neg (fun e=>hq.data h hi' (ZAo.1 e)),P.YAL w hw d k i hd hk h (hl d (Nat.le_refl _) hd) (hl i (by omega) hi'),if_pos (ZI (hq.ctor h hi'))]
    simp only[oS]
    rw[if_pos (by omega)]
   ·obtain rfl:i=d:=by omega
    rw[if_neg (by omega),P.YAK w hw i k hd hk (hl i (Nat.le_refl _) hd),if_pos (ZI (hq.own rfl))]
    simp only[oE,oS]
    rw[if_pos (by omega)]
  ·rw[F.f20,if_pos (by omega)]
   by_cases h:i<d
   ·have hi':i<w.length:=by omega
    rw[if_pos (by omega),gQ hi',Zx hd]
    simp only[oE,oS]
    by_cases hn:w[i].name=w[d].name
    ·rw[if_pos (ZAo.2 hn)]
    ·rw[if_neg (fun e=>hn (ZAo.1 e)),P.YAL w hw d k i hd hk h (hl d (Nat.le_refl _) hd) (hl i (by omega) hi'),if_neg (by rw[ZH fun hh=>hq ⟨fun _ _=>hn,fun _ _=>hh,fun e=>by omega⟩];simp)]
     rfl
   ·obtain rfl:i=d:=by omega
    rw[if_neg (by omega),P.YAK w hw i k hd hk (hl i (Nat.le_refl _) hd),if_neg (by rw[ZH fun hh=>hq ⟨fun e=>by omega,fun e=>by omega,fun _=>hh⟩];simp)]
    rfl
 rw[key]
 simp only[oE,oS]
 by_cases hall:∀i,0<=i->i<d+1->fresh w d k i hd hk
 ·rw[if_pos (ZI hall),ZI hall];rfl
 ·rw[if_neg (by rw[ZH hall];simp),ZH hall];rfl
theorem ZDI (w:List Data)(d k:Nat)(hd:d<w.length)(hk:k<w[d].ctors.length):(∀i,0<=i->i<d+1->fresh w d k i hd hk)↔w[d].name∉(w.take d).map (·.name)/\w[d].ctors[k].name∉(w.take d).flatMap ZLF++(w[d].ctors.take k).map (·.name):=by
 constructor
 ·intro h
  refine⟨fun hm=> ?_,fun hm=> ?_⟩
  ·obtain⟨x,hx,e⟩:=List.mem_map.1 hm
   obtain⟨i,hi,rfl⟩:=List.mem_take_iff_getElem.1 hx
   exact(h i (by omega) (by omega)).data (by omega) (by omega) e
  ·rcases List.mem_append.1 hm with hm|hm
   ·obtain⟨x,hx,hc⟩:=List.mem_flatMap.1 hm
    obtain⟨i,hi,rfl⟩:=List.mem_take_iff_getElem.1 hx
    obtain⟨c,hc,e⟩:=List.mem_map.1 hc
    obtain⟨j,hj,rfl⟩:=List.getElem_of_mem hc
    exact(h i (by omega) (by omega)).ctor (by omega) (by omega) j (by omega) hj hj e
   ·obtain⟨c,hc,e⟩:=List.mem_map.1 hm
    obtain⟨j,hj,rfl⟩:=List.mem_take_iff_getElem.1 hc
    exact(h d (by omega) (by omega)).own rfl j (by omega) (by omega) (by omega) e
 ·rintro⟨h1,h2⟩ i _ hi
  refine⟨fun hid hiw e=>h1 (List.mem_map.2 ⟨w[i],List.mem_take_iff_getElem.2 ⟨i,by omega,rfl⟩,e⟩),fun hid hiw j _ hj hj' e=>h2 (List.mem_append_left _ (List.mem_flatMap.2 ⟨w[i],List.mem_take_iff_getElem.2 ⟨i,by omega,rfl⟩,List.mem_map.2 ⟨_,gM hj,e⟩⟩)),fun e j _ hj hj' e=>h2 (List.mem_append_right _ (List.mem_map.2 ⟨_,List.mem_take_iff_getElem.2 ⟨j,by omega,rfl⟩,e⟩))⟩
theorem P.Yz (w:List Data)(hw:ZBA w)(d:Nat)(hd:d<w.length)(hw4:w.length<=4)(hl:∀i,i<=d->∀h:i<w.length,w[i].ctors.length<=4):F.f22 w d 0=
  some (if dec (∀k,0<=k->k<w[d].ctors.length->∀h:k<w[d].ctors.length,w[d].name∉(w.take d).map (·.name)/\ctorAt w d w[d] k w[d].ctors[k])=true then .go ()else .ret false):=by
 have hl0:=hl d (Nat.le_refl _) hd
 refine ZG6 (n:=w[d].ctors.length) (r:=false) (Q:=fun k=>∀h:k<w[d].ctors.length,w[d].name∉(w.take d).map (·.name)/\ctorAt w d w[d] k w[d].ctors[k]) (L:=F.f22 w d) (fun k hk=> ?_) (fun k hk hq=> ?_) (fun k hk hq=> ?_) _ 0 rfl
 ·rw[F.f22,gQ hd]
  simp only[oE,oS]
  rw[if_neg (by omega)]
 ·obtain⟨h1,h2⟩:=hq hk
  rw[F.f22,gQ hd]
  simp only[oE,oS]
  rw[if_pos hk,gQ hk]
  simp only[oS]
  rw[P.Yj _ _ (hw.2 _ (gM hd) _ (gM hk))]
  simp only[oS]
  rw[if_pos (ZI h2.ok),P.Yc w hw d k hd hk hw4 hl]
  simp only[oS]
  rw[ZI ((ZDI w d k hd hk).2 ⟨h1,h2.new⟩),if_neg (by simp),if_pos (by omega)]
 ·rw[F.f22,gQ hd]
  simp only[oE,oS]
  rw[if_pos hk,gQ hk]
  simp only[oS]
  rw[P.Yj _ _ (hw.2 _ (gM hd) _ (gM hk))]
  simp only[oS]
  by_cases h1:ZGz w.length w[d].ctors[k]
  ·rw[if_pos (ZI h1),P.Yc w hw d k hd hk hw4 hl]
   simp only[oS]
   rw[ZH fun hh=>hq fun _=>⟨((ZDI w d k hd hk).1 hh).1,⟨h1,((ZDI w d k hd hk).1 hh).2⟩⟩,if_pos (by simp)]
  ·rw[if_neg (by rw[ZH h1];simp)]
theorem P.YQ (w:List Data)(hw:ZBA w):F.f24 w=some (dec (ZU w)):=by
 unfold F.f24
 by_cases h4:4<w.length
 ·rw[if_pos h4,ZH fun hh=>by have:=hh.1;omega]
 rw[if_neg h4]
 -- the loop runs only on over types that are right
 have key:∀(m d:Nat),w.length-d=m->(∀i,i<d->∀h:i<w.length,w[i].ctors.length<=4)->F.f23 w d=some (if dec (∀i,d<=i->i<w.length->∀h:i<w.length,dataAt w i w[i])=true then .go ()else .ret false):=by
  intro m
  induction m with
  |zero=>
   intro d hm hl
   rw[F.f23,if_neg (by omega),if_pos (ZI fun i h1 h2=>by omega)]
  |succ m ih=>
   intro d hm hl
   have hd:d<w.length:=by omega
   rw[F.f23,if_pos hd,gQ hd]
   simp only[oE,oS]
   rw[P.YAN]
   simp only[oS]
   have no:¬dataAt w d w[d]->¬∀i,d<=i->i<w.length->∀h:i<w.length,dataAt w i w[i]:=fun h hh=>h (hh d (Nat.le_refl _) hd hd)
   by_cases h1:ZEZ w[d].name
   ·rw[if_pos (ZI h1)]
    by_cases h2:w[d].ctors.length=0
    ·rw[if_pos h2,if_neg (by rw[ZH (no fun h=>by have:=h.some;omega)];simp)]
    by_cases h3:4<w[d].ctors.length
    ·rw[if_neg h2,if_pos h3,if_neg (by rw[ZH (no fun h=>by have:=h.few;omega)];simp)]
    have hl':∀i,i<=d->∀h:i<w.length,w[i].ctors.length<=4:=fun i hi h=>by
     by_cases e:i=d
     ·subst e;omega
     ·exact hl i (by omega) h
    rw[if_neg h2,if_neg h3,P.Yz w hw d hd (by omega) hl']
    simp only[oS]
    by_cases hq:∀k,0<=k->k<w[d].ctors.length->∀h:k<w[d].ctors.length,w[d].name∉(w.take d).map (·.name)/\ctorAt w d w[d] k w[d].ctors[k]
    ·have hda:dataAt w d w[d]:=⟨h1,(hq 0 (by omega) (by omega) (by omega)).1,by omega,by omega,fun k a b c=>(hq k a b c).2⟩
     rw[if_pos (ZI hq)]
     simp only
     rw[if_pos (by omega),ih (d+1) (by omega) fun i hi h=>hl' i (by omega) h]
     by_cases hall:∀i,d+1<=i->i<w.length->∀h:i<w.length,dataAt w i w[i]
     ·rw[if_pos (ZI hall),if_pos (ZI fun i a b c=> ?_)]
      by_cases e:i=d
      ·subst e;exact hda
      ·exact hall i (by omega) b c
     ·rw[if_neg (by rw[ZH hall];simp),if_neg (by rw[ZH fun hh=>hall fun i a b c=>hh i (by omega) b c];simp)]
    ·rw[if_neg (by rw[ZH hq];simp)]
     simp only
     rw[if_neg (by rw[ZH (no fun h=>hq fun k a b c=>⟨h.new,h.ctors k a b c⟩)];simp)]
   ·rw[if_neg (by rw[ZH h1];simp),if_neg (by rw[ZH (no fun h=>h1 h.name)];simp)]
 rw[key _ 0 rfl fun i hi=>by omega]
 simp only[oE,oS]
 by_cases hall:∀i,0<=i->i<w.length->∀h:i<w.length,dataAt w i w[i]
 ·rw[if_pos (ZI hall),ZI ⟨by omega,hall⟩]
 ·rw[if_neg (by rw[ZH hall];simp),ZH fun hh=>hall hh.2]
def ZZ (w:List Data)(t:Ty):Prop:=ZEd w.length t/\0<=t.index
theorem P.YAk (w:List Data)(t:Ty):F.f100 w t=some (dec (ZZ w t)):=by
 unfold F.f100
 rw[P.YZ]
 simp only[oE,oS]
 by_cases h:ZEd w.length t
 ·rw[if_pos (ZI h),←ZAT];congr 1;exact ZS ⟨fun h'=>⟨h,h'⟩,fun h'=>h'.2⟩
 ·rw[if_neg (by rw[ZH h];simp),ZH fun h'=>h h'.1]
def ZCz (w:List Data)(t:Ty):Prop:=ZU w/\ZZ w t
theorem P.Yq (w:List Data)(t:Ty)(hw:ZBA w):F.f101 w t=some (dec (ZCz w t)):=by
 unfold F.f101
 rw[P.YQ w hw]
 simp only[oE,oS]
 by_cases h:ZU w
 ·rw[if_pos (ZI h),P.YAk]
  simp only[oS]
  congr 1;exact ZS ⟨fun h'=>⟨h,h'⟩,fun h'=>h'.2⟩
 ·rw[if_neg (by rw[ZH h];simp),ZH fun h'=>h h'.1]
theorem ZIQ {w:List Data}(h:wtL Data.wt w<=1048576):ZBA w:=by
 refine⟨by have:=Zh Data.wt w;omega,fun d hd c hc=> ?_⟩
 have h1:=Zf Data.wt hd
 have h2:=Zf Ctor.wt hc
 have e1:d.wt=d.name.size+wtL Ctor.wt d.ctors:=rfl
 have e2:c.wt=c.name.size+wtL Ty.wt c.args:=rfl
 omega
def tOk (w:List Data)(t:Ty):Prop:=t.data= -1∨(0<=t.data/\t.data<w.length)
theorem ZAO {w:List Data}{t:Ty}(h:ZEd w.length t):tOk w t:=h.elim (fun h=>.inl h.1) (fun h=>.inr ⟨h.1,h.2.1⟩)
def ZMe (i:Int)(c:Ctor):Prop:=i=0∨c.index=0∨c.index=i
noncomputable def ZGk (i:Int):Nat->List Ctor->List Int
 |_,[]=>[]
 |k,c::r=>(if dec (ZMe i c)=true then[(k:Int)]else[])++ZGk i (k+1) r
theorem ZEB (i:Int):∀(k:Nat) (l:List Ctor),(ZGk i k l).length<=l.length
 |_,[]=>by simp[ZGk]
 |k,c::r=>by
  have:=ZEB i (k+1) r
  unfold ZGk
  split<;>simp<;>omega
theorem ZGj (i:Int){x:Int}:∀{k:Nat} {l:List Ctor},x∈ZGk i k l->(k:Int)<=x/\x<k+l.length
 |_,[],h=>by simp[ZGk]at h
 |k,c::r,h=>by
  unfold ZGk at h
  rcases List.mem_append.1 h with h|h
  ·split at h
   ·simp at h;subst h;simp;omega
   ·simp at h
  ·have:=ZGj i h
   simp;omega
def Zn (w:List Data)(t:Ty):Data:=w.getD t.data.toNat Data.z
noncomputable def ZP (w:List Data)(t:Ty):List Int:=if t.data= -1 then[]else ZGk t.index 0 (Zn w t).ctors
def ZAC (w:List Data)(t:Ty)(c:Int):Ctor:=(Zn w t).ctors.getD c.toNat Ctor.z
def ZGT (t:Ty)(c:Ctor)(a:Ty):Ty:=if a.index= -1 then⟨a.data,if c.index=0 then t.index else c.index⟩else a
def ZQ (w:List Data)(t:Ty)(c:Int):List Ty:=(ZAC w t c).args.map (ZGT t (ZAC w t c))
theorem ZEc {w:List Data}{t:Ty}(h:tOk w t)(hn:t.data≠-1):at? w t.data=some (Zn w t)/\Zn w t∈w/\∃h:t.data.toNat<w.length,Zn w t=w[t.data.toNat]:=by
 obtain⟨h1,h2⟩:=h.resolve_left hn
 have hlt:t.data.toNat<w.length:=by omega
 unfold at? Zn
 rw[if_pos h1,gQ hlt,List.getD_eq_getElem?_getD,gQ hlt]
 exact⟨rfl,gM hlt,hlt,rfl⟩
theorem Zs {w:List Data}(hw:ZU w){t:Ty}(h:tOk w t)(hn:t.data≠-1):(Zn w t).ctors.length<=4/\∀c,c∈(Zn w t).ctors->ZGz w.length c:=by
 obtain⟨_,_,hlt,e⟩:=ZEc h hn
 have hd:=hw.2 t.data.toNat (by omega) hlt hlt
 rw[e]
 refine⟨hd.few,fun c hc=> ?_⟩
 obtain⟨k,hk,rfl⟩:=List.getElem_of_mem hc
 exact(hd.ctors k (by omega) hk hk).ok
theorem P.YAB (w:List Data)(hw:ZU w)(t:Ty)(h:tOk w t)(hn:t.data≠-1):∀(m k:Nat) (out:List Int),(Zn w t).ctors.length-k=m->out.length<=k->k<=(Zn w t).ctors.length->
  F.f41 w t out k=some (out++ZGk t.index k ((Zn w t).ctors.drop k)):=by
 have h4:=(Zs hw h hn).1
 intro m
 induction m with
 |zero=>
  intro k out hm ho hk
  rw[F.f41,(ZEc h hn).1]
  simp only[oE,oS]
  rw[if_neg (by omega),List.drop_eq_nil_of_le (by omega)];simp[ZGk]
 |succ m ih=>
  intro k out hm ho hk
  have hlt:k<(Zn w t).ctors.length:=by omega
  rw[F.f41,(ZEc h hn).1]
  simp only[oE,oS]
  rw[if_pos hlt,gQ hlt,List.drop_eq_getElem_cons hlt]
  simp only[oS,ZGk]
  have hf:F.f40 (Zn w t).ctors[k] t.index=some (dec (ZMe t.index (Zn w t).ctors[k])):=by
   unfold F.f40
   by_cases h1:(Zn w t).ctors[k].index=0
   ·rw[if_pos h1,ZI (.inr (.inl h1))]
   ·by_cases h2:t.index=0
    ·rw[if_neg h1,if_pos h2,ZI (.inl h2)]
    ·rw[if_neg h1,if_neg h2,←ZAT];congr 1;exact ZS ⟨fun h=>.inr (.inr h),fun h=>h.elim (fun h=>absurd h h2) (fun h=>h.elim (fun h=>absurd h h1) id)⟩
  rw[hf]
  simp only[oS]
  by_cases hfit:ZMe t.index (Zn w t).ctors[k]
  ·rw[if_pos (ZI hfit),if_pos (by omega),if_pos (by omega),ih (k+1) _ (by omega) (by simp;omega) (by omega),if_pos (ZI hfit)];simp
  ·rw[if_neg (by rw[ZH hfit];simp),if_pos (by omega),ih (k+1) _ (by omega) (by omega) (by omega),if_neg (by rw[ZH hfit];simp)];simp
theorem P.YH (w:List Data)(hw:ZU w)(t:Ty)(h:tOk w t):F.f42 w t=some (ZP w t):=by
 unfold F.f42 ZP
 by_cases hn:t.data= -1
 ·rw[if_pos hn,if_pos hn]
 ·rw[if_neg hn,if_neg hn,P.YAB w hw t h hn _ 0 [] rfl (by simp) (by omega)];simp
theorem Za {w:List Data}{t:Ty}{c:Int}(h:c∈ZP w t):t.data≠-1/\0<=c/\c<(Zn w t).ctors.length:=by
 unfold ZP at h
 split at h
 ·cases h
 ·next hn=>
  have:=ZGj t.index h
  exact⟨hn,by omega,by omega⟩
theorem ZCZ {w:List Data}{t:Ty}{c:Int}(h:c∈ZP w t):at? (Zn w t).ctors c=some (ZAC w t c)/\ZAC w t c∈(Zn w t).ctors:=by
 obtain⟨_,h1,h2⟩:=Za h
 have hlt:c.toNat<(Zn w t).ctors.length:=by omega
 unfold at? ZAC
 rw[if_pos h1,gQ hlt,List.getD_eq_getElem?_getD,gQ hlt]
 exact⟨rfl,gM hlt⟩
theorem ZGS {w:List Data}(hw:ZU w){t:Ty}(ht:tOk w t){c:Int}(h:c∈ZP w t):(ZQ w t c).length<=3/\∀a,a∈ZQ w t c->tOk w a:=by
 have hc:=(Zs hw ht (Za h).1).2 _ (ZCZ h).2
 refine⟨by unfold ZQ;rw[List.length_map];exact hc.2.1,fun a ha=> ?_⟩
 obtain⟨b,hb,rfl⟩:=List.mem_map.1 ha
 obtain⟨j,hj,rfl⟩:=List.getElem_of_mem hb
 have:=ZAO (hc.2.2.2.2 j (by omega) hj)
 unfold ZGT
 split
 ·exact this
 ·exact this
theorem P.YB (w:List Data)(hw:ZU w)(t:Ty)(ht:tOk w t)(c:Int)(h:c∈ZP w t):F.f45 w t c=some (ZQ w t c):=by
 have hc:=(Zs hw ht (Za h).1).2 _ (ZCZ h).2
 unfold F.f45
 rw[(ZEc ht (Za h).1).1]
 simp only[oE,oS]
 rw[(ZCZ h).1]
 simp only[oS]
 rw[ZEe (L:=F.f44 t (ZAC w t c)) (a:=(ZAC w t c).args) (g:=ZGT t (ZAC w t c)) (f:=fun a=>some (ZGT t (ZAC w t c) a)) (fun out i=> ?_) (fun _ _=>rfl) _ 0 [] rfl (by have:=hc.2.1;simp;omega)]
 ·simp[ZQ]
 ·rw[F.f44]
  split
  ·cases(ZAC w t c).args[i]? with
   |none=>rfl
   |some a=>
    simp only[oE,oS,F.f43,ZGT]
    split
    ·split<;>simp
    ·simp
  ·rfl
theorem P.YAV (l:List Int)(n:Int):F.f65 l n=some (dec (n∈l)):=by
 unfold F.f65
 rw[ZG6 (n:=l.length) (r:=true) (Q:=fun j=>∀h:j<l.length,l[j]≠n) (L:=F.f64 l n) (fun k hk=>by rw[F.f64,if_neg (by omega)])
  (fun k hk hq=>by
   rw[F.f64,if_pos hk,gQ hk]
   simp only[oE,oS]
   rw[if_neg (hq hk)])
  (fun k hk hq=>by
   rw[F.f64,if_pos hk,gQ hk]
   simp only[oE,oS]
   rw[if_pos (Classical.byContradiction fun h=>hq fun _=>h)]) _ 0 rfl]
 simp only[oE,oS]
 by_cases hm:n∈l
 ·obtain⟨j,hj,e⟩:=List.getElem_of_mem hm
  rw[if_neg (by rw[ZH fun hh=>hh j (by omega) hj hj e];simp),ZI hm]
 ·rw[if_pos (ZI fun j _ hj h e=>hm (by rw[←e];exact gM h)),ZH hm]
def pv (w:List Data)(holes:Bool):Nat->Ty->Value->Prop
 |0,_,_=>False
 |d+1,t,v=>(holes=true/\v.ctor= -2/\v.n=0/\v.kids.length=0)∨(¬(holes=true/\v.ctor= -2)/\
   ((t.data= -1/\v.ctor= -1/\0<=v.n/\v.n<=9/\v.kids.length=0)∨
   (t.data≠-1/\v.n=0/\v.ctor∈ZP w t/\v.kids.length=(ZQ w t v.ctor).length/\
    ∀i,0<=i->i<(ZQ w t v.ctor).length->∀(h:i<(ZQ w t v.ctor).length) (h':i<v.kids.length),pv w holes d (ZQ w t v.ctor)[i] v.kids[i])))
theorem ZLJ (v:Value):v.wt=((v.kids.drop 0).map fun k=>1+k.wt).sum:=by
 rw[List.drop_zero,v.wt_eq]
 have:∀l:List Value,(l.map fun k=>1+k.wt).sum=wtL Value.wt l:=by
  intro l
  induction l with
  |nil=>rfl
  |cons a r ih=>simp[ih]
 exact(this _).symm
def rok (K:Nat)(r:ZE):Prop:=r.f0.length<=2000/\(∀x,x∈r.f0->0<=x/\x<=255)/\0<=r.f1/\r.f1<=(K:Int)
theorem rok.mono {K L:Nat}{r:ZE}(h:rok K r)(hl:K<=L):rok L r:=⟨h.1,h.2.1,h.2.2.1,by have:=h.2.2.2;omega⟩
theorem ZLI {a b:Int}(ha:0<=a)(hb:0<=b)(ha':a<4611686018427387904)(hb':b<4611686018427387904):0<=ZMh .i64 a b:=by
 unfold ZMh
 obtain⟨m,rfl⟩:=Int.eq_ofNat_of_zero_le ha
 obtain⟨n,rfl⟩:=Int.eq_ofNat_of_zero_le hb
 have hm:m<2^62:=by omega
 have hn:n<2^62:=by omega
 have h:(BitVec.ofInt IntKind.i64.bits (m:Int)^^^BitVec.ofInt IntKind.i64.bits (n:Int)).toNat<2^62:=by
  rw[BitVec.toNat_xor]
  refine Nat.xor_lt_two_pow ?_ ?_
  ·show(BitVec.ofInt 64 (m:Int)).toNat<2^62
   rw[BitVec.toNat_ofInt];omega
  ·show(BitVec.ofInt 64 (n:Int)).toNat<2^62
   rw[BitVec.toNat_ofInt];omega
 rw[ZG (by omega) (by omega)]
 exact Int.natCast_nonneg _
theorem ZD0 {α:Type}{xs:List α}{i:Int}(h0:0<=i)(h1:i<xs.length):∃x,at? xs i=some x/\x∈xs:=by
 have hi:i.toNat<xs.length:=by omega
 refine⟨xs[i.toNat],?_,gM hi⟩
 unfold at?
 rw[if_pos h0,gQ hi]
theorem P.YI {K:Nat}{r:ZE}(h:rok K r)(hK:K<=1099511627776)(n:Int):∃v r',F.f1 r n=some (v,r')/\rok (K+1) r'/\0<=v/\(1<=n->v<n)/\(n<1->v=0):=by
 obtain⟨h1,h2,h3,h4⟩:=h
 unfold F.f1
 have e1:i64.wrap (r.f1+1)=r.f1+1:=ZG (by omega) (by omega)
 have e2:i64.wrap (r.f1+1-1)=r.f1:=by rw[ZG (by omega) (by omega)];omega
 have hr':rok (K+1) ⟨r.f0,r.f1+1⟩:=⟨h1,h2,by show 0<=r.f1+1;omega,by show r.f1+1<=((K+1:Nat):Int);omega⟩
 rw[e1,e2]
 by_cases hn:n<1
 ·rw[if_pos hn];exact⟨0,_,rfl,hr',by omega,by omega,fun _=>rfl⟩
 rw[if_neg hn]
 by_cases hl:r.f0.length=0
 ·rw[if_pos hl];exact⟨0,_,rfl,hr',by omega,by omega,fun _=>rfl⟩
 rw[if_neg hl]
 have tm:∀x:Int,0<=x->0<=x.tmod n/\x.tmod n<n:=fun x hx=>⟨Int.tmod_nonneg n hx,Int.tmod_lt_of_pos x (by omega)⟩
 have tl:∀x:Int,0<=x->0<=x.tmod (r.f0.length:Int)/\x.tmod (r.f0.length:Int)<r.f0.length:=fun x hx=>⟨Int.tmod_nonneg _ hx,Int.tmod_lt_of_pos x (by omega)⟩
 by_cases hk:r.f1<(r.f0.length:Int)
 ·rw[if_pos hk]
  obtain⟨x,hx,hm⟩:=ZD0 h3 hk
  have hb:=h2 x hm
  rw[hx]
  simp only[oE,oS]
  rw[if_pos (by omega),ZG (by omega) (by omega)]
  have:=tm x hb.1
  exact⟨_,_,rfl,hr',this.1,fun _=>this.2,fun h=>by omega⟩
 ·rw[if_neg hk,if_pos (by omega)]
  have e7:i64.wrap (r.f1*7)=r.f1*7:=ZG (by omega) (by omega)
  have e73:i64.wrap (r.f1*7+3)=r.f1*7+3:=ZG (by omega) (by omega)
  rw[e7,e73]
  have t1:=tl r.f1 h3
  have t2:=tl (r.f1*7+3) (by omega)
  obtain⟨x,hx,hm⟩:=ZD0 t1.1 t1.2
  obtain⟨y,hy,hm'⟩:=ZD0 t2.1 t2.2
  have hb:=h2 x hm
  have hb':=h2 y hm'
  have hq0:0<=r.f1.tdiv (r.f0.length:Int):=Int.tdiv_nonneg h3 (by omega)
  have hq1:r.f1.tdiv (r.f0.length:Int)<=r.f1:=Int.tdiv_le_self _ h3
  rw[hx,hy]
  simp only[oE,oS]
  rw[if_pos (by omega)]
  generalize r.f1.tdiv (r.f0.length:Int)=q at hq0 hq1 ⊢
  rw[ZG (n:=x) (by omega) (by omega),ZG (n:=y) (by omega) (by omega),ZG (n:=q) (by omega) (by omega),ZG (n:=x*131) (by omega) (by omega),ZG (n:=y*1117) (by omega) (by omega),
   ZG (n:=r.f1*29) (by omega) (by omega),ZG (n:=q*53) (by omega) (by omega),ZG (n:=x*131+y*1117) (by omega) (by omega),ZG (n:=x*131+y*1117+r.f1*29) (by omega) (by omega),
   ZG (n:=x*131+y*1117+r.f1*29+q*53) (by omega) (by omega)]
  have hz0:0<=x*131+y*1117+r.f1*29+q*53:=by omega
  have hz1:x*131+y*1117+r.f1*29+q*53<4611686018427387904:=by omega
  generalize x*131+y*1117+r.f1*29+q*53=z at hz0 hz1 ⊢
  have hd0:0<=z.tdiv 64:=Int.tdiv_nonneg hz0 (by omega)
  have hd1:z.tdiv 64<=z:=Int.tdiv_le_self _ hz0
  rw[ZG (n:=z.tdiv 64) (by omega) (by omega)]
  have:=tm _ (ZLI hz0 hd0 hz1 (by omega))
  exact⟨_,_,rfl,hr',this.1,fun _=>this.2,fun h=>by omega⟩
theorem P.num {K:Nat}{r:ZE}(h:rok K r)(hK:K<=1099511627776)(l:List Int)(hl:l≠[]):∃v r',F.f54 r l=some (v,r')/\rok (K+1) r'/\v∈l:=by
 unfold F.f54
 obtain⟨v,r',e,h1,h2,h3,_⟩:=P.YI h hK (l.length:Int)
 have:0<l.length:=List.length_pos_iff.2 hl
 obtain⟨x,hx,hm⟩:=ZD0 h2 (h3 (by omega))
 rw[e]
 simp only[oE,oS]
 rw[hx]
 exact⟨x,r',rfl,h1,hm⟩
def W0 :List Data:=[⟨⟨#[76]⟩,[⟨⟨#[78,105,108]⟩,[],0⟩,⟨⟨#[67,111,110,115]⟩,[⟨-1,0⟩,⟨0,0⟩],0⟩]⟩]
theorem ZK2 :F.f38 ⟨#[76,61,78,105,108,124,67,111,110,115,40,73,44,76,41]⟩=some (W0,true):=E.f38_le 100 _ _ (by kernel_rfl)
theorem ZK1 :F.f53 W0=some [1,1,1,1]:=E.f53_le 100 _ _ (by kernel_rfl)
def W1 :List Data:=[⟨⟨#[66]⟩,[⟨⟨#[84,114,117]⟩,[],0⟩,⟨⟨#[70,108,115]⟩,[],0⟩]⟩,⟨⟨#[84]⟩,[⟨⟨#[76,101,97,102]⟩,[],0⟩,⟨⟨#[78,111,100,101]⟩,[⟨1,0⟩,⟨0,0⟩,⟨1,0⟩],0⟩]⟩]
theorem ZK0 :F.f38 ⟨#[66,61,84,114,117,124,70,108,115,59,84,61,76,101,97,102,124,78,111,100,101,40,84,44,66,44,84,41]⟩=some (W1,true):=E.f38_le 100 _ _ (by kernel_rfl)
theorem ZKz :F.f53 W1=some [1,1,1,1,1,1,1,1]:=E.f53_le 100 _ _ (by kernel_rfl)
def W2 :List Data:=[⟨⟨#[69]⟩,[⟨⟨#[78,117,109]⟩,[⟨-1,0⟩],1⟩,⟨⟨#[66,111,108]⟩,[⟨1,0⟩],2⟩,⟨⟨#[65,100,100]⟩,[⟨0,1⟩,⟨0,1⟩],1⟩,⟨⟨#[73,102]⟩,[⟨0,2⟩,⟨0,-1⟩,⟨0,-1⟩],0⟩]⟩,⟨⟨#[66]⟩,[⟨⟨#[84,114,117]⟩,[],0⟩,⟨⟨#[70,108,115]⟩,[],0⟩]⟩]
theorem ZKy :F.f38 ⟨#[69,61,78,117,109,40,73,41,58,49,124,66,111,108,40,66,41,58,50,124,65,100,100,40,69,49,44,69,49,41,58,49,124,73,102,40,69,50,44,69,42,44,69,42,41,59,66,61,84,114,117,124,70,108,115]⟩=some (W2,true):=E.f38_le 100 _ _ (by kernel_rfl)
theorem ZKx :F.f53 W2=some [2,2,2,0,1,1,1,1]:=E.f53_le 100 _ _ (by kernel_rfl)
def W3 :List Data:=[⟨⟨#[79]⟩,[⟨⟨#[78,111,110]⟩,[],0⟩,⟨⟨#[83,111,109]⟩,[⟨-1,0⟩],0⟩]⟩,⟨⟨#[80]⟩,[⟨⟨#[80,97,105,114]⟩,[⟨0,0⟩,⟨0,0⟩],0⟩]⟩]
theorem ZKw :F.f38 ⟨#[79,61,78,111,110,124,83,111,109,40,73,41,59,80,61,80,97,105,114,40,79,44,79,41]⟩=some (W3,true):=E.f38_le 100 _ _ (by kernel_rfl)
theorem ZKv :F.f53 W3=some [1,1,1,1,2,2,2,2]:=E.f53_le 100 _ _ (by kernel_rfl)
def W4 :List Data:=[⟨⟨#[86]⟩,[⟨⟨#[69,110,100]⟩,[],1⟩,⟨⟨#[83,111,109,101]⟩,[⟨-1,0⟩,⟨0,1⟩],2⟩,⟨⟨#[84,119,111]⟩,[⟨0,-1⟩],0⟩]⟩]
theorem ZKu :F.f38 ⟨#[86,61,69,110,100,58,49,124,83,111,109,101,40,73,44,86,49,41,58,50,124,84,119,111,40,86,42,41]⟩=some (W4,true):=E.f38_le 100 _ _ (by kernel_rfl)
theorem ZKt :F.f53 W4=some [1,1,2,0]:=E.f53_le 100 _ _ (by kernel_rfl)
def W5 :List Data:=[⟨⟨#[78]⟩,[⟨⟨#[78,101,118,101,114]⟩,[⟨0,0⟩],0⟩]⟩,⟨⟨#[66]⟩,[⟨⟨#[84,114,117]⟩,[],0⟩,⟨⟨#[70,108,115]⟩,[],0⟩,⟨⟨#[77,97,121]⟩,[⟨0,0⟩],0⟩]⟩]
theorem ZKs :F.f38 ⟨#[78,61,78,101,118,101,114,40,78,41,59,66,61,84,114,117,124,70,108,115,124,77,97,121,40,78,41]⟩=some (W5,true):=E.f38_le 100 _ _ (by kernel_rfl)
theorem ZKr :F.f53 W5=some [0,0,0,0,1,1,1,1]:=E.f53_le 100 _ _ (by kernel_rfl)
def W6 :List Data:=[⟨⟨#[83]⟩,[⟨⟨#[82,101,100]⟩,[],0⟩,⟨⟨#[71,114,101,101,110]⟩,[],0⟩,⟨⟨#[66,108,117,101]⟩,[],0⟩,⟨⟨#[77,105,120]⟩,[⟨0,0⟩,⟨0,0⟩],0⟩]⟩]
theorem ZKq :F.f38 ⟨#[83,61,82,101,100,124,71,114,101,101,110,124,66,108,117,101,124,77,105,120,40,83,44,83,41]⟩=some (W6,true):=E.f38_le 100 _ _ (by kernel_rfl)
theorem ZKp :F.f53 W6=some [1,1,1,1]:=E.f53_le 100 _ _ (by kernel_rfl)
def ZD9 :List ByteArray:=[⟨#[76,61,78,105,108,124,67,111,110,115,40,73,44,76,41]⟩,⟨#[66,61,84,114,117,124,70,108,115,59,84,61,76,101,97,102,124,78,111,100,101,40,84,44,66,44,84,41]⟩,⟨#[69,61,78,117,109,40,73,41,58,49,124,66,111,108,40,66,41,58,50,124,65,100,100,40,69,49,44,69,49,41,58,49,124,73,102,40,69,50,44,69,42,44,69,42,41,59,66,61,84,114,117,124,70,108,115]⟩,⟨#[79,61,78,111,110,124,83,111,109,40,73,41,59,80,61,80,97,105,114,40,79,44,79,41]⟩,⟨#[86,61,69,110,100,58,49,124,83,111,109,101,40,73,44,86,49,41,58,50,124,84,119,111,40,86,42,41]⟩,⟨#[78,61,78,101,118,101,114,40,78,41,59,66,61,84,114,117,124,70,108,115,124,77,97,121,40,78,41]⟩,⟨#[83,61,82,101,100,124,71,114,101,101,110,124,66,108,117,101,124,77,105,120,40,83,44,83,41]⟩,ByteArray.empty]
theorem P.YA7 :F.f0=some ZD9:=rfl
def ZAH :List (List Data):=[W0,W1,W2,W3,W4,W5,W6]
theorem P.YA6 {K:Nat}{r:ZE}(h:rok K r)(hK:K<=1099511627776):∃w r',F.f39 r=some (w,r')/\rok (K+1) r'/\w∈ZAH:=by
 unfold F.f39
 rw[P.YA7]
 simp only[oE,oS]
 obtain⟨v,r',e,h1,h2,h3,_⟩:=P.YI h hK 7
 have e7:i64.wrap (((8:Nat):Int) -1)=7:=by rw[ZG (by omega) (by omega)];rfl
 have e8:ZD9.length=8:=rfl
 rw[e8,e7,e]
 simp only[oS]
 have h3:=h3 (by omega)
 have hv:v=0∨v=1∨v=2∨v=3∨v=4∨v=5∨v=6:=by omega
 rcases hv with rfl|rfl|rfl|rfl|rfl|rfl|rfl
 ·have:at? ZD9 0=some (⟨#[76,61,78,105,108,124,67,111,110,115,40,73,44,76,41]⟩:ByteArray):=rfl
  rw[this];simp only[oS]
  rw[ZK2]
  exact⟨W0,r',rfl,h1,by simp[ZAH]⟩
 ·have:at? ZD9 1=some (⟨#[66,61,84,114,117,124,70,108,115,59,84,61,76,101,97,102,124,78,111,100,101,40,84,44,66,44,84,41]⟩:ByteArray):=rfl
  rw[this];simp only[oS]
  rw[ZK0]
  exact⟨W1,r',rfl,h1,by simp[ZAH]⟩
 ·have:at? ZD9 2=some (⟨#[69,61,78,117,109,40,73,41,58,49,124,66,111,108,40,66,41,58,50,124,65,100,100,40,69,49,44,69,49,41,58,49,124,73,102,40,69,50,44,69,42,44,69,42,41,59,66,61,84,114,117,124,70,108,115]⟩:ByteArray):=rfl
  rw[this];simp only[oS]
  rw[ZKy]
  exact⟨W2,r',rfl,h1,by simp[ZAH]⟩
 ·have:at? ZD9 3=some (⟨#[79,61,78,111,110,124,83,111,109,40,73,41,59,80,61,80,97,105,114,40,79,44,79,41]⟩:ByteArray):=rfl
  rw[this];simp only[oS]
  rw[ZKw]
  exact⟨W3,r',rfl,h1,by simp[ZAH]⟩
 ·have:at? ZD9 4=some (⟨#[86,61,69,110,100,58,49,124,83,111,109,101,40,73,44,86,49,41,58,50,124,84,119,111,40,86,42,41]⟩:ByteArray):=rfl
  rw[this];simp only[oS]
  rw[ZKu]
  exact⟨W4,r',rfl,h1,by simp[ZAH]⟩
 ·have:at? ZD9 5=some (⟨#[78,61,78,101,118,101,114,40,78,41,59,66,61,84,114,117,124,70,108,115,124,77,97,121,40,78,41]⟩:ByteArray):=rfl
  rw[this];simp only[oS]
  rw[ZKs]
  exact⟨W5,r',rfl,h1,by simp[ZAH]⟩
 ·have:at? ZD9 6=some (⟨#[83,61,82,101,100,124,71,114,101,101,110,124,66,108,117,101,124,77,105,120,40,83,44,83,41]⟩:ByteArray):=rfl
  rw[this];simp only[oS]
  rw[ZKq]
  exact⟨W6,r',rfl,h1,by simp[ZAH]⟩
def row (T G:Nat):Nat:=Nat.mod (Nat.div T (Nat.pow 1024 (Nat.mul 64 (Nat.add (Nat.mul 3 (Nat.mod G 64)) (Nat.mod (Nat.sub 3 (Nat.mod (Nat.xor G (Nat.div G 64)) 3)) 3))))) (Nat.pow 1024 64)
def gl (a:Nat):Int:=if((a^^^ (a/64))%8)=3 then -1 else if(a^^^ (a/64))%8<2 then 0 else 1
def ZA5 (code:List Int):Prop:=code.length<=maxLen/\∀x,x∈code->0<=x/\x<=255
theorem ZCv {code:List Int}(h:ZA5 code)(hl:code.length<=2000):rok 0 ⟨code,0⟩:=⟨hl,h.2,Int.le_refl 0,Int.le_refl 0⟩
theorem ZEE {code:List Int}(h:ZA5 code):rok 0 ⟨(code.drop 0).take (2000-0),0⟩:=⟨by simp;omega,fun x hx=>h.2 x (List.mem_of_mem_drop (List.mem_of_mem_take hx)),Int.le_refl 0,Int.le_refl 0⟩
theorem ZCg {w:List Data}(h:w∈ZAH):ZBA w:=by
 simp only[ZAH,List.mem_cons,List.not_mem_nil,or_false]at h
 rcases h with rfl|rfl|rfl|rfl|rfl|rfl|rfl<;>exact ZIQ (by decide)
def tIx (w:List Data)(t:Ty):Prop:=t.data= -1∨(0<=t.data/\t.data<w.length/\0<=t.index/\t.index<=3)
theorem tIx.tOk {w:List Data}{t:Ty}(h:tIx w t):tOk w t:=h.imp id fun h=>⟨h.1,h.2.1⟩
def ZBn (T:List Int)(t:Ty):Int:=if t.data= -1 then 1 else T.getD (t.data*4+t.index).toNat 0
def ZBg (T:List Int):Int->List Ty->Int
 |m,[]=>m+1
 |m,a::r=>if ZBn T a=0 then 0 else ZBg T (if m<ZBn T a then ZBn T a else m) r
def ZCO (w:List Data)(T:List Int)(t:Ty)(c:Int):Int:=ZBg T 0 (ZQ w t c)
def ZOa (i:Int)(c:Ctor):Bool:=decide (i=0)||decide (c.index=0)||decide (c.index=i)
def ZMo (w:List Data)(T:List Int):Bool:=decide (T.length=w.length*4)&& T.all (fun x=>decide (0<=x)&& decide (x<=2))&&
 (List.range w.length).all fun d=>(List.range 4).all fun i=>decide (T.getD (d*4+i) 0=0)||
  (List.range (w.getD d Data.z).ctors.length).any fun k=>ZOa i ((w.getD d Data.z).ctors.getD k Ctor.z)&& decide (ZCO w T ⟨d,i⟩ k=T.getD (d*4+i) 0)
theorem ZKV {i:Int}{c:Ctor}(h:ZOa i c=true):ZMe i c:=by
 simp only[ZOa,Bool.or_eq_true,decide_eq_true_eq]at h
 rcases h with(h|h)|h
 ·exact .inl h
 ·exact .inr (.inl h)
 ·exact .inr (.inr h)
theorem ZIR {i:Int}:∀{k:Nat} {l:List Ctor} {j:Nat} (hj:j<l.length),ZMe i l[j]->((k+j:Nat):Int)∈ZGk i k l
 |k,c::r,0,hj,h=>by simp only[ZGk];rw[if_pos (ZI (show ZMe i c from h))];exact List.mem_append_left _ (by simp)
 |k,c::r,j+1,hj,h=>by
  simp only[ZGk]
  refine List.mem_append_right _ ?_
  have:=ZIR (k:=k+1) (l:=r) (j:=j) (by simpa using hj) h
  have e:k+1+j=k+(j+1):=by omega
  rwa[e]at this
structure TOk (w:List Data)(T:List Int):Prop where
 wok:ZU w
 len:T.length=w.length*4
 rng:∀k,0<=T.getD k 0/\T.getD k 0<=2
 has:∀t,tIx w t->t.data≠-1->ZBn T t≠0->∃c,c∈ZP w t/\ZCO w T t c=ZBn T t
theorem TOk.of {w:List Data}{T:List Int}(hw:ZU w)(h:ZMo w T=true):TOk w T:=by
 simp only[ZMo,Bool.and_eq_true,decide_eq_true_eq]at h
 obtain⟨⟨h1,h2⟩,h3⟩:=h
 refine⟨hw,h1,fun k=> ?_,fun t ht hn hd=> ?_⟩
 ·by_cases hk:k<T.length
  ·rw[List.getD_eq_getElem?_getD,gQ hk]
   have:=List.all_eq_true.1 h2 _ (gM hk)
   simpa using this
  ·rw[List.getD_eq_getElem?_getD,List.getElem?_eq_none (by omega)];simp
 ·obtain⟨q1,q2,q3,q4⟩:=ht.resolve_left hn
  have a1:=List.all_eq_true.1 h3 t.data.toNat (by simp;omega)
  have a2:=List.all_eq_true.1 a1 t.index.toNat (by simp;omega)
  simp only[Bool.or_eq_true,decide_eq_true_eq]at a2
  have e:(t.data*4+t.index).toNat=t.data.toNat*4+t.index.toNat:=by omega
  have ed:ZBn T t=T.getD (t.data.toNat*4+t.index.toNat) 0:=by unfold ZBn;rw[if_neg hn,e]
  have a3:=a2.resolve_left (by rw[←ed];exact hd)
  obtain⟨k,hk,hkk⟩:=List.any_eq_true.1 a3
  simp only[Bool.and_eq_true,decide_eq_true_eq]at hkk
  have et:(⟨(t.data.toNat:Int),(t.index.toNat:Int)⟩:Ty)=t:=by
   obtain⟨d,i⟩:=t
   simp only at q1 q3 ⊢
   rw[Int.toNat_of_nonneg q1,Int.toNat_of_nonneg q3]
  rw[et]at hkk
  have hk':k<(Zn w t).ctors.length:=by simpa[Zn]using hk
  refine⟨(k:Int),?_,by rw[hkk.2,ed]⟩
  unfold ZP
  rw[if_neg hn]
  have hf:=ZKV hkk.1
  rw[Int.toNat_of_nonneg q3]at hf
  have hg:(w.getD t.data.toNat Data.z).ctors.getD k Ctor.z=(Zn w t).ctors[k]:=by
   unfold Zn at hk' ⊢
   rw[List.getD_eq_getElem?_getD,gQ hk'];rfl
  rw[hg]at hf
  have:=ZIR (k:=0) hk' hf
  rwa[Nat.zero_add]at this
theorem TOk.dep {w:List Data}{T:List Int}(h:TOk w T)(t:Ty):0<=ZBn T t/\ZBn T t<=2:=by
 unfold ZBn;split
 ·omega
 ·exact h.rng _
theorem P.YG {w:List Data}{T:List Int}(h:TOk w T){t:Ty}(ht:tIx w t):F.f47 T t=some (ZBn T t):=by
 unfold F.f47 F.f46 ZBn
 by_cases hn:t.data= -1
 ·rw[if_pos hn,if_pos hn]
 ·obtain⟨q1,q2,q3,q4⟩:=ht.resolve_left hn
  have hw:=h.wok.1
  rw[if_neg hn,if_neg hn,ZG (n:=t.data*4) (by omega) (by omega),ZG (by omega) (by omega)]
  simp only[oE,oS]
  have hl:(t.data*4+t.index).toNat<T.length:=by rw[h.len];omega
  unfold at?
  rw[if_pos (by omega),gQ hl,List.getD_eq_getElem?_getD,gQ hl]
  rfl
theorem ZJY {w:List Data}(hw:ZU w){t:Ty}(ht:tIx w t){c:Int}(h:c∈ZP w t):∀a,a∈ZQ w t c->tIx w a:=by
 have hc:=(Zs hw ht.tOk (Za h).1).2 _ (ZCZ h).2
 have hn:=(Za h).1
 intro a ha
 obtain⟨b,hb,rfl⟩:=List.mem_map.1 ha
 obtain⟨j,hj,rfl⟩:=List.getElem_of_mem hb
 have:=hc.2.2.2.2 j (by omega) hj
 obtain⟨q1,q2,q3,q4⟩:=ht.resolve_left hn
 unfold ZGT
 rcases this with⟨p1,p2⟩|⟨p1,p2,p3,p4⟩
 ·rw[if_neg (by omega)];exact .inl p1
 ·split
  ·next e=>
   refine .inr ⟨p1,p2,?_,?_⟩
   ·show 0<=(if(ZAC w t c).index=0 then t.index else(ZAC w t c).index)
    split
    ·exact q3
    ·exact hc.2.2.1
   ·show(if(ZAC w t c).index=0 then t.index else(ZAC w t c).index)<=3
    split
    ·exact q4
    ·exact hc.2.2.2.1
  ·next e=>exact .inr ⟨p1,p2,by omega,p4⟩
theorem ZEP {w:List Data}{T:List Int}(h:TOk w T):∀(l:List Ty) (m:Int),0<=m->m<=2->0<=ZBg T m l/\ZBg T m l<=3/\(ZBg T m l≠0->m+1<=ZBg T m l/\∀a,a∈l->ZBn T a≠0/\ZBn T a+1<=ZBg T m l)
 | [],m,h0,h2=>⟨by simp only[ZBg];omega,by simp only[ZBg];omega,fun _=>⟨by simp only[ZBg];omega,fun a ha=>by cases ha⟩⟩
 |a::r,m,h0,h2=>by
  have hd:=h.dep a
  simp only[ZBg]
  by_cases ha:ZBn T a=0
  ·rw[if_pos ha];exact⟨by omega,by omega,fun h=>absurd rfl h⟩
  ·rw[if_neg ha]
   have hm:∃m',(if m<ZBn T a then ZBn T a else m)=m'/\0<=m'/\m'<=2/\m<=m'/\ZBn T a<=m':=by
    split
    ·exact⟨_,rfl,by omega,by omega,by omega,by omega⟩
    ·exact⟨_,rfl,by omega,by omega,by omega,by omega⟩
   obtain⟨m',e,k0,k2,k3,k4⟩:=hm
   rw[e]
   obtain⟨i1,i2,i3⟩:=ZEP h r m' k0 k2
   refine⟨i1,i2,fun hne=> ?_⟩
   obtain⟨j1,j2⟩:=i3 hne
   refine⟨by omega,fun b hb=> ?_⟩
   rcases List.mem_cons.1 hb with rfl|hb
   ·exact⟨ha,by omega⟩
   ·exact j2 b hb
def mR (n:Int):Lo Int Int:=if n=0 then .ret 0 else .go (n-1)
theorem P.Yo {w:List Data}{T:List Int}(h:TOk w T)(l:List Ty)(hl:∀a,a∈l->tIx w a):∀(n k:Nat) (m:Int),l.length-k=n->0<=m->m<=2->
  F.f48 T l m k=some (mR (ZBg T m (l.drop k))):=by
 intro n
 induction n with
 |zero=>
  intro k m hn h0 h2
  rw[F.f48,if_neg (by omega),List.drop_eq_nil_of_le (by omega)]
  show some (Lo.go m)=some (mR (m+1))
  unfold mR
  rw[if_neg (by omega)];congr 2;omega
 |succ n ih=>
  intro k m hn h0 h2
  have hk:k<l.length:=by omega
  have hd:=h.dep l[k]
  rw[F.f48,if_pos hk,gQ hk]
  simp only[oE,oS]
  rw[P.YG h (hl _ (gM hk)),List.drop_eq_getElem_cons hk]
  simp only[oS,ZBg]
  by_cases ha:ZBn T l[k]=0
  ·rw[if_pos ha,if_pos ha];rfl
  ·rw[if_neg ha,if_neg ha]
   by_cases hm:m<ZBn T l[k]
   ·rw[if_pos hm,if_pos hm,ih _ _ (by omega) (by omega) (by omega)]
   ·rw[if_neg hm,if_neg hm,ih _ _ (by omega) (by omega) (by omega)]
theorem P.YAM {w:List Data}{T:List Int}(h:TOk w T){t:Ty}(ht:tIx w t){c:Int}(hc:c∈ZP w t):F.f49 w T t c=some (ZCO w T t c):=by
 unfold F.f49
 rw[P.YB w h.wok t ht.tOk c hc]
 simp only[oE,oS]
 rw[P.Yo h _ (ZJY h.wok ht hc) _ 0 0 rfl (by omega) (by omega),List.drop_zero]
 simp only[oS]
 have:=ZEP h (ZQ w t c) 0 (by omega) (by omega)
 unfold ZCO
 unfold mR
 by_cases h0:ZBg T 0 (ZQ w t c)=0
 ·rw[if_pos h0,h0]
 ·rw[if_neg h0]
  show some (i64.wrap (ZBg T 0 (ZQ w t c) -1+1))=_
  rw[ZG (by omega) (by omega)];congr 1;omega
def ZCV (w:List Data)(T:List Int)(t:Ty)(depth:Int)(c:Int):Bool:=decide (0<ZCO w T t c)&& (decide (ZCO w T t c<=depth)||decide (ZCO w T t c=ZBn T t))
theorem P.Yn {w:List Data}{T:List Int}(h:TOk w T){t:Ty}(ht:tIx w t)(r:ZE)(depth:Int)(l:List Int)(hl:∀c,c∈l->c∈ZP w t)(h8:l.length<=4):∀(n k:Nat) (out:List Int),l.length-k=n->out.length<=k->
  F.f55 r w T t depth l out k=some (out++(l.drop k).filter (ZCV w T t depth)):=by
 intro n
 induction n with
 |zero=>intro k out hn ho;rw[F.f55,if_neg (by omega),List.drop_eq_nil_of_le (by omega)];simp
 |succ n ih=>
  intro k out hn ho
  have hk:k<l.length:=by omega
  rw[F.f55,if_pos hk,gQ hk]
  simp only[oE,oS]
  rw[P.YAM h ht (hl _ (gM hk)),List.drop_eq_getElem_cons hk,P.YG h ht]
  simp only[oS]
  have yes:ZCV w T t depth l[k]=true->F.f55 r w T t depth l (out++[l[k]]) (k+1)=some (out++(l[k]::l.drop (k+1)).filter (ZCV w T t depth)):=fun hf=>by
   rw[ih (k+1) _ (by omega) (by simp;omega),List.filter_cons_of_pos hf];simp
  have no:ZCV w T t depth l[k]=false->F.f55 r w T t depth l out (k+1)=some (out++(l[k]::l.drop (k+1)).filter (ZCV w T t depth)):=fun hf=>by
   rw[ih (k+1) _ (by omega) (by omega),List.filter_cons_of_neg (by simp[hf])]
  by_cases h1:0<ZCO w T t l[k]
  ·rw[if_pos h1]
   by_cases h2:ZCO w T t l[k]<=depth
   ·rw[if_pos h2,if_pos (by omega)];exact yes (by simp[ZCV,h1,h2])
   ·rw[if_neg h2]
    by_cases h3:ZCO w T t l[k]=ZBn T t
    ·rw[if_pos h3,if_pos (by omega)];exact yes (by simp only[ZCV,h1,h3];simp[←h3,h1])
    ·rw[if_neg h3];exact no (by simp[ZCV,h2,h3])
  ·rw[if_neg h1];exact no (by simp[ZCV,h1])
theorem ZIS {w:List Data}(hw:ZU w){t:Ty}(ht:tOk w t):(ZP w t).length<=4:=by
 unfold ZP
 split
 ·simp
 ·next hn=>exact Nat.le_trans (ZEB _ _ _) (Zs hw ht hn).1
theorem ZMk (c n:Int)(ks:List Value):(⟨c,n,ks⟩:Value).wt=((ks.map fun k=>1+k.wt).sum):=by
 have:=ZLJ ⟨c,n,ks⟩
 simpa using this
theorem P.YAh {w:List Data}{T:List Int}(h:TOk w T):∀(n:Nat) (t:Ty) (depth:Int) (K:Nat) (r:ZE),tIx w t->ZBn T t≠0->ZBn T t<=n->depth<=n->-1000000+n<=depth->n<=12->rok K r->K+4^n<=1099511627776->
  ∃v r',F.f56 r w T t depth=some (v,r')/\rok (K+4^n) r'/\pv w false n t v/\v.wt+1<=4^n/\(t.data≠-1->∀a,a∈ZQ w t v.ctor->ZBn T a≠0)
 |0,t,depth,K,r,ht,hd,hdn,_,_,_,_,_=>by have:=h.dep t;omega
 |n+1,t,depth,K,r,ht,hd,hdn,hde,hlo,h12,hr,hK=>by
  have p4:1<=4^n:=Nat.one_le_pow _ _ (by omega)
  have p4':4^ (n+1)=4*4^n:=by rw[Nat.pow_succ];omega
  rw[F.f56]
  by_cases hn:t.data= -1
  ·rw[if_pos hn]
   obtain⟨v,r',e,h1,h2,h3,_⟩:=P.YI hr (by omega) 10
   have h3:=h3 (by omega)
   rw[e]
   refine⟨_,_,rfl,h1.mono (by omega),?_,?_,fun h=>absurd hn h⟩
   ·exact .inr ⟨by simp,.inl ⟨hn,rfl,h2,by show v<=9;omega,rfl⟩⟩
   ·rw[ZMk];simp;omega
  ·rw[if_neg hn,P.YH w h.wok t ht.tOk]
   simp only[oE,oS]
   rw[P.Yn h ht r depth _ (fun c hc=>hc) (ZIS h.wok ht.tOk) _ 0 [] rfl (by simp),List.drop_zero,List.nil_append]
   simp only[oS]
   obtain⟨c0,hc0,hm0⟩:=h.has t ht hn hd
   have hdt:=h.dep t
   have hf0:c0∈(ZP w t).filter (ZCV w T t depth):=List.mem_filter.2 ⟨hc0,by simp only[ZCV,hm0];simp;omega⟩
   have hpos:=List.length_pos_of_mem hf0
   obtain⟨v,r1,e,h1,h2,h3,_⟩:=P.YI hr (by omega) (((ZP w t).filter (ZCV w T t depth)).length:Int)
   obtain⟨c,hcx,hcm⟩:=ZD0 h2 (h3 (by omega))
   rw[e];simp only[oS]
   rw[hcx];simp only[oS]
   obtain⟨hcl,hcf⟩:=List.mem_filter.1 hcm
   simp only[ZCV,Bool.and_eq_true,Bool.or_eq_true,decide_eq_true_eq]at hcf
   rw[P.YB w h.wok t ht.tOk c hcl]
   simp only[oS]
   obtain⟨g1,g2,g3⟩:=ZEP h (ZQ w t c) 0 (by omega) (by omega)
   have g3:=g3 (by unfold ZCO at hcf;omega)
   have hal:=(ZGS h.wok ht.tOk hcl).1
   have hax:=ZJY h.wok ht hcl
   have hmn:ZCO w T t c<=(n:Int)+1:=by rcases hcf.2 with q|q<;>omega
   have kid:∀a,a∈ZQ w t c->∀K r,rok K r->K+4^n<=1099511627776->∃v r',F.f56 r w T a (i64.wrap (depth-1))=some (v,r')/\rok (K+4^n) r'/\pv w false n a v/\v.wt+1<=4^n:=by
    intro a ha K r hr hK
    rw[ZG (by omega) (by omega)]
    obtain⟨q1,q2⟩:=g3.2 a ha
    obtain⟨v,r',e,k1,k2,k3,_⟩:=P.YAh h n a (depth-1) K r (hax a ha) q1 (by unfold ZCO at hmn;omega) (by omega) (by omega) (by omega) hr hK
    exact⟨v,r',e,k1,k2,k3⟩
   have loop:∀(m k:Nat) (z:List Int) (z33:Int) (out:List Value) (K:Nat),(ZQ w t c).length-k=m->out.length=k->rok K ⟨z,z33⟩->K+m*4^n<=1099511627776->
     (∀i (hi:i<out.length) (hi':i<(ZQ w t c).length),pv w false n (ZQ w t c)[i] out[i])->((out.map fun k=>1+k.wt).sum)<=k*4^n->k<=(ZQ w t c).length->
     ∃z' z33' out',F.f57 w T depth c (ZQ w t c) z z33 out k=some (z',z33',out')/\rok (K+m*4^n) ⟨z',z33'⟩/\out'.length=(ZQ w t c).length/\
      (∀i (hi:i<out'.length) (hi':i<(ZQ w t c).length),pv w false n (ZQ w t c)[i] out'[i])/\((out'.map fun k=>1+k.wt).sum)<=(ZQ w t c).length*4^n:=by
    intro m
    induction m with
    |zero=>
     intro k z z33 out K hm ho hr hK hp hs hk
     rw[F.f57,if_neg (by omega)]
     have:k=(ZQ w t c).length:=by omega
     subst this
     exact⟨z,z33,out,rfl,by simpa using hr,ho,hp,hs⟩
    |succ m ih=>
     intro k z z33 out K hm ho hr hK hp hs hkl
     have hk:k<(ZQ w t c).length:=by omega
     rw[F.f57,if_pos hk,gQ hk]
     simp only[oE,oS]
     have e1:(m+1)*4^n=m*4^n+4^n:=by rw[Nat.succ_mul]
     obtain⟨v,r',e,k1,k2,k3⟩:=kid _ (gM hk) K ⟨z,z33⟩ hr (by omega)
     rw[e];simp only[oS]
     rw[if_pos (by omega)]
     have e2:(k+1)*4^n=k*4^n+4^n:=by rw[Nat.succ_mul]
     have key:=fun p1 p2=>ih (k+1) r'.f0 r'.f1 (out++[v]) (K+4^n) (by omega) (by simp[ho]) k1 (by omega) p1 p2 hk
     obtain⟨z',z33',out',q1,q2,q3⟩:=key (by
      intro i hi hi'
      by_cases hik:i<out.length
      ·rw[List.getElem_append_left hik];exact hp i hik hi'
      ·have:i=k:=by simp at hi;omega
       subst this
       rw[List.getElem_append_right (by omega)]
       simpa using k2) (by
      simp only[List.map_append,List.sum_append,List.map_cons,List.map_nil,List.sum_cons,List.sum_nil];omega)
     exact⟨z',z33',out',q1,q2.mono (by omega),q3⟩
   have m3:(ZQ w t c).length*4^n<=3*4^n:=Nat.mul_le_mul_right _ hal
   obtain⟨z',z33',out',q1,q2,q3,q4,q5⟩:=loop _ 0 r1.f0 r1.f1 [] (K+1) rfl rfl h1 (by simp only[Nat.sub_zero];omega) (fun i hi=>by simp at hi) (by simp) (by omega)
   rw[q1];simp only[oS]
   refine⟨_,_,rfl,q2.mono (by simp only[Nat.sub_zero];omega),?_,?_,fun _ a ha=>(g3.2 a ha).1⟩
   ·refine .inr ⟨by simp,.inr ⟨hn,rfl,hcl,q3,fun i _ _ hi hi'=>q4 i hi' hi⟩⟩
   ·rw[ZMk];omega
theorem P.YAv {w:List Data}{T:List Int}(h:TOk w T)(n:Nat)(t:Ty)(depth:Int)(K:Nat)(r:ZE)(a1:tIx w t)(a2:ZBn T t≠0)(a3:ZBn T t<=n)(a4:depth<=n)(a5: -1000000+n<=depth)(a6:n<=12)(a7:rok K r)(a8:K+4^n<=1099511627776):
  ∃v r',F.f56 r w T t depth=some (v,r')/\rok (K+4^n) r'/\pv w false n t v/\v.wt+1<=4^n:=by
 obtain⟨v,r',e,k1,k2,k3,_⟩:=P.YAh h n t depth K r a1 a2 a3 a4 a5 a6 a7 a8
 exact⟨v,r',e,k1,k2,k3⟩
theorem ZJl {w:List Data}(hw:w∈ZAH):ZU w/\1<=w.length/\w.length<=2/\ZBA w/\∃T,F.f53 w=some T/\TOk w T:=by
 have hs:=ZCg hw
 have wok:F.f24 w=some true->ZU w:=fun h=>by rw[P.YQ w hs]at h;exact ZDL.1 (Option.some.inj h)
 simp only[ZAH,List.mem_cons,List.not_mem_nil,or_false]at hw
 rcases hw with rfl|rfl|rfl|rfl|rfl|rfl|rfl
 ·have:=wok (E.f24_le 100 _ _ (by kernel_rfl));exact⟨this,by decide,by decide,hs,_,ZK1,TOk.of this (by decide)⟩
 ·have:=wok (E.f24_le 100 _ _ (by kernel_rfl));exact⟨this,by decide,by decide,hs,_,ZKz,TOk.of this (by decide)⟩
 ·have:=wok (E.f24_le 100 _ _ (by kernel_rfl));exact⟨this,by decide,by decide,hs,_,ZKx,TOk.of this (by decide)⟩
 ·have:=wok (E.f24_le 100 _ _ (by kernel_rfl));exact⟨this,by decide,by decide,hs,_,ZKv,TOk.of this (by decide)⟩
 ·have:=wok (E.f24_le 100 _ _ (by kernel_rfl));exact⟨this,by decide,by decide,hs,_,ZKt,TOk.of this (by decide)⟩
 ·have:=wok (E.f24_le 100 _ _ (by kernel_rfl));exact⟨this,by decide,by decide,hs,_,ZKr,TOk.of this (by decide)⟩
 ·have:=wok (E.f24_le 100 _ _ (by kernel_rfl));exact⟨this,by decide,by decide,hs,_,ZKp,TOk.of this (by decide)⟩
theorem P.YAu {K:Nat}{r:ZE}(h:rok K r)(hK:K+300<=1099511627776):∃w t v r' T,F.f58 r=some (w,t,v,r')/\rok (K+300) r'/\w∈ZAH/\F.f53 w=some T/\TOk w T/\tIx w t/\t.index<=2/\0<=t.index/\ZBn T t≠0/\pv w false 4 t v/\v.wt+1<=256/\(t.data= -1->t.index=0):=by
 unfold F.f58
 obtain⟨w,r1,e1,h1,hw⟩:=P.YA6 h (by omega)
 obtain⟨hwo,hl1,hl2,hs,T,hT,hTo⟩:=ZJl hw
 obtain⟨p,r2,e2,h2,p0,p1,_⟩:=P.YI h1 (by omega) (w.length:Int)
 obtain⟨i,r3,e3,h3,hi⟩:=P.num h2 (by omega) [0,0,1,2] (by simp)
 obtain⟨d,r4,e4,h4,hd⟩:=P.num h3 (by omega) [3,2,4,1] (by simp)
 have hi:0<=i/\i<=2:=by simp at hi;omega
 have hd:1<=d/\d<=4:=by simp at hd;omega
 have p1:=p1 (by omega)
 have ht:tIx w ⟨p,i⟩:=.inr ⟨p0,p1,hi.1,by show i<=3;omega⟩
 rw[e1];simp only[oE,oS]
 rw[hT];simp only[oS]
 rw[e2];simp only[oS]
 rw[e3];simp only[oS]
 rw[P.YG hTo ht,e4];simp only[oS]
 split
 ·obtain⟨v,r',e,k1,k2,k3⟩:=P.YAv hTo 4 ⟨-1,0⟩ d _ r4 (.inl rfl) (by simp[ZBn]) (by simp[ZBn]) (by omega) (by omega) (by omega) h4 (by omega)
  rw[e]
  exact⟨w,⟨-1,0⟩,v,r',T,rfl,k1.mono (by omega),hw,hT,hTo,.inl rfl,by simp,by simp,by simp[ZBn],k2,k3,fun _=>rfl⟩
 ·next hne=>
  have:=hTo.dep ⟨p,i⟩
  obtain⟨v,r',e,k1,k2,k3⟩:=P.YAv hTo 4 ⟨p,i⟩ d _ r4 ht hne (by omega) (by omega) (by omega) (by omega) h4 (by omega)
  rw[e]
  exact⟨w,⟨p,i⟩,v,r',T,rfl,k1.mono (by omega),hw,hT,hTo,ht,hi.2,hi.1,hne,k2,k3,fun hh=>by have:p= -1:=hh;omega⟩
theorem ZGJ {a b:List Int}{L:Nat->Option (Lo Bool Unit)}(hl:a.length=b.length)(hL:∀i,L i=if i<a.length then a[i]? >>=fun x=>b[i]? >>=fun y=>if x=y then L (i+1)else some (.ret false)else some (.go ())):
  L 0=some (if dec (a=b)=true then .go ()else .ret false):=by
 rw[ZG6 (n:=a.length) (r:=false) (Q:=fun i=>∀(h:i<a.length) (h':i<b.length),a[i]=b[i]) (L:=L)
  (fun k hk=>by rw[hL,if_neg (by omega)])
  (fun k hk hq=>by
   rw[hL,if_pos hk,gQ hk,gQ (show k<b.length by omega)]
   simp only[oE,oS]
   rw[if_pos (hq hk (by omega))])
  (fun k hk hq=>by
   rw[hL,if_pos hk,gQ hk,gQ (show k<b.length by omega)]
   simp only[oE,oS]
   rw[if_neg fun h=>hq fun _ _=>h]) _ 0 rfl]
 have:(∀j,0<=j->j<a.length->∀(h:j<a.length) (h':j<b.length),a[j]=b[j])↔a=b:=
  ⟨fun h=>List.ext_getElem hl fun i hi hi'=>h i (by omega) hi hi hi',fun e=>by subst e;exact fun _ _ _ _ _=>rfl⟩
 rw[ZS this]
theorem P.YL (a b:List Int):F.f210 a b=some (dec (a=b)):=by
 unfold F.f210
 by_cases hl:a.length=b.length
 ·rw[if_pos hl,ZGJ hl (L:=F.f209 a b) (fun i=>by rw[F.f209])]
  by_cases h:a=b
  ·rw[if_pos (ZI h),ZI h];rfl
  ·rw[if_neg (by rw[ZH h];simp),ZH h];rfl
 ·rw[if_neg hl,ZH fun h=>hl (by rw[h])]
theorem P.YF (a b:List Int):F.f160 a b=some (dec (a=b)):=by
 unfold F.f160
 by_cases hl:a.length=b.length
 ·rw[if_pos hl,ZGJ hl (L:=F.f159 a b) (fun i=>by rw[F.f159])]
  by_cases h:a=b
  ·rw[if_pos (ZI h),ZI h];rfl
  ·rw[if_neg (by rw[ZH h];simp),ZH h];rfl
 ·rw[if_neg hl,ZH fun h=>hl (by rw[h])]
noncomputable def ZDb (l:List VarType)(n:Int):Int:=match ZEU (fun x=>x.var=n) 0 l with
 |some j=>(j:Int)
 |none=> -1
theorem P.YK (l:List VarType)(n:Int):F.f79 l n=some (ZDb l n):=by
 unfold F.f79 ZDb
 rw[ZMJ (a:=l) (p:=fun x=>x.var=n) (L:=F.f78 l n) (fun k hk=>by rw[F.f78,if_neg (by omega)])
  (fun k hk hp=>by rw[F.f78,if_pos hk,gQ hk];simp only[oE,oS];rw[if_neg hp])
  (fun k hk hp=>by rw[F.f78,if_pos hk,gQ hk];simp only[oE,oS];rw[if_pos hp]) _ 0 rfl,List.drop_zero]
 cases ZEU (fun x=>x.var=n) 0 l<;>rfl
theorem ZBl (l:List VarType)(n:Int):ZDb l n= -1∨∃(j:Nat) (h:j<l.length),ZDb l n=(j:Int)/\l[j].var=n/\∀i (hi:i<l.length),i<j->l[i].var≠n:=by
 unfold ZDb
 cases h:ZEU (fun x:VarType=>x.var=n) 0 l with
 |none=>exact .inl rfl
 |some j=>
  obtain⟨_,h2,h3,h4⟩:=ZBE h
  exact .inr ⟨j,h2,rfl,h3,h4⟩
theorem ZDu (l:List VarType)(j:Nat)(hj:j<l.length):ZDb l l[j].var=(j:Int)↔∀i (hi:i<l.length),i<j->l[i].var≠l[j].var:=by
 constructor
 ·intro h
  rcases ZBl l l[j].var with q|⟨k,hk,q1,q2,q3⟩
  ·omega
  ·have:k=j:=by omega
   subst this;exact q3
 ·intro h
  unfold ZDb
  cases hf:ZEU (fun x:VarType=>x.var=l[j].var) 0 l with
  |none=>exact absurd rfl (ZBF hf l[j] (gM hj))
  |some k=>
   obtain⟨_,h2,h3,h4⟩:=ZBE hf
   show(k:Int)=j
   have:¬k<j:=fun hlt=>h k h2 hlt h3
   have:¬j<k:=fun hlt=>h4 j hj (by omega) rfl
   omega
theorem ZBS {w:List Data}(hw:ZU w){t:Ty}(ht:ZZ w t){c:Int}(h:c∈ZP w t):∀a,a∈ZQ w t c->ZZ w a:=by
 have hc:=(Zs hw (ZAO ht.1) (Za h).1).2 _ (ZCZ h).2
 have hn:=(Za h).1
 intro a ha
 obtain⟨b,hb,rfl⟩:=List.mem_map.1 ha
 obtain⟨j,hj,rfl⟩:=List.getElem_of_mem hb
 have:=hc.2.2.2.2 j (by omega) hj
 have ht2:=ht.2
 rcases ht.1 with q|⟨q1,q2,q3,q4⟩
 ·exact absurd q.1 hn
 unfold ZGT
 rcases this with⟨p1,p2⟩|⟨p1,p2,p3,p4⟩
 ·rw[if_neg (by omega)];exact⟨.inl ⟨p1,p2⟩,by omega⟩
 ·split
  ·next e=>
   have hx:0<=(if(ZAC w t c).index=0 then t.index else(ZAC w t c).index)/\(if(ZAC w t c).index=0 then t.index else(ZAC w t c).index)<=3:=by
    split
    ·exact⟨ht2,q4⟩
    ·exact⟨hc.2.2.1,hc.2.2.2.1⟩
   exact⟨.inr ⟨p1,p2,by show -1<=(if(ZAC w t c).index=0 then t.index else(ZAC w t c).index);omega,hx.2⟩,hx.1⟩
  ·next e=>exact⟨.inr ⟨p1,p2,p3,p4⟩,by omega⟩
def ZDo (w:List Data)(t:Ty)(p:Pattern):Prop:=
 (p.op=1/\p.var=0/\p.n=0/\p.m=0/\p.ctor=0)∨
 (p.op=2/\0<=p.var/\p.var<=5/\p.n=0/\p.m=0/\p.ctor=0)∨
 (p.op=3/\p.var=0/\p.ctor=0/\t.data= -1/\0<=p.n/\p.n<=p.m/\p.m<=9)∨
 (p.op=4/\p.var=0/\p.n=0/\p.m=0/\p.ctor∈ZP w t)∨
 (p.op=5/\p.var=0/\p.n=0/\p.m=0/\p.ctor=0)∨
 (p.op=6/\0<=p.var/\p.var<=5/\p.n=0/\p.m=0/\p.ctor=0)
noncomputable def ZN (w:List Data)(t:Ty)(p:Pattern):List Ty:=if p.op=4 then ZQ w t p.ctor else if p.op=5 then[t,t]else if p.op=6 then[t]else[]
theorem P.YAU (w:List Data)(hw:ZU w)(t:Ty)(ht:tOk w t)(p:Pattern):F.f66 w t p=some (dec (ZDo w t p)):=by
 unfold F.f66
 rw[P.YH w hw t ht]
 simp only[oE,oS,P.YAV]
 have yes:ZDo w t p->some true=some (dec (ZDo w t p)):=fun h=>by rw[ZI h]
 have no:¬ZDo w t p->some false=some (dec (ZDo w t p)):=fun h=>by rw[ZH h]
 repeat' split
 all_goals first
  |(refine no fun h=> ?_;unfold ZDo at h;omega)
  |(refine yes ?_;unfold ZDo;omega)
  |skip
 ·rw[←ZAT];congr 1;refine ZS ?_;unfold ZDo;omega
 ·congr 1;refine ZS ⟨fun h=>.inr (.inr (.inr (.inl ⟨by assumption,by assumption,by assumption,by assumption,h⟩))),fun h=> ?_⟩
  unfold ZDo at h
  rcases h with h|h|h|h|h|h
  ·omega
  ·omega
  ·omega
  ·exact h.2.2.2.2
  ·omega
  ·omega
theorem P.YO (w:List Data)(hw:ZU w)(t:Ty)(ht:tOk w t)(p:Pattern)(h:ZDo w t p):F.f69 w t p=some (ZN w t p):=by
 unfold F.f69 ZN
 by_cases h4:p.op=4
 ·rw[if_pos h4,if_pos h4]
  have hc:p.ctor∈ZP w t:=by
   unfold ZDo at h
   rcases h with h|h|h|h|h|h
   ·omega
   ·omega
   ·omega
   ·exact h.2.2.2.2
   ·omega
   ·omega
  rw[P.YB w hw t ht _ hc];rfl
 ·rw[if_neg h4,if_neg h4]
  have k:F.f67 p.op=some (if p.op=5 then 2 else if p.op=6 then 1 else 0):=by
   unfold F.f67;split
   ·rfl
   ·split
    ·rfl
    ·rfl
  by_cases h5:p.op=5
  ·rw[if_pos h5]
   rw[if_pos h5]at k
   rw[F.f68,k]
   simp only[oE,oS]
   rw[if_pos (by omega),if_pos (by simp),if_pos (by omega),F.f68,k]
   simp only[oE,oS]
   rw[if_pos (by omega),if_pos (by simp),if_pos (by omega),F.f68,k]
   simp only[oE,oS]
   rw[if_neg (by omega)];simp
  ·rw[if_neg h5]
   rw[if_neg h5]at k
   by_cases h6:p.op=6
   ·rw[if_pos h6]
    rw[if_pos h6]at k
    rw[F.f68,k]
    simp only[oE,oS]
    rw[if_pos (by omega),if_pos (by simp),if_pos (by omega),F.f68,k]
    simp only[oE,oS]
    rw[if_neg (by omega)];simp
   ·rw[if_neg h6]
    rw[if_neg h6]at k
    rw[F.f68,k]
    simp only[oE,oS]
    rw[if_neg (by omega)];simp
theorem ZBQ {w:List Data}(hw:ZU w){t:Ty}(ht:ZZ w t){p:Pattern}(h:ZDo w t p):∀a,a∈ZN w t p->ZZ w a:=by
 unfold ZN
 intro a ha
 split at ha
 ·next h4=>
  have hc:p.ctor∈ZP w t:=by
   unfold ZDo at h
   rcases h with h|h|h|h|h|h
   ·omega
   ·omega
   ·omega
   ·exact h.2.2.2.2
   ·omega
   ·omega
  exact ZBS hw ht hc a ha
 ·split at ha
  ·simp at ha;subst ha;exact ht
  ·split at ha
   ·simp at ha;subst ha;exact ht
   ·cases ha
def ZAX (w:List Data):Nat->Ty->Pattern->Prop
 |0,_,_=>False
 |d+1,t,p=>ZDo w t p/\p.kids.length=(ZN w t p).length/\∀i,0<=i->i<(ZN w t p).length->∀(h:i<(ZN w t p).length) (h':i<p.kids.length),ZAX w d (ZN w t p)[i] p.kids[i]
theorem P.YP (w:List Data)(hw:ZU w):∀(d:Nat) (t:Ty) (p:Pattern),ZZ w t->d<=10->F.f70 w t p d=some (dec (ZAX w d t p))
 |0,t,p,ht,hd=>by rw[F.f70,if_pos (by omega),ZH (by simp[ZAX])]
 |d+1,t,p,ht,hd=>by
  rw[F.f70,if_neg (by omega),P.YAU w hw t (ZAO ht.1)]
  simp only[oE,oS]
  by_cases ho:ZDo w t p
  ·rw[if_pos (ZI ho),P.YO w hw t (ZAO ht.1) p ho]
   simp only[oS]
   have hts:=ZBQ hw ht ho
   by_cases h4:p.kids.length=(ZN w t p).length
   ·rw[if_pos h4,ZG6 (n:=(ZN w t p).length) (r:=false) (Q:=fun i=>∀(h:i<(ZN w t p).length) (h':i<p.kids.length),ZAX w d (ZN w t p)[i] p.kids[i]) (L:=F.f71 w p ((d+1:Nat):Int) (ZN w t p))
     (fun k hk=>by rw[F.f71,if_neg (by omega)])
     (fun k hk hq=>by
      have hk':k<p.kids.length:=by omega
      rw[F.f71,if_pos hk,gQ hk,gQ hk']
      simp only[oE,oS]
      rw[ZG (by omega) (by omega),show((d+1:Nat):Int) -1=(d:Int)from by omega,P.YP w hw d _ _ (hts _ (gM hk)) (by omega)]
      simp only[oS]
      rw[if_pos (ZI (hq hk hk'))])
     (fun k hk hq=>by
      have hk':k<p.kids.length:=by omega
      rw[F.f71,if_pos hk,gQ hk,gQ hk']
      simp only[oE,oS]
      rw[ZG (by omega) (by omega),show((d+1:Nat):Int) -1=(d:Int)from by omega,P.YP w hw d _ _ (hts _ (gM hk)) (by omega)]
      simp only[oS]
      rw[if_neg (by rw[ZH fun h=>hq fun _ _=>h];simp)]) _ 0 rfl]
    simp only[oS]
    by_cases hall:∀i,0<=i->i<(ZN w t p).length->∀(h:i<(ZN w t p).length) (h':i<p.kids.length),ZAX w d (ZN w t p)[i] p.kids[i]
    ·rw[if_pos (ZI hall),ZI ⟨ho,h4,hall⟩]
    ·rw[if_neg (by rw[ZH hall];simp),ZH fun h=>hall h.2.2]
   ·rw[if_neg h4,ZH fun h=>h4 h.2.1]
  ·rw[if_neg (by rw[ZH ho];simp),ZH fun h=>ho h.1]
theorem P.YAl (v:Pattern)(hv:v.wt<=1048576):∀(most:Nat),most<=60->∃c:Nat,F.f72 v most=some (c:Int)/\1<=c/\c<=1+v.wt/\(1+v.wt<=most->c=1+v.wt)/\(most<1+v.wt->most<c):=by
 induction v using Pattern.ind with
 |_ v ih=>
  intro most hm
  have hw:=v.wt_eq
  have key:∀(m i:Nat) (n:Nat),v.kids.length-i=m->1<=n->n+((v.kids.drop i).map fun k=>1+k.wt).sum<=1+v.wt->
    ∃c:Nat,F.f73 v most n i=some (c:Int)/\n<=c/\c<=n+((v.kids.drop i).map fun k=>1+k.wt).sum/\(n+((v.kids.drop i).map fun k=>1+k.wt).sum<=most->c=n+((v.kids.drop i).map fun k=>1+k.wt).sum)/\(most<n+((v.kids.drop i).map fun k=>1+k.wt).sum->most<c):=by
   intro m
   induction m with
   |zero=>
    intro i n hmi hn hb
    rw[F.f73,if_neg (by omega),List.drop_eq_nil_of_le (by omega)]
    exact⟨n,rfl,by omega,by simp,by simp,by simp⟩
   |succ m ih2=>
    intro i n hmi hn hb
    have hi:i<v.kids.length:=by omega
    rw[List.drop_eq_getElem_cons hi]at hb ⊢
    simp only[List.map_cons,List.sum_cons]at hb ⊢
    rw[F.f73,if_pos hi]
    by_cases hle:n<=most
    ·rw[if_pos (by omega),gQ hi]
     simp only[oE,oS]
     have hk:v.kids[i].wt<=1048576:=by omega
     obtain⟨c,h1,h2,h3,h4,h5⟩:=ih v.kids[i] (gM hi) hk (most-n) (by omega)
     rw[ZG (by omega) (by omega),show((most:Int) - (n:Int))=((most-n:Nat):Int)from by omega,h1]
     simp only[oS]
     rw[ZG (by omega) (by omega),show((n:Int)+(c:Int))=((n+c:Nat):Int)from by omega]
     obtain⟨c',g1,g2,g3,g4,g5⟩:=ih2 (i+1) (n+c) (by omega) (by omega) (by omega)
     refine⟨c',g1,by omega,by omega,fun h=> ?_,fun h=> ?_⟩
     ·have:=h4 (by omega)
      have:=g4 (by omega)
      omega
     ·by_cases hx:1+v.kids[i].wt<=most-n
      ·have:=h4 hx
       exact g5 (by omega)
      ·have:=h5 (by omega)
       omega
    ·rw[if_neg (by omega)]
     exact⟨n,rfl,by omega,by omega,fun h=>by omega,fun h=>by omega⟩
  have hs:((v.kids.drop 0).map fun k=>1+k.wt).sum=v.wt:=by
   rw[List.drop_zero,hw]
   have:∀l:List Pattern,(l.map fun k=>1+k.wt).sum=wtL Pattern.wt l:=by
    intro l
    induction l with
    |nil=>rfl
    |cons a r ih=>simp[ih]
   exact this _
  obtain⟨c,h1,h2,h3,h4,h5⟩:=key _ 0 1 rfl (by omega) (by omega)
  rw[hs]at h3 h4 h5
  unfold F.f72
  have h1':F.f73 v most 1 0=some (c:Int):=h1
  rw[h1']
  exact⟨c,rfl,by omega,h3,h4,h5⟩
theorem ZJg (v:Pattern):v.wt=((v.kids.drop 0).map fun k=>1+k.wt).sum:=by
 rw[List.drop_zero,v.wt_eq]
 have:∀l:List Pattern,(l.map fun k=>1+k.wt).sum=wtL Pattern.wt l:=by
  intro l
  induction l with
  |nil=>rfl
  |cons a r ih=>simp[ih]
 exact(this _).symm
noncomputable def ZAF (w:List Data):Nat->Ty->Pattern->List VarType
 |0,_,_=>[]
 |d+1,t,p=>(if p.op=2∨p.op=6 then[⟨p.var,t⟩]else[])++(((ZN w t p).zip p.kids).take (if p.op=5 then 1 else p.kids.length)).flatMap fun x=>ZAF w d x.1 x.2
theorem ZE7 {f:Ty×Pattern->List VarType}(hf:∀x,(f x).length<=1+x.2.wt):∀(ts:List Ty) (ks:List Pattern) (n:Nat),(((ts.zip ks).take n).flatMap f).length<=wtL Pattern.wt ks
 | [],ks,n=>by simp
 |t::ts,[],n=>by simp
 |t::ts,k::ks,0=>by simp
 |t::ts,k::ks,n+1=>by
  have h1:=ZE7 hf ts ks n
  have h2:=hf (t,k)
  simp only[List.zip_cons_cons,List.take_succ_cons,List.flatMap_cons,List.length_append,ZA0]at h1 h2 ⊢
  omega
theorem ZDC (w:List Data):∀(d:Nat) (t:Ty) (p:Pattern),(ZAF w d t p).length<=1+p.wt
 |0,t,p=>by simp[ZAF]
 |d+1,t,p=>by
  have:=ZE7 (f:=fun x=>ZAF w d x.1 x.2) (fun x=>ZDC w d x.1 x.2) (ZN w t p) p.kids (if p.op=5 then 1 else p.kids.length)
  rw[ZAF,List.length_append,p.wt_eq]
  have h1:(if p.op=2∨p.op=6 then[(⟨p.var,t⟩:VarType)]else[]).length<=1:=by split<;>simp
  omega
theorem ZCy {w:List Data}{p:Pattern}{ts:List Ty}(hl:p.kids.length=ts.length)(h5:p.op≠5){f:Ty×Pattern->List VarType}{L:List VarType->Nat->Option (List VarType)}
  (hL:∀out i,L out i=if i<ts.length then(if i=0 then ts[i]? >>=fun x=>p.kids[i]? >>=fun y=>F.f74 out w x y>>=fun v=>L v (i+1)else(if p.op=5 then some out else ts[i]? >>=fun x=>p.kids[i]? >>=fun y=>F.f74 out w x y>>=fun v=>L v (i+1)))else some out)
  (hf:∀x:Ty×Pattern,(f x).length<=1+x.2.wt)
  (ih:∀i (h:i<ts.length) (h':i<p.kids.length) (out:List VarType),out.length+(1+p.kids[i].wt)<=67108864->F.f74 out w ts[i] p.kids[i]=some (out++f (ts[i],p.kids[i]))):
  ∀(m i:Nat) (out:List VarType),ts.length-i=m->out.length+((p.kids.drop i).map fun k=>1+k.wt).sum<=67108864->L out i=some (out++((ts.zip p.kids).drop i).flatMap f):=by
 intro m
 induction m with
 |zero=>
  intro i out hm hb
  rw[hL,if_neg (by omega),List.drop_eq_nil_of_le (by simp;omega)];simp
 |succ m ihm=>
  intro i out hm hb
  have hi:i<ts.length:=by omega
  have hi':i<p.kids.length:=by omega
  rw[List.drop_eq_getElem_cons hi']at hb
  simp only[List.map_cons,List.sum_cons]at hb
  have e:(ts[i]? >>=fun x=>p.kids[i]? >>=fun y=>F.f74 out w x y>>=fun v=>L v (i+1))=some (out++((ts.zip p.kids).drop i).flatMap f):=by
   rw[gQ hi,gQ hi']
   simp only[oE,oS]
   rw[ih i hi hi' out (by omega)]
   simp only[oS]
   have:=hf (ts[i],p.kids[i])
   simp only at this
   rw[ihm (i+1) _ (by omega) (by rw[List.length_append];omega),List.drop_eq_getElem_cons (l:=ts.zip p.kids) (i:=i) (by simp;omega)]
   simp
  rw[hL,if_pos hi,if_neg h5,e]
  split<;>rfl
theorem ZAu {w:List Data}{t:Ty}{p:Pattern}(h:ZDo w t p)(h5:p.op=5):ZN w t p=[t,t]:=by unfold ZN;rw[if_neg (by omega),if_pos h5]
theorem P.YD (w:List Data)(hw:ZU w):∀(d:Nat) (t:Ty) (p:Pattern) (out:List VarType),ZZ w t->ZAX w d t p->out.length+(1+p.wt)<=67108864->F.f74 out w t p=some (out++ZAF w d t p)
 |0,t,p,out,ht,hs,hb=>hs.elim
 |d+1,t,p,out,ht,hs,hb=>by
  obtain⟨ho,hl,hk⟩:=hs
  have hts:=ZBQ hw ht ho
  have hsum:=ZJg p
  have ih:∀i (h:i<(ZN w t p).length) (h':i<p.kids.length) (out:List VarType),out.length+(1+p.kids[i].wt)<=67108864->F.f74 out w (ZN w t p)[i] p.kids[i]=some (out++(fun x:Ty×Pattern=>ZAF w d x.1 x.2) ((ZN w t p)[i],p.kids[i])):=
   fun i h h' out hb=>P.YD w hw d _ _ out (hts _ (gM h)) (hk i (by omega) h h h') hb
  have hf:∀x:Ty×Pattern,((fun x:Ty×Pattern=>ZAF w d x.1 x.2) x).length<=1+x.2.wt:=fun x=>ZDC w d x.1 x.2
  have full:∀n,p.kids.length<=n->((ZN w t p).zip p.kids).take n=(ZN w t p).zip p.kids:=fun n hn=>List.take_of_length_le (by simp;omega)
  rw[F.f74,P.YO w hw t (ZAO ht.1) p ho]
  simp only[oE,oS]
  by_cases h2:p.op=2
  ·rw[if_pos h2,if_pos (by omega),ZCy (f:=fun x=>ZAF w d x.1 x.2) (L:=F.f77 w p (ZN w t p)) hl (by omega) (fun out i=>by rw[F.f77]) hf ih _ 0 _ rfl (by simp at hsum ⊢;omega)]
   simp only[oS]
   rw[ZAF,if_pos (.inl h2),if_neg (by omega),full _ (Nat.le_refl _)];simp
  ·rw[if_neg h2]
   by_cases h6:p.op=6
   ·rw[if_pos h6,if_pos (by omega),ZCy (f:=fun x=>ZAF w d x.1 x.2) (L:=F.f75 w p (ZN w t p)) hl (by omega) (fun out i=>by rw[F.f75]) hf ih _ 0 _ rfl (by simp at hsum ⊢;omega)]
    simp only[oS]
    rw[ZAF,if_pos (.inr h6),if_neg (by omega),full _ (Nat.le_refl _)];simp
   ·rw[if_neg h6]
    by_cases h5:p.op=5
    ·have et:=ZAu ho h5
     rw[et]at hl
     have h0:0<p.kids.length:=by rw[hl];simp
     have h0':0<(ZN w t p).length:=by rw[et];simp
     have hw0:1+p.kids[0].wt<=p.wt:=by
      rw[hsum,List.drop_zero]
      obtain⟨a,r,e⟩:=List.exists_cons_of_length_pos h0
      simp[e]
     have e0:=ih 0 h0' h0 out (by omega)
     rw[F.f76,if_pos h0',if_pos rfl,gQ h0',gQ h0]
     simp only[oE,oS]
     rw[e0]
     simp only[oS]
     rw[F.f76,if_pos (by rw[et];simp),if_neg (by omega),if_pos h5]
     simp only[oS]
     rw[ZAF,if_neg (by omega),if_pos h5]
     have e1:((ZN w t p).zip p.kids).take 1=[((ZN w t p)[0],p.kids[0])]:=by
      obtain⟨a,r,e⟩:=List.exists_cons_of_length_pos h0
      obtain⟨b,r',e'⟩:=List.exists_cons_of_length_pos h0'
      simp[e,e']
     rw[e1];simp
    ·rw[ZCy (f:=fun x=>ZAF w d x.1 x.2) (L:=F.f76 w p (ZN w t p)) hl h5 (fun out i=>by rw[F.f76]) hf ih _ 0 _ rfl (by simp at hsum ⊢;omega)]
     simp only[oS]
     rw[ZAF,if_neg (by omega),if_neg h5,full _ (Nat.le_refl _)];simp
def ZKA (l:List VarType):Prop:=(l.map VarType.var).Nodup
def ZLR (a b:List VarType):Prop:=a.length=b.length/\∀x,x∈a->x∈b
theorem ZEO (l:List VarType):ZKA l↔∀i j (hi:i<l.length) (hj:j<l.length),i<j->l[i].var≠l[j].var:=by
 unfold ZKA List.Nodup
 rw[List.pairwise_map,List.pairwise_iff_getElem]
theorem ZDv {l:List VarType}{n:Int}(h:ZDb l n= -1):∀x,x∈l->x.var≠n:=by
 unfold ZDb at h
 cases hf:ZEU (fun x:VarType=>x.var=n) 0 l with
 |none=>exact ZBF hf
 |some j=>rw[hf]at h;simp only at h;omega
theorem ZMl {a b:VarType}(h:a.var=b.var)(h2:eq2 (a.type.data,a.type.index) (b.type.data,b.type.index)):a=b:=by
 obtain⟨v,d,i⟩:=a
 obtain⟨v',d',i'⟩:=b
 simp only[eq2]at h h2
 obtain⟨rfl,rfl⟩:=h2
 subst h;rfl
theorem P.Yh (l:List VarType):F.f82 l 0=some (if dec (ZKA l)=true then .go ()else .ret false):=by
 rw[ZG6 (n:=l.length) (r:=false) (Q:=fun j=>∀h:j<l.length,ZDb l l[j].var=(j:Int)) (L:=F.f82 l) (fun k hk=>by rw[F.f82,if_neg (by omega)])
  (fun k hk hq=>by
   rw[F.f82,if_pos hk,gQ hk]
   simp only[oE,oS,P.YK]
   rw[if_pos (hq hk)])
  (fun k hk hq=>by
   rw[F.f82,if_pos hk,gQ hk]
   simp only[oE,oS,P.YK]
   rw[if_neg fun h=>hq fun _=>h]) _ 0 rfl]
 congr 2
 rw[ZS]
 rw[ZEO]
 constructor
 ·intro h i j hi hj hij
  exact(ZDu l j hj).1 (h j (by omega) hj hj) i hi hij
 ·intro h j _ _ hj
  exact(ZDu l j hj).2 fun i hi hij=>h i j hi hj hij
theorem P.YAH (a b:List VarType)(hb:ZKA b):F.f81 a b=some (dec (ZLR a b)):=by
 unfold F.f81
 have step:∀k (hk:k<a.length),F.f80 a b k=if dec (a[k]∈b)=true then F.f80 a b (k+1)else some (.ret false):=by
  intro k hk
  rw[F.f80,if_pos hk,gQ hk]
  simp only[oE,oS,P.YK]
  rcases ZBl b a[k].var with h|⟨j,hj,h1,h2,h3⟩
  ·rw[if_pos (by omega),if_neg]
   rw[ZH fun hm=>ZDv h _ hm rfl];simp
  ·rw[if_neg (by omega),h1,ZG4,gQ hj]
   simp only[oS]
   by_cases he:eq2 (b[j].type.data,b[j].type.index) (a[k].type.data,a[k].type.index)
   ·rw[if_pos (ZI he),if_pos (ZI (by rw[←ZMl h2 he];exact gM hj))]
   ·rw[if_neg (by rw[ZH he];simp),if_neg]
    rw[ZH fun hm=> ?_];· simp
    obtain⟨i,hi,e⟩:=List.getElem_of_mem hm
    have hij:i=j:=by
     rw[ZEO]at hb
     rcases Nat.lt_trichotomy i j with hlt|heq|hlt
     ·exact absurd (by rw[e,h2]) (hb i j hi hj hlt)
     ·exact heq
     ·exact absurd (by rw[e,h2]) (hb j i hj hi hlt)
    subst hij
    exact he (by rw[e];exact⟨rfl,rfl⟩)
 rw[ZG6 (n:=a.length) (r:=false) (Q:=fun j=>∀h:j<a.length,a[j]∈b) (L:=F.f80 a b) (fun k hk=>by rw[F.f80,if_neg (by omega)])
  (fun k hk hq=>by rw[step k hk,if_pos (ZI (hq hk))])
  (fun k hk hq=>by rw[step k hk,if_neg (by rw[ZH fun h=>hq fun _=>h];simp)]) _ 0 rfl]
 simp only[oE,oS]
 by_cases h:∀j,0<=j->j<a.length->∀h:j<a.length,a[j]∈b
 ·rw[if_pos (ZI h),←ZAT]
  have hx:∀x,x∈a->x∈b:=fun x hx=>by obtain⟨j,hj,e⟩:=List.getElem_of_mem hx;rw[←e];exact h j (by omega) hj hj
  show some (dec (a.length=b.length))=some (dec (ZLR a b))
  congr 1;exact ZS ⟨fun hl=>⟨hl,hx⟩,fun hs=>hs.1⟩
 ·rw[if_neg (by rw[ZH h];simp),ZH fun hs=>h fun j _ hj _=>hs.2 _ (gM hj)]
def ZLn (w:List Data):Nat->Ty->Pattern->Prop
 |0,_,_=>False
 |d+1,t,p=>(∀i,0<=i->i<(ZN w t p).length->∀(h:i<(ZN w t p).length) (h':i<p.kids.length),ZLn w d (ZN w t p)[i] p.kids[i])/\
   if p.op=5 then(∀(h0:0<p.kids.length) (h1:1<p.kids.length),ZLR (ZAF w d t p.kids[0]) (ZAF w d t p.kids[1]))else ZKA (ZAF w (d+1) t p)
theorem ZJ3 {w:List Data}{d:Nat}{t:Ty}{p:Pattern}(ho:ZDo w t p)(h5:p.op=5)(h0:0<p.kids.length):ZAF w (d+1) t p=ZAF w d t p.kids[0]:=by
 have et:=ZAu ho h5
 rw[ZAF,if_neg (by omega),if_pos h5,et]
 obtain⟨a,r,e⟩:=List.exists_cons_of_length_pos h0
 simp[e]
theorem ZEK {w:List Data}:∀{d:Nat} {t:Ty} {p:Pattern},ZAX w d t p->ZLn w d t p->ZKA (ZAF w d t p)
 |0,t,p,hs,hl=>hs.elim
 |d+1,t,p,hs,hl=>by
  obtain⟨ho,hlen,hk⟩:=hs
  obtain⟨h1,h2⟩:=hl
  by_cases h5:p.op=5
  ·have et:=ZAu ho h5
   have h0:0<p.kids.length:=by rw[hlen,et];simp
   have h0':0<(ZN w t p).length:=by rw[et];simp
   rw[ZJ3 ho h5 h0]
   have e0:(ZN w t p)[0]=t:=by simp[et]
   have a:=hk 0 (Nat.le_refl _) h0' h0' h0
   have b:=h1 0 (Nat.le_refl _) h0' h0' h0
   rw[e0]at a b
   exact ZEK a b
  ·rw[if_neg h5]at h2;exact h2
theorem P.YU (w:List Data)(hw:ZU w):∀(d:Nat) (t:Ty) (p:Pattern),ZZ w t->ZAX w d t p->p.wt<=1048576->F.f83 w t p=some (dec (ZLn w d t p))
 |0,t,p,ht,hs,hb=>hs.elim
 |d+1,t,p,ht,hs,hb=>by
  have hs':=hs
  obtain⟨ho,hl,hk⟩:=hs
  have hts:=ZBQ hw ht ho
  have hsum:=p.wt_eq
  have hkw:∀k (h:k<p.kids.length),1+p.kids[k].wt<=p.wt:=fun k h=>by have:=Zf Pattern.wt (gM h);omega
  have ih:∀k (h:k<(ZN w t p).length) (h':k<p.kids.length),F.f83 w (ZN w t p)[k] p.kids[k]=some (dec (ZLn w d (ZN w t p)[k] p.kids[k])):=
   fun k h h'=>P.YU w hw d _ _ (hts _ (gM h)) (hk k (by omega) h h h') (by have:=hkw k h';omega)
  rw[F.f83,P.YO w hw t (ZAO ht.1) p ho]
  simp only[oE,oS]
  rw[ZG6 (n:=(ZN w t p).length) (r:=false) (Q:=fun i=>∀(h:i<(ZN w t p).length) (h':i<p.kids.length),ZLn w d (ZN w t p)[i] p.kids[i]) (L:=F.f84 w t p (ZN w t p))
   (fun k hk=>by rw[F.f84,if_neg (by omega)])
   (fun k hk hq=>by
    have hk':k<p.kids.length:=by omega
    rw[F.f84,if_pos hk,gQ hk,gQ hk']
    simp only[oE,oS]
    rw[ih k hk hk']
    simp only[oS]
    rw[if_pos (ZI (hq hk hk'))])
   (fun k hk hq=>by
    have hk':k<p.kids.length:=by omega
    rw[F.f84,if_pos hk,gQ hk,gQ hk']
    simp only[oE,oS]
    rw[ih k hk hk']
    simp only[oS]
    rw[if_neg (by rw[ZH fun h=>hq fun _ _=>h];simp)]) _ 0 rfl]
  simp only[oS]
  by_cases hall:∀i,0<=i->i<(ZN w t p).length->∀(h:i<(ZN w t p).length) (h':i<p.kids.length),ZLn w d (ZN w t p)[i] p.kids[i]
  ·rw[if_pos (ZI hall)]
   simp only
   by_cases h5:p.op=5
   ·have et:=ZAu ho h5
    have h0:0<p.kids.length:=by rw[hl,et];simp
    have h1:1<p.kids.length:=by rw[hl,et];simp
    have h0':0<(ZN w t p).length:=by rw[et];simp
    have h1':1<(ZN w t p).length:=by rw[et];simp
    have e0:(ZN w t p)[0]=t:=by simp[et]
    have e1:(ZN w t p)[1]=t:=by simp[et]
    have a0:=hk 0 (Nat.le_refl _) h0' h0' h0
    have a1:=hk 1 (by omega) h1' h1' h1
    have b1:=hall 1 (by omega) h1' h1' h1
    rw[e0]at a0
    rw[e1]at a1 b1
    rw[if_pos h5,gQ h0,gQ h1]
    simp only[oS]
    rw[P.YD w hw d t _ [] ht a0 (by have:=hkw 0 h0;simp;omega),P.YD w hw d t _ [] ht a1 (by have:=hkw 1 h1;simp;omega)]
    simp only[oS,List.nil_append]
    rw[P.YAH _ _ (ZEK a1 b1)]
    simp only[oS]
    congr 1
    refine ZS ⟨fun h=>⟨hall,?_⟩,fun h=> ?_⟩
    ·rw[if_pos h5];exact fun _ _=>h
    ·have:=h.2;rw[if_pos h5]at this;exact this h0 h1
   ·rw[if_neg h5,P.YD w hw (d+1) t p [] ht hs' (by simp;omega)]
    simp only[oS,List.nil_append]
    rw[P.Yh]
    simp only[oS]
    by_cases hn:ZKA (ZAF w (d+1) t p)
    ·rw[if_pos (ZI hn),ZI ⟨hall,by rw[if_neg h5];exact hn⟩]
    ·rw[if_neg (by rw[ZH hn];simp),ZH fun h=>hn (by have:=h.2;rwa[if_neg h5]at this)]
  ·rw[if_neg (by rw[ZH hall];simp),ZH fun h=>hall h.1]
theorem ZGc {f:Ty×Pattern->List VarType}{x:VarType}:∀{ts:List Ty} {ks:List Pattern} {n:Nat},x∈(((ts.zip ks).take n).flatMap f)->∃i,∃(h:i<ts.length) (h':i<ks.length),x∈f (ts[i],ks[i])
 | [],ks,n,h=>by simp at h
 |t::ts,[],n,h=>by simp at h
 |t::ts,k::ks,0,h=>by simp at h
 |t::ts,k::ks,n+1,h=>by
  simp only[List.zip_cons_cons,List.take_succ_cons,List.flatMap_cons,List.mem_append]at h
  rcases h with h|h
  ·exact⟨0,by simp,by simp,by simpa using h⟩
  ·obtain⟨i,h1,h2,h3⟩:=ZGc h
   exact⟨i+1,by simpa using h1,by simpa using h2,by simpa using h3⟩
theorem ZGq {w:List Data}(hw:ZU w):∀{d:Nat} {t:Ty} {p:Pattern},ZZ w t->ZAX w d t p->∀x,x∈ZAF w d t p->0<=x.var/\x.var<=5/\ZZ w x.type
 |0,t,p,ht,hs=>hs.elim
 |d+1,t,p,ht,hs=>by
  obtain⟨ho,hl,hk⟩:=hs
  intro x hx
  rw[ZAF,List.mem_append]at hx
  rcases hx with hx|hx
  ·split at hx
   ·next h=>
    simp at hx;subst hx
    unfold ZDo at ho
    refine⟨?_,?_,ht⟩<;>simp only<;>omega
   ·cases hx
  ·obtain⟨i,h,h',hm⟩:=ZGc hx
   exact ZGq hw (ZBQ hw ht ho _ (gM h)) (hk i (by omega) h h h') x hm
def ZDB (w:List Data)(t:Ty)(p:Pattern):Prop:=ZAX w 10 t p/\ZLn w 10 t p/\1+p.wt<=60
theorem P.YAD (w:List Data)(hw:ZU w)(t:Ty)(ht:ZZ w t)(p:Pattern)(hp:p.wt<=1048576):F.f85 w t p=some (dec (ZDB w t p)):=by
 unfold F.f85
 have e10:F.f70 w t p 10=some (dec (ZAX w 10 t p)):=P.YP w hw 10 t p ht (by omega)
 rw[e10]
 simp only[oE,oS]
 by_cases h1:ZAX w 10 t p
 ·rw[if_pos (ZI h1)]
  obtain⟨c,g1,g2,g3,g4,g5⟩:=P.YAl p hp 60 (by omega)
  have g1':F.f72 p 60=some (c:Int):=g1
  rw[g1']
  simp only[oS]
  by_cases hc:1+p.wt<=60
  ·rw[if_pos (by have:=g4 hc;omega),P.YU w hw 10 t p ht h1 hp]
   simp only[oS]
   congr 1;exact ZS ⟨fun h=>⟨h1,h,hc⟩,fun h=>h.2.1⟩
  ·rw[if_neg (by have:=g5 (by omega);omega),ZH fun h=>hc h.2.2]
 ·rw[if_neg (by rw[ZH h1];simp),ZH fun h=>h1 h.1]
def gOk (g:Guard)(vs:List VarType):Prop:=(g.op=0/\g.var=0/\g.n=0)∨((g.op=1∨g.op=2)/\0<=g.n/\g.n<=9/\(⟨g.var,⟨-1,0⟩⟩:VarType)∈vs)
theorem P.YAG (w:List Data)(g:Guard)(vs:List VarType)(hn:ZKA vs)(ht:∀x,x∈vs->ZZ w x.type):F.f102 g vs=some (dec (gOk g vs)):=by
 unfold F.f102
 have key:g.op=1∨g.op=2->(if g.n<0 then some false else if 9<g.n then some false else(F.f79 vs g.var)>>=fun v21=>if 0<=v21 then(at? vs v21)>>=fun x25=>some (decide (x25.type.data=(-1)))else some false)=some (dec (gOk g vs)):=by
  intro hop
  by_cases a1:g.n<0
  ·rw[if_pos a1,ZH];rintro(h|h)<;>omega
  rw[if_neg a1]
  by_cases a2:9<g.n
  ·rw[if_pos a2,ZH];rintro(h|h)<;>omega
  rw[if_neg a2,P.YK]
  simp only[oE,oS]
  rcases ZBl vs g.var with h|⟨j,hj,h1,h2,h3⟩
  ·rw[if_neg (by omega),ZH]
   rintro(h'|h')
   ·omega
   ·exact ZDv h _ h'.2.2.2 rfl
  ·rw[if_pos (by omega),h1,ZG4,gQ hj]
   simp only[oS]
   rw[←ZAT];congr 1
   refine ZS ⟨fun h=>.inr ⟨hop,by omega,by omega,?_⟩,fun h=> ?_⟩
   ·have hty:=ht _ (gM hj)
    have hi:vs[j].type.index=0:=by unfold ZZ ZEd at hty;omega
    have:(⟨g.var,⟨-1,0⟩⟩:VarType)=vs[j]:=ZMl (by simp[h2]) ⟨by simp[h],by simp[hi]⟩
    rw[this];exact gM hj
   ·rcases h with h|h
    ·omega
    ·obtain⟨i,hi,e⟩:=List.getElem_of_mem h.2.2.2
     have hij:i=j:=by
      rw[ZEO]at hn
      rcases Nat.lt_trichotomy i j with hlt|heq|hlt
      ·exact absurd (by rw[e,h2]) (hn i j hi hj hlt)
      ·exact heq
      ·exact absurd (by rw[e,h2]) (hn j i hj hi hlt)
     subst hij
     rw[e]
 by_cases h0:g.op=0
 ·rw[if_pos h0]
  by_cases h1:g.var=0
  ·rw[if_pos h1,←ZAT];congr 1;refine ZS ⟨fun h=>.inl ⟨h0,h1,h⟩,fun h=> ?_⟩
   rcases h with h|h
   ·exact h.2.2
   ·omega
  ·rw[if_neg h1,ZH];rintro(h|h)<;>omega
 ·rw[if_neg h0]
  by_cases h1:g.op=1
  ·rw[if_pos h1];exact key (.inl h1)
  ·rw[if_neg h1]
   by_cases h2:g.op=2
   ·rw[if_pos h2];exact key (.inr h2)
   ·rw[if_neg h2,ZH];rintro(h|h)<;>omega
def ZMf (w:List Data)(t:Ty)(c:Clause):Prop:=ZDB w t c.pat/\gOk c.guard (ZAF w 10 t c.pat)
theorem P.YAj (w:List Data)(hw:ZU w)(t:Ty)(ht:ZZ w t)(c:Clause)(hp:c.pat.wt<=1048576):F.f103 w t c=some (dec (ZMf w t c)):=by
 unfold F.f103
 rw[P.YAD w hw t ht _ hp]
 simp only[oE,oS]
 by_cases h:ZDB w t c.pat
 ·rw[if_pos (ZI h),P.YD w hw 10 t c.pat [] ht h.1 (by simp;omega)]
  simp only[oS,List.nil_append]
  rw[P.YAG w _ _ (ZEK h.1 h.2.1) (fun x hx=>(ZGq hw ht h.1 x hx).2.2)]
  simp only[oS]
  congr 1;exact ZS ⟨fun g=>⟨h,g⟩,fun g=>g.2⟩
 ·rw[if_neg (by rw[ZH h];simp),ZH fun g=>h g.1]
def ZOv (v:Int):Nat->Pattern->Prop
 |0,_=>False
 |d+1,p=>(∃i,∃h:i<p.kids.length,ZOv v d p.kids[i])∨((p.op=2∨p.op=6)/\p.var=v)
theorem ZBX (a b c d e:Int):(⟨a,b,c,d,e,[]⟩:Pattern).wt=0:=by rw[Pattern.wt_eq];rfl
theorem ZMj (a b c d e:Int)(k:Pattern):(⟨a,b,c,d,e,[k]⟩:Pattern).wt=1+k.wt:=by rw[Pattern.wt_eq];simp
theorem ZMi (a b c d e:Int)(k l:Pattern):(⟨a,b,c,d,e,[k,l]⟩:Pattern).wt=2+k.wt+l.wt:=by rw[Pattern.wt_eq];simp;omega
theorem ZIJ {α:Type}(f:α->Nat):∀(l:List α) (i:Nat) (h:i<l.length) (x:α),wtL f (l.set i x)+f l[i]=wtL f l+f x
 |a::l,0,h,x=>by simp;omega
 |a::l,i+1,h,x=>by
  have:=ZIJ f l i (by simpa using h) x
  simp;omega
def hv (d:Nat)(p:Pattern):Prop:=∃v,ZOv v d p
def ZOw (w:List Data)(t:Ty)(l:List Clause):Prop:=ZCz w t/\l.length<=8/\∀c,c∈l->ZMf w t c
theorem P.Yd (w:List Data)(hw:ZBA w)(t:Ty)(l:List Clause)(hp:∀c,c∈l->c.pat.wt<=1048576):F.f105 w t l=some (dec (ZOw w t l)):=by
 unfold F.f105
 rw[P.Yq w t hw]
 simp only[oE,oS]
 by_cases h1:ZCz w t
 ·rw[if_pos (ZI h1)]
  by_cases h2:8<l.length
  ·rw[if_pos h2,ZH fun h=>by have:=h.2.1;omega]
  ·rw[if_neg h2]
   have hl:∀k,k<=l.length->F.f104 w t l (l.length-k)=some (if dec (∀c,c∈l.drop (l.length-k)->ZMf w t c)=true then .go ()else .ret false):=by
    intro k
    induction k with
    |zero=>intro _;rw[F.f104,if_neg (by omega),if_pos (ZI fun c hc=>by simp at hc)]
    |succ k ih=>
     intro hk
     have hi:l.length- (k+1)<l.length:=by omega
     rw[F.f104,if_pos hi,gQ hi]
     simp only[oE,oS]
     rw[P.YAj w h1.1 t h1.2 _ (hp _ (gM hi))]
     simp only[oS]
     have e1:l.length- (k+1)+1=l.length-k:=by omega
     have e2:l.drop (l.length- (k+1))=l[l.length- (k+1)]::l.drop (l.length-k):=by rw[List.drop_eq_getElem_cons hi,e1]
     by_cases hc:ZMf w t l[l.length- (k+1)]
     ·rw[if_pos (ZI hc),e1,ih (by omega),e2]
      rw[ZS (q:=∀c,c∈l[l.length- (k+1)]::l.drop (l.length-k)->ZMf w t c) ⟨fun h c hc'=>by
       rcases List.mem_cons.1 hc' with rfl|hc'
       ·exact hc
       ·exact h c hc',fun h c hc'=>h c (List.mem_cons_of_mem _ hc')⟩]
     ·rw[if_neg (by rw[ZH hc];simp),e2,if_neg (by rw[ZH fun h=>hc (h _ (List.mem_cons_self ..))];simp)]
   have:=hl l.length (Nat.le_refl _)
   rw[Nat.sub_self,List.drop_zero]at this
   rw[this]
   simp only[oS]
   by_cases h3:∀c,c∈l->ZMf w t c
   ·rw[if_pos (ZI h3)];simp only;rw[ZI ⟨h1,by omega,h3⟩]
   ·rw[if_neg (by rw[ZH h3];simp)];simp only;rw[ZH fun h=>h3 h.2.2]
 ·rw[if_neg (by rw[ZH h1];simp),ZH fun h=>h1 h.1]
theorem P.Yu {w:List Data}{d e:Nat}{as:List Ty}{depth x:Int}(hd:i64.wrap (depth-1)=(d:Int))
  (ih:∀a,a∈as->∀K r,rok K r->K+e<=1099511627776->∃p r',F.f59 r w a (d:Int)=some (p,r')/\rok (K+e) r'/\p.wt+1<=e):
  ∀(k K:Nat) (z:List Int) (z32:Int) (out:List Pattern),k<=as.length->rok K ⟨z,z32⟩->K+k*e<=1099511627776->out.length+k<=67108864->
   ∃z' z32' out',F.f60 w depth x as z z32 out (as.length-k)=some (z',z32',out')/\rok (K+k*e) ⟨z',z32'⟩/\wtL Pattern.wt out'<=wtL Pattern.wt out+k*e
 |0,K,z,z32,out,hk,hr,hK,ho=>by
  rw[F.f60,if_neg (by omega)]
  exact⟨z,z32,out,rfl,hr.mono (by omega),by omega⟩
 |k+1,K,z,z32,out,hk,hr,hK,ho=>by
  have hi:as.length- (k+1)<as.length:=by omega
  rw[Nat.add_mul,Nat.one_mul]at hK
  obtain⟨p,r1,e1,h1,h2⟩:=ih _ (gM hi) K ⟨z,z32⟩ hr (by omega)
  obtain⟨z',z32',out',f1,f2,f3⟩:=P.Yu hd ih k (K+e) r1.f0 r1.f1 (out++[p]) (by omega) h1 (by omega) (by simp;omega)
  rw[F.f60,if_pos hi,gQ hi]
  simp only[oE,oS]
  rw[hd,e1]
  simp only[oS]
  rw[if_pos (by omega)]
  have ei:as.length- (k+1)+1=as.length-k:=by omega
  rw[ei]
  refine⟨z',z32',out',f1,f2.mono (by rw[Nat.add_mul];omega),?_⟩
  have:wtL Pattern.wt (out++[p])=wtL Pattern.wt out+(1+p.wt):=by simp[wtL];omega
  rw[Nat.add_mul];omega
theorem P.YAt {w:List Data}(hw:ZU w):∀(d:Nat) (t:Ty) (K:Nat) (r:ZE),ZZ w t->d<=12->rok K r->K+8^d<=1099511627776->
  ∃p r',F.f59 r w t (d:Int)=some (p,r')/\rok (K+8^d) r'/\p.wt+1<=8^d
 |0,t,K,r,ht,hd,hr,hK=>by
  rw[F.f59,if_pos (by omega)]
  exact⟨_,_,rfl,hr.mono (by omega),by rw[ZBX];simp⟩
 |1,t,K,r,ht,hd,hr,hK=>by
  rw[F.f59,if_pos (by omega)]
  exact⟨_,_,rfl,hr.mono (by omega),by rw[ZBX];simp⟩
 |d+2,t,K,r,ht,hd,hr,hK=>by
  have hpos:1<=8^d:=Nat.pow_pos (show 0<8 by omega)
  have e8:8^ (d+2)=64*8^d:=by rw[Nat.pow_succ,Nat.pow_succ];omega
  have e7:8^ (d+1)=8*8^d:=by rw[Nat.pow_succ];omega
  have hwr:i64.wrap (((d+2:Nat):Int) -1)=((d+1:Nat):Int):=by rw[ZG (by omega) (by omega)];omega
  have ih:=fun(a:Ty) (ha:ZZ w a) (K:Nat) (r:ZE) hr hK=>P.YAt hw (d+1) a K r ha (by omega) hr hK
  rw[e8]at hK ⊢
  rw[e7]at ih
  generalize 8^d=q at hpos hK ih ⊢
  rw[F.f59,if_neg (by omega)]
  obtain⟨v1,r1,e1,h1,a1,b1,_⟩:=P.YI hr (by omega) 4
  rw[e1]
  simp only[oE,oS]
  split
  ·exact⟨_,_,rfl,h1.mono (by omega),by rw[ZBX];omega⟩
  obtain⟨v2,r2,e2,h2,a2,b2,_⟩:=P.YI h1 (by omega) 6
  rw[e2]
  simp only[oS]
  split
  ·rw[hwr]
   obtain⟨p1,r3,e3,h3,w3⟩:=ih t ht _ r2 h2 (by omega)
   obtain⟨p2,r4,e4,h4,w4⟩:=ih t ht _ r3 h3 (by omega)
   rw[e3]
   simp only[oS]
   rw[e4]
   exact⟨_,_,rfl,h4.mono (by omega),by rw[ZMi];show 2+p1.wt+p2.wt+1<=_;omega⟩
  ·split
   ·obtain⟨v3,r3,e3,h3,a3,b3,_⟩:=P.YI h2 (by omega) 10
    obtain⟨v4,r4,e4,h4,a4,b4,_⟩:=P.YI h3 (by omega) (i64.wrap (10-v3))
    obtain⟨v5,r5,e5,h5,a5,b5,_⟩:=P.YI h4 (by omega) 2
    rw[e3]
    simp only[oS]
    rw[e4]
    simp only[oS]
    rw[e5]
    exact⟨_,_,rfl,h5.mono (by omega),by rw[ZBX];omega⟩
   ·next hn=>
    rw[P.YH w hw t (ZAO ht.1)]
    simp only[oS]
    split
    ·exact⟨_,_,rfl,h2.mono (by omega),by rw[ZBX];omega⟩
    ·next hl=>
     obtain⟨v3,r3,e3,h3,a3,b3,_⟩:=P.YI h2 (by omega) ((ZP w t).length:Int)
     have b3:=b3 (by omega)
     obtain⟨c,hc,hm⟩:=ZD0 a3 b3
     rw[e3]
     simp only[oS]
     rw[hc]
     simp only[oS]
     rw[P.YB w hw t (ZAO ht.1) c hm]
     simp only[oS]
     have hal:(ZQ w t c).length<=3:=by
      have:=(Zs hw (ZAO ht.1) (Za hm).1).2 _ (ZCZ hm).2
      unfold ZQ;rw[List.length_map];exact this.2.1
     have hmul:(ZQ w t c).length*(8*q)<=3*(8*q):=Nat.mul_le_mul_right _ hal
     obtain⟨z',z32',out',f1,f2,f3⟩:=P.Yu (x:=c) hwr (fun a ha K r hr hK=>ih a (ZBS hw ht hm a ha) K r hr hK) (ZQ w t c).length _ r3.f0 r3.f1 [] (Nat.le_refl _) h3 (by omega) (by simp;omega)
     rw[Nat.sub_self]at f1
     rw[f1]
     refine⟨_,_,rfl,f2.mono (by omega),?_⟩
     rw[Pattern.wt_eq]
     simp at f3
     show wtL Pattern.wt out'+1<=_
     omega
theorem P.Ya {p:Pattern}{L:List Int->Int->List Pattern->Nat->Int->Option ((List Int)×Int×(List Pattern)×Int)}
  (hL:∀z z12 out i next,L z z12 out i next=if i<p.kids.length then
   (p.kids[i]?)>>=fun x=>
   (F.f61 (⟨z,z12⟩:ZE) x next)>>=fun v17=>
   if out.length+1<=67108864 then
    L v17.2.2.f0 v17.2.2.f1 (out++[v17.1]) (i+1) v17.2.1
   else none
  else
   some (z,z12,out,next))
  (ih:∀k,k∈p.kids->∀(n:Int) (K:Nat) (r:ZE),0<=n->n<=7->rok K r->K+3*(1+k.wt)<=1099511627776->k.wt<=1048576->
   ∃p' n' r',F.f61 r k n=some (p',n',r')/\rok (K+3*(1+k.wt)) r'/\0<=n'/\n'<=7/\p'.wt+1<=2*(1+k.wt)):
  ∀(k K:Nat) (z:List Int) (z12:Int) (out:List Pattern) (next:Int),k<=p.kids.length->rok K ⟨z,z12⟩->K+3*wtL Pattern.wt (p.kids.drop (p.kids.length-k))<=1099511627776->wtL Pattern.wt p.kids<=1048576->out.length+k<=67108864->0<=next->next<=7->
   ∃z' z12' out' next',L z z12 out (p.kids.length-k) next=some (z',z12',out',next')/\rok (K+3*wtL Pattern.wt (p.kids.drop (p.kids.length-k))) ⟨z',z12'⟩/\0<=next'/\next'<=7/\
    wtL Pattern.wt out'<=wtL Pattern.wt out+2*wtL Pattern.wt (p.kids.drop (p.kids.length-k))
 |0,K,z,z12,out,next,hk,hr,hK,hb,ho,n0,n7=>by
  rw[hL,if_neg (by omega)]
  exact⟨z,z12,out,next,rfl,hr.mono (by omega),n0,n7,by omega⟩
 |k+1,K,z,z12,out,next,hk,hr,hK,hb,ho,n0,n7=>by
  have hi:p.kids.length- (k+1)<p.kids.length:=by omega
  have ei:p.kids.length- (k+1)+1=p.kids.length-k:=by omega
  have hd:p.kids.drop (p.kids.length- (k+1))=p.kids[p.kids.length- (k+1)]::p.kids.drop (p.kids.length-k):=by rw[List.drop_eq_getElem_cons hi,ei]
  have hm:=Zf Pattern.wt (gM hi)
  rw[hd,ZA0]at hK ⊢
  obtain⟨p',n',r1,e1,h1,q1,q2,q3⟩:=ih _ (gM hi) next K ⟨z,z12⟩ n0 n7 hr (by omega) (by omega)
  obtain⟨z',z12',out',next',f1,f2,f3,f4,f5⟩:=P.Ya hL ih k _ r1.f0 r1.f1 (out++[p']) n' (by omega) h1 (by omega) hb (by simp;omega) q1 q2
  rw[hL,if_pos hi,gQ hi]
  simp only[oE,oS]
  rw[e1]
  simp only[oS]
  rw[if_pos (by omega),ei]
  refine⟨z',z12',out',next',f1,f2.mono (by omega),f3,f4,?_⟩
  have:wtL Pattern.wt (out++[p'])=wtL Pattern.wt out+(1+p'.wt):=by simp[wtL];omega
  omega
theorem P.YBO (p : Pattern) : ∀ (n : Int) (K : Nat) (r : ZE), 0 <= n -> n <= 7 -> rok K r -> K + 3 * (1 + p.wt) <= 1099511627776 -> p.wt <= 1048576 ->
   ∃p' n' r',F.f61 r p n=some (p',n',r')/\rok (K+3*(1+p.wt)) r'/\0<=n'/\n'<=7/\p'.wt+1<=2*(1+p.wt):=by
 induction p using Pattern.ind with
 |_ p ih=>
  intro n K r n0 n7 hr hK hb
  have hwt:=p.wt_eq
  have hlen:=Zh Pattern.wt p.kids
  have same:p.wt+1<=2*(1+p.wt):=by omega
  rw[F.f61]
  split
  ·exact⟨_,_,_,rfl,hr.mono (by omega),n0,n7,same⟩
  split
  ·exact⟨_,_,_,rfl,hr.mono (by omega),n0,n7,same⟩
  split
  ·exact⟨_,_,_,rfl,hr.mono (by omega),n0,n7,same⟩
  have tail:∀(K':Nat) (z':List Int) (z12':Int) (out':List Pattern) (next':Int),rok K' ⟨z',z12'⟩->K'+1<=K+3*(1+p.wt)->0<=next'->next'<=7->wtL Pattern.wt out'<=2*p.wt->
    ∃p' n' r',(if next'<=5 then
     (F.f1 (⟨z',z12'⟩:ZE) 6).bind fun v24=>
     if v24.1=0 then
      some ((⟨6,0,0,0,next',[(⟨p.op,p.ctor,p.n,p.m,p.var,out'⟩:Pattern)]⟩:Pattern),i64.wrap (next'+1),v24.2)
     else
      some ((⟨p.op,p.ctor,p.n,p.m,p.var,out'⟩:Pattern),next',v24.2)
    else
     some ((⟨p.op,p.ctor,p.n,p.m,p.var,out'⟩:Pattern),next',(⟨z',z12'⟩:ZE)))=some (p',n',r')/\rok (K+3*(1+p.wt)) r'/\0<=n'/\n'<=7/\p'.wt+1<=2*(1+p.wt):=by
   intro K' z' z12' out' next' hr' hK' m0 m7 hout
   have hown:(⟨p.op,p.ctor,p.n,p.m,p.var,out'⟩:Pattern).wt=wtL Pattern.wt out':=by rw[Pattern.wt_eq]
   split
   ·obtain⟨v,r1,e1,h1,a1,b1,_⟩:=P.YI hr' (by omega) 6
    rw[e1]
    simp only[oS]
    have hwn:i64.wrap (next'+1)=next'+1:=ZG (by omega) (by omega)
    rw[hwn]
    split
    ·refine⟨_,_,_,rfl,h1.mono (by omega),by omega,by omega,?_⟩
     rw[ZMj,hown];omega
    ·refine⟨_,_,_,rfl,h1.mono (by omega),by omega,by omega,?_⟩
     rw[hown];omega
   ·refine⟨_,_,_,rfl,hr'.mono (by omega),m0,m7,?_⟩
    rw[hown];omega
  split
  ·obtain⟨v,r1,e1,h1,a1,b1,_⟩:=P.YI hr (by omega) 2
   rw[e1]
   simp only[oE,oS]
   have hwn:i64.wrap (n+1)=n+1:=ZG (by omega) (by omega)
   split
   ·rw[hwn]
    exact⟨_,_,_,rfl,h1.mono (by omega),by omega,by omega,by rw[ZBX];omega⟩
   ·obtain⟨z',z12',out',next',f1,f2,f3,f4,f5⟩:=P.Ya (p:=p) (L:=F.f62 p n) (fun z z12 out i next=>by rw[F.f62]) ih p.kids.length _ r1.f0 r1.f1 [] n (Nat.le_refl _) h1 (by rw[Nat.sub_self,List.drop_zero];omega) (by omega) (by simp;omega) n0 n7
    rw[Nat.sub_self]at f1;rw[Nat.sub_self,List.drop_zero]at f2 f5
    rw[f1]
    simp only[oS]
    simp at f5
    exact tail _ z' z12' out' next' f2 (by omega) f3 f4 (by omega)
  ·obtain⟨z',z12',out',next',f1,f2,f3,f4,f5⟩:=P.Ya (p:=p) (L:=F.f63 p n) (fun z z12 out i next=>by rw[F.f63]) ih p.kids.length _ r.f0 r.f1 [] n (Nat.le_refl _) hr (by rw[Nat.sub_self,List.drop_zero];omega) (by omega) (by simp;omega) n0 n7
   rw[Nat.sub_self]at f1;rw[Nat.sub_self,List.drop_zero]at f2 f5
   rw[f1]
   simp only[oE,oS]
   simp at f5
   exact tail _ z' z12' out' next' f2 (by omega) f3 f4 (by omega)
theorem ZN3 (w:List Data)(t:Ty):ZDB w t ⟨1,0,0,0,0,[]⟩:=by
 have hp:ZN w t ⟨1,0,0,0,0,[]⟩=[]:=by simp[ZN]
 refine⟨⟨.inl ⟨rfl,rfl,rfl,rfl,rfl⟩,by rw[hp];rfl,fun i _ h=>by rw[hp]at h;simp at h⟩,⟨fun i _ h=>by rw[hp]at h;simp at h,?_⟩,by rw[ZBX];omega⟩
 rw[if_neg (by simp)]
 simp[ZKA,ZAF]
theorem P.YBN {w:List Data}(hw:ZU w){t:Ty}(ht:ZZ w t){K:Nat}{r:ZE}(hr:rok K r)(hK:K+20000<=1099511627776):∃p r',F.f86 r w t=some (p,r')/\rok (K+20000) r'/\ZDB w t p:=by
 unfold F.f86
 obtain⟨v,r1,e1,h1,hv⟩:=P.num hr (by omega) [3,2,4,1] (by simp)
 obtain⟨d,rfl,hd⟩:∃d:Nat,v=(d:Int)/\d<=4:=by
  simp at hv
  exact⟨v.toNat,by omega,by omega⟩
 have h8:8^d<=4096:=Nat.le_trans (Nat.pow_le_pow_right (n:=8) (by omega) hd) (by decide)
 obtain⟨p,r2,e2,h2,hp⟩:=P.YAt hw d t _ r1 ht (by omega) h1 (by omega)
 obtain⟨q,n,r3,e3,h3,_,_,hq⟩:=P.YBO p 0 _ r2 (by omega) (by omega) h2 (by omega) (by omega)
 rw[e1]
 simp only[oE,oS]
 rw[e2]
 simp only[oS]
 rw[e3]
 simp only[oS]
 rw[P.YAD w hw t ht q (by omega)]
 simp only[oS]
 by_cases h:ZDB w t q
 ·rw[if_pos (ZI h)]
  exact⟨_,_,rfl,h3.mono (by omega),h⟩
 ·rw[if_neg (by rw[ZH h];simp)]
  exact⟨_,_,rfl,h3.mono (by omega),ZN3 w t⟩
theorem P.YJ (v:Pattern×ZE)(vs:List VarType):∀(k K:Nat) (z:List Int) (z4 z5 z6 z7:Int),k<=vs.length->rok K ⟨z,z4⟩->K+3*k<=1099511627776->
  ∃z' z4' z5' z6' z7',F.f87 v z z4 z5 z6 z7 vs (vs.length-k)=some (z',z4',z5',z6',z7')/\rok (K+3*k) ⟨z',z4'⟩
 |0,K,z,z4,z5,z6,z7,hk,hr,hK=>by
  rw[F.f87,if_neg (by omega)]
  exact⟨z,z4,z5,z6,z7,rfl,hr.mono (by omega)⟩
 |k+1,K,z,z4,z5,z6,z7,hk,hr,hK=>by
  have hi:vs.length- (k+1)<vs.length:=by omega
  have ei:vs.length- (k+1)+1=vs.length-k:=by omega
  rw[F.f87,if_pos hi,gQ hi]
  simp only[oE,oS]
  rw[ei]
  split
  ·obtain⟨v1,r1,e1,h1,_⟩:=P.YI hr (by omega) 2
   rw[e1]
   simp only[oS]
   split
   ·obtain⟨v2,r2,e2,h2,_⟩:=P.YI h1 (by omega) 2
    obtain⟨v3,r3,e3,h3,_⟩:=P.YI h2 (by omega) 10
    rw[e2]
    simp only[oS]
    rw[e3]
    simp only[oS]
    obtain⟨a,b,c,d,e,f1,f2⟩:=P.YJ v vs k _ r3.f0 r3.f1 (i64.wrap (1+v2)) (vs[vs.length- (k+1)]).var v3 (by omega) h3 (by omega)
    exact⟨a,b,c,d,e,f1,f2.mono (by omega)⟩
   ·obtain⟨a,b,c,d,e,f1,f2⟩:=P.YJ v vs k _ r1.f0 r1.f1 z5 z6 z7 (by omega) h1 (by omega)
    exact⟨a,b,c,d,e,f1,f2.mono (by omega)⟩
  ·obtain⟨a,b,c,d,e,f1,f2⟩:=P.YJ v vs k _ z z4 z5 z6 z7 (by omega) hr (by omega)
   exact⟨a,b,c,d,e,f1,f2.mono (by omega)⟩
theorem P.YAr {w:List Data}(hw:ZU w){t:Ty}(ht:ZZ w t){K:Nat}{r:ZE}(hr:rok K r)(hK:K+21000<=1099511627776):∃c r',F.f88 r w t=some (c,r')/\rok (K+21000) r'/\ZDB w t c.pat:=by
 unfold F.f88
 obtain⟨p,r1,e1,h1,hp⟩:=P.YBN hw ht hr (by omega)
 rw[e1]
 simp only[oE,oS]
 have hl:=ZDC w 10 t p
 have hb:=hp.2.2
 rw[P.YD w hw 10 t p [] ht hp.1 (by simp;omega)]
 simp only[oS,List.nil_append]
 obtain⟨a,b,c,d,e,f1,f2⟩:=P.YJ (p,r1) (ZAF w 10 t p) (ZAF w 10 t p).length _ r1.f0 r1.f1 0 0 0 (Nat.le_refl _) h1 (by omega)
 rw[Nat.sub_self]at f1
 rw[f1]
 exact⟨_,_,rfl,f2.mono (by omega),hp⟩
theorem P.YAP {K:Nat}{r:ZE}(hr:rok K r)(hK:K+2<=1099511627776)(p:Pattern)(hp:p.wt<=1048576):∃p' r',F.f93 r p=some (p',r')/\rok (K+2) r'/\p'.wt<=p.wt+1:=by
 have hwt:=p.wt_eq
 have hlen:=Zh Pattern.wt p.kids
 have own:∀(a b c d e:Int) (ks:List Pattern),(⟨a,b,c,d,e,ks⟩:Pattern).wt=wtL Pattern.wt ks:=fun a b c d e ks=>by rw[Pattern.wt_eq]
 unfold F.f93
 rw[if_pos (by omega)]
 obtain⟨v,r1,e1,h1,_⟩:=P.YI hr (by omega) 30
 rw[e1]
 simp only[oE,oS]
 split
 ·obtain⟨v2,r2,e2,h2,_⟩:=P.num h1 (by omega) [0,7,1,2,5] (by simp)
  rw[e2];exact⟨_,_,rfl,h2,by rw[own];omega⟩
 split
 ·obtain⟨v2,r2,e2,h2,_⟩:=P.num h1 (by omega) [6,-1,1] (by simp)
  rw[e2];exact⟨_,_,rfl,h2,by rw[own];omega⟩
 split
 ·obtain⟨v2,r2,e2,h2,_⟩:=P.num h1 (by omega) [9,-1,1] (by simp)
  rw[e2];exact⟨_,_,rfl,h2,by rw[own];omega⟩
 split
 ·rw[if_pos (by omega)]
  refine⟨_,_,rfl,h1.mono (by omega),?_⟩
  rw[own]
  have:wtL Pattern.wt (p.kids++[⟨2,0,0,0,0,[]⟩])=wtL Pattern.wt p.kids+(1+Pattern.wt ⟨2,0,0,0,0,[]⟩):=by simp[wtL];omega
  rw[this,ZBX];omega
 split
 ·split
  ·next h0=>
   rw[gQ h0]
   refine⟨_,_,rfl,h1.mono (by omega),?_⟩
   rw[own]
   have:=ZIJ Pattern.wt p.kids 0 h0 ⟨2,0,0,0,0,[]⟩
   rw[ZBX]at this
   omega
  ·exact⟨_,_,rfl,h1.mono (by omega),by omega⟩
 split
 ·obtain⟨v2,r2,e2,h2,_⟩:=P.num h1 (by omega) [10,-1,5] (by simp)
  rw[e2];exact⟨_,_,rfl,h2,by rw[own];omega⟩
 ·exact⟨_,_,rfl,h1.mono (by omega),by omega⟩
def Tree.nodes :Tree->Nat
 |⟨_,_,_,_,branches,els⟩=>1+(branches.attach.map fun⟨b,_⟩=>Tree.nodes b.tree).sum+(els.attach.map fun⟨k,_⟩=>Tree.nodes k).sum
termination_by t=>SizeOf.sizeOf t
decreasing_by
 ·rename_i h
  have:=List.sizeOf_lt_of_mem h
  cases b
  simp at this ⊢
  omega
 ·rename_i h
  have:=List.sizeOf_lt_of_mem h
  simp
  omega
def Branch.nodes (b:Branch):Nat:=b.tree.nodes
theorem Tree.nodes_eq (x:Tree):x.nodes=1+(x.branches.map Branch.nodes).sum+(x.els.map Tree.nodes).sum:=by
 cases x
 rw[Tree.nodes]
 simp only[List.map_attach_eq_pmap,List.pmap_eq_map]
 rfl
theorem ZDi {α:Type}{g f:α->Nat}{xs:List α}(h:∀x,x∈xs->g x<=1+f x):(xs.map g).sum<=wtL f xs:=by
 induction xs with
 |nil=>simp
 |cons a r ih=>
  have:=h a (by simp)
  have:=ih fun x hx=>h x (by simp[hx])
  simp;omega
theorem Tree.nodes_le (x:Tree):x.nodes<=1+x.wt:=by
 induction x using Tree.ind with
 |_ x ihb ihe=>
  rw[Tree.nodes_eq,Tree.wt_eq]
  have h1:(x.branches.map Branch.nodes).sum<=wtL Branch.wt x.branches:=ZDi (f:=Branch.wt) ihb
  have h2:(x.els.map Tree.nodes).sum<=wtL Tree.wt x.els:=ZDi ihe
  omega
theorem P.YV (x:Tree)(hw:x.wt<=1048576):F.f201 x=some (x.branches.map (·.tree)++x.els):=by
 rw[Tree.wt_eq]at hw
 have h1:=Zh Branch.wt x.branches
 have h2:=Zh Tree.wt x.els
 unfold F.f201
 rw[ZKk (L:=F.f200 x) (a:=x.branches) (g:=fun b:Branch=>b.tree) (fun n i=>by rw[F.f200]) _ 0 [] rfl (by simp;omega)]
 simp only[oE,oS,List.drop_zero,List.nil_append]
 rw[if_pos (by simp;omega)]
theorem P.YX (x:Tree)(hw:x.wt<=1048576):F.f202 x=some (x.nodes:Int):=by
 induction x using Tree.ind with
 |_ x ihb ihe=>
  have hn:=x.nodes_le
  rw[Tree.nodes_eq]at hn ⊢
  have hw2:=hw
  rw[Tree.wt_eq]at hw2
  unfold F.f202
  rw[P.YV x hw]
  simp only[oE,oS]
  rw[ZLO (L:=F.f203 _) (g:=Tree.nodes) (fun n i=>by rw[F.f203]) (fun k hk=> ?_) _ 0 1 rfl (by omega) (by simp only[List.drop_zero,List.map_append,List.sum_append,List.map_map,Function.comp_def];have e:(x.branches.map fun b=>b.tree.nodes).sum=(x.branches.map Branch.nodes).sum:=rfl;omega)]
  ·simp only[oS,List.drop_zero,List.map_append,List.sum_append,List.map_map,Function.comp_def]
   congr 1
   have e:(x.branches.map fun b=>b.tree.nodes).sum=(x.branches.map Branch.nodes).sum:=rfl
   omega
  ·rcases List.mem_append.1 hk with hk|hk
   ·obtain⟨b,hb,rfl⟩:=List.mem_map.1 hk
    exact ihb b hb (by have:=Zf Branch.wt hb;have:Branch.wt b=b.tree.wt:=rfl;omega)
   ·exact ihe k hk (by have:=Zf Tree.wt hk;omega)
theorem ZEY {α:Type}{a b:List α}{L:Nat->Option (Lo Bool Unit)}(hl:a.length=b.length)(h0:∀k,a.length<=k->L k=some (.go ()))
  (h1:∀k (h:k<a.length) (h':k<b.length),a[k]=b[k]->L k=L (k+1)) (h2:∀k (h:k<a.length) (h':k<b.length),a[k]≠b[k]->L k=some (.ret false)):L 0=some (if dec (a=b)=true then .go ()else .ret false):=by
 rw[ZG6 (n:=a.length) (r:=false) (Q:=fun i=>∀(h:i<a.length) (h':i<b.length),a[i]=b[i]) (L:=L) h0
  (fun k hk hq=>h1 k hk (by omega) (hq hk (by omega)))
  (fun k hk hq=>h2 k hk (by omega) fun h=>hq fun _ _=>h) _ 0 rfl]
 have:(∀j,0<=j->j<a.length->∀(h:j<a.length) (h':j<b.length),a[j]=b[j])↔a=b:=
  ⟨fun h=>List.ext_getElem hl fun i hi hi'=>h i (by omega) hi hi hi',fun e=>by subst e;exact fun _ _ _ _ _=>rfl⟩
 rw[ZS this]
theorem PathBind.ext' {a b:PathBind}:a.var=b.var/\a.path=b.path↔a=b:=by
 cases a;cases b;simp
theorem P.YM (x y:PathBind):F.f211 x y=some (dec (x=y)):=by
 unfold F.f211
 rw[P.YL]
 simp only[oE,oS]
 by_cases h:x.var=y.var
 ·rw[if_pos h];congr 1;exact ZS ⟨fun q=>PathBind.ext'.1 ⟨h,q⟩,fun q=>by rw[q]⟩
 ·rw[if_neg h,ZH fun q=>h (by rw[q])]
theorem P.Yg (a b:List PathBind):F.f162 a b=some (dec (a=b)):=by
 unfold F.f162
 by_cases hl:a.length=b.length
 ·rw[if_pos hl,ZEY hl (L:=F.f161 a b) (fun k hk=>by rw[F.f161,if_neg (by omega)])
   (fun k hk hk' he=>by
    rw[F.f161,if_pos hk,gQ hk,gQ hk']
    simp only[oE,oS]
    rw[if_pos (by rw[he]),P.YF]
    simp only[oS]
    rw[if_pos (ZI (by rw[he]))])
   (fun k hk hk' he=>by
    rw[F.f161,if_pos hk,gQ hk,gQ hk']
    simp only[oE,oS]
    by_cases hv:a[k].var=b[k].var
    ·rw[if_pos hv,P.YF]
     simp only[oS]
     rw[if_neg (by rw[ZH fun q=>he (PathBind.ext'.1 ⟨hv,q⟩)];simp)]
    ·rw[if_neg hv])]
  by_cases h:a=b
  ·rw[if_pos (ZI h),ZI h];rfl
  ·rw[if_neg (by rw[ZH h];simp),ZH h];rfl
 ·rw[if_neg hl,ZH fun h=>hl (by rw[h])]
theorem P.Yv (a b:List PathBind):F.f214 a b=some (dec (a=b)):=by
 unfold F.f214 F.f213
 by_cases hl:a.length=b.length
 ·rw[if_pos hl,ZEY hl (L:=F.f212 a b) (fun k hk=>by rw[F.f212,if_neg (by omega)])
   (fun k hk hk' he=>by
    rw[F.f212,if_pos hk,gQ hk,gQ hk']
    simp only[oE,oS]
    rw[P.YM]
    simp only[oS]
    rw[if_pos (ZI he)])
   (fun k hk hk' he=>by
    rw[F.f212,if_pos hk,gQ hk,gQ hk']
    simp only[oE,oS]
    rw[P.YM]
    simp only[oS]
    rw[if_neg (by rw[ZH he];simp)])]
  by_cases h:a=b
  ·rw[if_pos (ZI h),ZI h];rfl
  ·rw[if_neg (by rw[ZH h];simp),ZH h];rfl
 ·rw[if_neg hl,ZH fun h=>hl (by rw[h])];rfl
theorem Edge.eq4 {a b:Edge}:eq4 (a.ctor,a.n,a.m,a.to) (b.ctor,b.n,b.m,b.to)↔a=b:=by
 cases a;cases b;simp[Go.Vl.eq4]
theorem P.Ye (a b:List Edge):F.f216 a b=some (dec (a=b)):=by
 unfold F.f216
 by_cases hl:a.length=b.length
 ·rw[if_pos hl,ZEY hl (L:=F.f215 a b) (fun k hk=>by rw[F.f215,if_neg (by omega)])
   (fun k hk hk' he=>by
    rw[F.f215,if_pos hk,gQ hk,gQ hk']
    simp only[oE,oS]
    rw[if_pos (ZI (Edge.eq4.2 he))])
   (fun k hk hk' he=>by
    rw[F.f215,if_pos hk,gQ hk,gQ hk']
    simp only[oE,oS]
    rw[if_neg (by rw[ZH fun q=>he (Edge.eq4.1 q)];simp)])]
  by_cases h:a=b
  ·rw[if_pos (ZI h),ZI h];rfl
  ·rw[if_neg (by rw[ZH h];simp),ZH h];rfl
 ·rw[if_neg hl,ZH fun h=>hl (by rw[h])]
theorem Node.ext' {a b:Node}:(a.op=b.op/\a.clause=b.clause/\a.els=b.els/\a.binds=b.binds/\a.path=b.path/\a.edges=b.edges)↔a=b:=by
 cases a;cases b;simp only[Node.mk.injEq]
 exact⟨fun⟨h1,h2,h3,h4,h5,h6⟩=>⟨h1,h2,h4,h5,h6,h3⟩,fun⟨h1,h2,h4,h5,h6,h3⟩=>⟨h1,h2,h3,h4,h5,h6⟩⟩
theorem P.YA (a b:Node):F.f164 a b=some (dec (a=b)):=by
 unfold F.f164
 rw[P.Yg,P.YF]
 simp only[oE,oS]
 rcases Classical.em (a.op=b.op)with h1|h1
 rotate_left
 ·rw[if_neg h1,ZH fun q=>h1 (by rw[q])]
 rcases Classical.em (a.clause=b.clause)with h2|h2
 rotate_left
 ·rw[if_pos h1,if_neg h2,ZH fun q=>h2 (by rw[q])]
 rcases Classical.em (a.els=b.els)with h3|h3
 rotate_left
 ·rw[if_pos h1,if_pos h2,if_neg h3,ZH fun q=>h3 (by rw[q])]
 rcases Classical.em (a.binds=b.binds)with h4|h4
 rotate_left
 ·rw[if_pos h1,if_pos h2,if_pos h3,if_neg (by rw[ZH h4];simp),ZH fun q=>h4 (by rw[q])]
 rcases Classical.em (a.path=b.path)with h5|h5
 rotate_left
 ·rw[if_pos h1,if_pos h2,if_pos h3,if_pos (ZI h4),if_neg (by rw[ZH h5];simp),ZH fun q=>h5 (by rw[q])]
 rw[if_pos h1,if_pos h2,if_pos h3,if_pos (ZI h4),if_pos (ZI h5)]
 by_cases hl:a.edges.length=b.edges.length
 ·rw[if_pos hl,ZEY hl (L:=F.f163 a b) (fun k hk=>by rw[F.f163,if_neg (by omega)])
   (fun k hk hk' he=>by
    rw[F.f163,if_pos hk,gQ hk,gQ hk']
    simp only[oE,oS]
    rw[if_pos (ZI (Edge.eq4.2 he))])
   (fun k hk hk' he=>by
    rw[F.f163,if_pos hk,gQ hk,gQ hk']
    simp only[oE,oS]
    rw[if_neg (by rw[ZH fun q=>he (Edge.eq4.1 q)];simp)])]
  by_cases h:a.edges=b.edges
  ·rw[if_pos (ZI h),ZI (Node.ext'.1 ⟨h1,h2,h3,h4,h5,h⟩)];rfl
  ·rw[if_neg (by rw[ZH h];simp),ZH fun q=>h (by rw[q])];rfl
 ·rw[if_neg hl,ZH fun h=>hl (by rw[h])]
theorem P.YAC (a b:Node):F.f217 a b=some (dec (a=b)):=by
 unfold F.f217
 rw[P.Yv,P.YL,P.Ye]
 simp only[oE,oS]
 rcases Classical.em (a.op=b.op)with h1|h1
 rotate_left
 ·rw[if_neg h1,ZH fun q=>h1 (by rw[q])]
 rcases Classical.em (a.clause=b.clause)with h2|h2
 rotate_left
 ·rw[if_pos h1,if_neg h2,ZH fun q=>h2 (by rw[q])]
 rcases Classical.em (a.binds=b.binds)with h4|h4
 rotate_left
 ·rw[if_pos h1,if_pos h2,if_neg (by rw[ZH h4];simp),ZH fun q=>h4 (by rw[q])]
 rcases Classical.em (a.path=b.path)with h5|h5
 rotate_left
 ·rw[if_pos h1,if_pos h2,if_pos (ZI h4),if_neg (by rw[ZH h5];simp),ZH fun q=>h5 (by rw[q])]
 rcases Classical.em (a.edges=b.edges)with h6|h6
 rotate_left
 ·rw[if_pos h1,if_pos h2,if_pos (ZI h4),if_pos (ZI h5),if_neg (by rw[ZH h6];simp),ZH fun q=>h6 (by rw[q])]
 rw[if_pos h1,if_pos h2,if_pos (ZI h4),if_pos (ZI h5),if_pos (ZI h6),←ZAT]
 congr 1
 exact ZS ⟨fun h3=>Node.ext'.1 ⟨h1,h2,h3,h4,h5,h6⟩,fun q=>by rw[q]⟩
theorem P.Yf (m n:Node):F.f218 m n=some (dec (m=n)):=by unfold F.f218;rw[P.YAC];rfl
noncomputable def ZAY (l:List Node)(n:Node):Option Nat:=ZEU (fun x=>x=n) 0 l
theorem P.YAE (l:List Node)(n:Node):F.f220 l n=some (match ZAY l n with|some j=>(j:Int)|none=> -1):=by
 unfold F.f220 ZAY
 rw[ZMJ (a:=l) (p:=fun q=>q=n) (L:=F.f219 l n) (fun k hk=>by rw[F.f219,if_neg (by omega)])
  (fun k hk hp=>by rw[F.f219,if_pos hk,gQ hk];simp only[oE,oS];rw[P.Yf];simp only[oS];rw[if_neg (by rw[ZH hp];simp)])
  (fun k hk hp=>by rw[F.f219,if_pos hk,gQ hk];simp only[oE,oS];rw[P.Yf];simp only[oS];rw[if_pos (ZI hp)]) _ 0 rfl,List.drop_zero]
 cases ZEU (fun q=>q=n) 0 l<;>rfl
theorem ZEV {l:List Node}{n:Node}{x:Int->Option (Lo (List Node×Int) Unit)}{L:Nat->Option (Lo (List Node×Int) Unit)}(h0:∀k,l.length<=k->L k=some (.go ()))(h1:∀k (h:k<l.length),l[k]≠n->L k=L (k+1))
  (h2:∀k (h:k<l.length),l[k]=n->L k=some (.ret (l,(k:Int)))):∀(m k:Nat),l.length-k=m->L k=some (match ZEU (fun x=>x=n) k (l.drop k)with|some j=>.ret (l,(j:Int))|none=>.go ()):=by
 intro m
 induction m with
 |zero=>intro k hm;rw[h0 k (by omega),List.drop_eq_nil_of_le (by omega)];rfl
 |succ m ih=>
  intro k hm
  have hk:k<l.length:=by omega
  rw[List.drop_eq_getElem_cons hk]
  by_cases hp:l[k]=n
  ·rw[h2 k hk hp];simp only[ZEU];rw[if_pos (ZI hp)]
  ·rw[h1 k hk hp,ih (k+1) (by omega)];simp only[ZEU];rw[if_neg (by rw[ZH hp];simp)]
theorem P.YN (l:List PathBind)(h:l.length<=67108864)(hp:∀b,b∈l->b.path.length<=67108864):F.f157 l=some l:=by
 unfold F.f157
 have:=ZEe (L:=F.f156 l) (a:=l) (g:=fun b:PathBind=>b) (f:=fun b=>if b.path.length<=67108864 then some b else none)
  (fun out i=>by
   rw[F.f156]
   split
   ·next hi=>
    rw[gQ hi]
    simp only[oE,oS]
    rw[if_pos (hp _ (gM hi)),if_pos (hp _ (gM hi))];rfl
   ·rfl)
  (fun b hb=>by rw[if_pos (hp b hb)]) _ 0 [] rfl (by simp;omega)
 rw[this];simp
theorem P.YC (l:List Int)(h:l.length<=67108864):F.f182 l=some l:=by unfold F.f182;rw[if_pos h]
theorem P.YW (l:List PathBind)(h:l.length<=67108864)(hp:∀b,b∈l->b.path.length<=67108864):F.f184 l=some l:=by
 unfold F.f184
 have:=ZEe (L:=F.f183 l) (a:=l) (g:=fun b:PathBind=>b) (f:=fun b=>F.f182 b.path>>=fun v=>some (⟨b.var,v⟩:PathBind))
  (fun out i=>by
   rw[F.f183]
   split
   ·next hi=>
    rw[gQ hi]
    simp only[oE,oS]
    rw[P.YC _ (hp _ (gM hi))]
    simp only[oS]
   ·rfl)
  (fun b hb=>by rw[P.YC _ (hp b hb)];rfl) _ 0 [] rfl (by simp;omega)
 rw[this];simp
def Zb (x:Tree)(es:List Edge)(e:Int):Node:=⟨x.op,x.clause,x.binds,x.path,es,e⟩
inductive Rep (list:List Node):Nat->Tree->Prop
 |mk (k:Nat) (x:Tree) (es:List Edge) (e:Int) (js:Nat->Nat) (j0:Nat) (h:list[k]? =some (Zb x es e)) (hl:es.length=x.branches.length)
   (hb:∀i (h1:i<es.length) (h2:i<x.branches.length),es[i]=⟨x.branches[i].ctor,x.branches[i].n,x.branches[i].m,(js i:Int)⟩)
   (hj:∀i,i<x.branches.length->js i<k) (hr:∀i (h2:i<x.branches.length),Rep list (js i) x.branches[i].tree)
   (h0:x.els=[]->e= -1) (h1:x.els.length<=1) (h2:∀y,y∈x.els->e=(j0:Int)/\j0<k) (h3:∀y,y∈x.els->Rep list j0 y):Rep list k x
theorem Rep.lt {list:List Node}{k:Nat}{x:Tree}(h:Rep list k x):k<list.length:=by
 cases h with
 |mk k x es e js j0 h=>exact(List.getElem?_eq_some_iff.1 h).1
theorem Rep.mono {list list':List Node}(hp:list<+:list'){k:Nat}{x:Tree}(h:Rep list k x):Rep list' k x:=by
 induction h with
 |mk k x es e js j0 h hl hb hj hr h0 h1 h2 h3 ihr ih3=>
  refine .mk k x es e js j0 ?_ hl hb hj ihr h0 h1 h2 ih3
  obtain⟨t,rfl⟩:=hp
  rw[List.getElem?_append_left (List.getElem?_eq_some_iff.1 h).1];exact h
theorem Branch.ext' {a b:Branch}(h1:a.ctor=b.ctor)(h2:a.n=b.n)(h3:a.m=b.m)(h4:a.tree=b.tree):a=b:=by
 cases a;cases b;simp only at h1 h2 h3 h4;subst h1 h2 h3 h4;rfl
theorem Tree.ext' {a b:Tree}(h1:a.op=b.op)(h2:a.clause=b.clause)(h3:a.binds=b.binds)(h4:a.path=b.path)(h5:a.branches=b.branches)(h6:a.els=b.els):a=b:=by
 cases a;cases b;simp only at h1 h2 h3 h4 h5 h6;subst h1 h2 h3 h4 h5 h6;rfl
theorem Rep.fn {list:List Node}{k:Nat}{x:Tree}(h:Rep list k x):∀{y:Tree},Rep list k y->x=y:=by
 induction h with
 |mk k x es e js j0 h hl hb hj hr h0 h1 h2 h3 ihr ih3=>
  intro y hy
  cases hy with
  |mk _ _ es' e' js' j0' g gl gb gj gr g0 g1 g2 g3=>
   rw[h]at g
   have g:=Option.some.inj g
   have ge:es=es':=congrArg Node.edges g
   have gee:e=e':=congrArg Node.els g
   subst ge;subst gee
   refine Tree.ext' (congrArg Node.op g) (congrArg Node.clause g) (congrArg Node.binds g) (congrArg Node.path g) (List.ext_getElem (by omega) fun i hi hi'=> ?_) ?_
   ·have e1:=hb i (by omega) hi
    have e2:=gb i (by omega) hi'
    rw[e1]at e2
    simp only[Edge.mk.injEq]at e2
    obtain⟨a1,a2,a3,a4⟩:=e2
    have a4:js i=js' i:=by omega
    exact Branch.ext' a1 a2 a3 (ihr i hi (a4▸gr i hi'))
   ·match hx:x.els,hy:y.els with
    | [],[]=>rfl
    | [],b::r=>
     have:=h0 hx;have:=(g2 b (by rw[hy];simp)).1;omega
    |a::r,[]=>
     have:=g0 hy;have:=(h2 a (by rw[hx];simp)).1;omega
    |a::r,b::r'=>
     have q1:r=[]:=by rw[hx]at h1;simp at h1;exact h1
     have q2:r'=[]:=by rw[hy]at g1;simp at g1;exact g1
     subst q1;subst q2
     have p1:=(h2 a (by rw[hx];simp)).1
     have p2:=(g2 b (by rw[hy];simp)).1
     have p3:j0=j0':=by omega
     rw[ih3 a (by rw[hx];simp) (p3▸g3 b (by rw[hy];simp))]
theorem ZI1 {α:Type}{l:List α}(hn:l.Nodup){i j:Nat}(hi:i<l.length)(hj:j<l.length)(e:l[i]=l[j]):i=j:=by
 have h:=List.pairwise_iff_getElem.1 hn
 rcases Nat.lt_trichotomy i j with q|q|q
 ·exact absurd e (h i j hi hj q)
 ·exact q
 ·exact absurd e.symm (h j i hj hi q)
theorem Rep.inj {list:List Node}(hn:list.Nodup){k:Nat}{x:Tree}(h:Rep list k x):∀{j:Nat},Rep list j x->k=j:=by
 induction h with
 |mk k x es e js j0 h hl hb hj hr h0 h1 h2 h3 ihr ih3=>
  intro j hy
  cases hy with
  |mk _ _ es' e' js' j0' g gl gb gj gr g0 g1 g2 g3=>
   have ee:es=es':=List.ext_getElem (by omega) fun i hi hi'=>by
    rw[hb i hi (by omega),gb i hi' (by omega),ihr i (by omega) (gr i (by omega))]
   have e2:e=e':=by
    match hx:x.els with
    | []=>rw[h0 hx,g0 hx]
    |a::r=>
     have p1:=(h2 a (by rw[hx];simp)).1
     have p2:=(g2 a (by rw[hx];simp)).1
     rw[p1,p2,ih3 a (by rw[hx];simp) (g3 a (by rw[hx];simp))]
   subst ee;subst e2
   have hk:=(List.getElem?_eq_some_iff.1 h).1
   have hjj:=(List.getElem?_eq_some_iff.1 g).1
   exact ZI1 hn hk hjj (by rw[(List.getElem?_eq_some_iff.1 h).2,(List.getElem?_eq_some_iff.1 g).2])
inductive Sub :Tree->Tree->Prop
 |refl (x:Tree):Sub x x
 |br (y x:Tree) (b:Branch) (hb:b∈x.branches) (h:Sub y b.tree):Sub y x
 |els (y x z:Tree) (hz:z∈x.els) (h:Sub y z):Sub y x
theorem ZA9 {α:Type}{f:α->Nat}{l:List α}{a:α}(h:a∈l):f a<=(l.map f).sum:=by
 induction l with
 |nil=>cases h
 |cons b r ih=>
  simp only[List.map_cons,List.sum_cons]
  rcases List.mem_cons.1 h with rfl|h
  ·omega
  ·have:=ih h;omega
theorem Sub.nodes {y x:Tree}(h:Sub y x):y.nodes<=x.nodes:=by
 induction h with
 |refl=>exact Nat.le_refl _
 |br x b hb h ih=>have:=x.nodes_eq;have:=ZA9 (f:=Branch.nodes) hb;have:Branch.nodes b=b.tree.nodes:=rfl;omega
 |els x z hz h ih=>have:=x.nodes_eq;have:=ZA9 (f:=Tree.nodes) hz;omega
theorem Tree.nodes_pos (x:Tree):1<=x.nodes:=by rw[Tree.nodes_eq];omega
def ZEo :Nat->Tree->Prop
 |0,_=>False
 |n+1,x=>(0<=x.op/\x.op<=2/\x.els.length<=1/\x.branches.length<=10)/\(∀b,b∈x.branches->ZEo n b.tree)/\∀y,y∈x.els->ZEo n y
theorem ZAc :∀{n m:Nat} {x:Tree},x.nodes<=m->ZEo n x->ZEo m x
 |0,_,_,_,h=>h.elim
 |n+1,0,x,h,_=>by have:=x.nodes_pos;omega
 |n+1,m+1,x,h,⟨h1,h2,h3⟩=>by
  have hx:=x.nodes_eq
  exact⟨h1,fun b hb=>ZAc (by have:=ZA9 (f:=Branch.nodes) hb;have:Branch.nodes b=b.tree.nodes:=rfl;omega) (h2 b hb),fun y hy=>ZAc (by have:=ZA9 (f:=Tree.nodes) hy;omega) (h3 y hy)⟩
def right (x:Tree):Prop:=ZEo x.nodes x
theorem ZAL (x:Tree):right x↔(0<=x.op/\x.op<=2/\x.els.length<=1/\x.branches.length<=10)/\(∀b,b∈x.branches->right b.tree)/\∀y,y∈x.els->right y:=by
 have hx:=x.nodes_eq
 constructor
 ·intro h
  unfold right at h
  obtain⟨n,hn⟩:∃n,x.nodes=n+1:=⟨x.nodes-1,by have:=x.nodes_pos;omega⟩
  rw[hn]at h
  exact⟨h.1,fun b hb=>ZAc (Nat.le_refl _) (h.2.1 b hb),fun y hy=>ZAc (Nat.le_refl _) (h.2.2 y hy)⟩
 ·rintro⟨h1,h2,h3⟩
  unfold right
  obtain⟨n,hn⟩:∃n,x.nodes=n+1:=⟨x.nodes-1,by have:=x.nodes_pos;omega⟩
  rw[hn]
  exact⟨h1,fun b hb=>ZAc (by have:=ZA9 (f:=Branch.nodes) hb;have:Branch.nodes b=b.tree.nodes:=rfl;omega) (h2 b hb),fun y hy=>ZAc (by have:=ZA9 (f:=Tree.nodes) hy;omega) (h3 y hy)⟩
theorem Sub.right {y x:Tree}(h:Sub y x)(hx:right x):right y:=by
 induction h with
 |refl=>exact hx
 |br x b hb h ih=>exact ih (((ZAL x).1 hx).2.1 b hb)
 |els x z hz h ih=>exact ih (((ZAL x).1 hx).2.2 z hz)
def Inv (list:List Node):Prop:=list.Nodup/\∀k,k<list.length->∃x,Rep list k x
structure Added (list:List Node)(x:Tree)(list':List Node)(k:Nat):Prop where
 pre:list<+:list'
 inv:Inv list'
 rep:Rep list' k x
 len:list'.length<=list.length+x.nodes
 sub:∀i,list.length<=i->i<list'.length->∃y,Sub y x/\Rep list' i y
 last:list.length<=k->k+1=list'.length
theorem Inv.snoc {list:List Node}(h:Inv list){n:Node}(hn:n∉list){x:Tree}(hr:Rep (list++[n]) list.length x):Inv (list++[n]):=by
 refine⟨List.nodup_append.2 ⟨h.1,by simp,fun a ha b hb=>by simp at hb;subst hb;exact fun e=>hn (e▸ha)⟩,fun k hk=> ?_⟩
 by_cases e:k<list.length
 ·obtain⟨y,hy⟩:=h.2 k e
  exact⟨y,hy.mono (List.prefix_append _ _)⟩
 ·have:k=list.length:=by simp at hk;omega
  subst this;exact⟨x,hr⟩
theorem ZGC {l:List Node}{n:Node}{j:Nat}(h:ZAY l n=some j):l[j]? =some n:=by
 obtain⟨_,h2,h3,_⟩:=ZBE h
 simp only[Nat.sub_zero]at h2 h3
 rw[gQ h2,h3]
theorem ZGD {l:List Node}{n:Node}(h:ZAY l n=none):n∉l:=fun hm=>ZBF h n hm rfl
theorem Rep.build {l l':List Node}(hp:l<+:l'){x:Tree}{es:List Edge}{e:Int}{k:Nat}(h:l'[k]? =some (Zb x es e))(hl:es.length=x.branches.length)
  (rep:∀i (h1:i<es.length) (h2:i<x.branches.length),∃j:Nat,es[i]=⟨x.branches[i].ctor,x.branches[i].n,x.branches[i].m,(j:Int)⟩/\Rep l j x.branches[i].tree)
  (h0:x.els=[]->e= -1) (h1:x.els.length<=1) (he:∀y,y∈x.els->∃j0:Nat,e=(j0:Int)/\Rep l j0 y)
  (hlt:∀i (h1:i<es.length) (j:Nat),es[i].to=(j:Int)->j<k) (hlt2:∀j:Nat,e=(j:Int)->j<k):Rep l' k x:=by
 refine .mk k x es e (fun i=>(es.getD i ⟨0,0,0,0⟩).to.toNat) e.toNat h hl (fun i h1 h2=> ?_) (fun i h2=> ?_) (fun i h2=> ?_) h0 h1 (fun y hy=> ?_) (fun y hy=> ?_)
 ·obtain⟨j,e1,_⟩:=rep i h1 h2
  have:es.getD i ⟨0,0,0,0⟩=es[i]:=by simp[List.getD_eq_getElem?_getD,h1]
  show es[i]=⟨_,_,_,(((es.getD i ⟨0,0,0,0⟩).to.toNat:Nat):Int)⟩
  rw[this,e1];simp
 ·have h1:i<es.length:=by omega
  obtain⟨j,e1,_⟩:=rep i h1 h2
  have:es.getD i ⟨0,0,0,0⟩=es[i]:=by simp[List.getD_eq_getElem?_getD,h1]
  show(es.getD i ⟨0,0,0,0⟩).to.toNat<k
  rw[this]
  exact hlt i h1 _ (by rw[e1];simp)
 ·have h1:i<es.length:=by omega
  obtain⟨j,e1,e2⟩:=rep i h1 h2
  have:es.getD i ⟨0,0,0,0⟩=es[i]:=by simp[List.getD_eq_getElem?_getD,h1]
  show Rep l' (es.getD i ⟨0,0,0,0⟩).to.toNat _
  rw[this,e1]
  exact e2.mono hp
 ·obtain⟨j0,e1,e2⟩:=he y hy
  subst e1
  exact⟨by simp,hlt2 _ (by simp)⟩
 ·obtain⟨j0,e1,e2⟩:=he y hy
  subst e1
  exact e2.mono hp
structure LI (x:Tree)(list:List Node)(i:Nat)(out:List Edge)(l:List Node):Prop where
 hi:i<=x.branches.length
 ho:out.length=i
 pre:list<+:l
 inv:Inv l
 len:l.length<=list.length+((x.branches.take i).map Branch.nodes).sum
 rep:∀i' (h:i'<out.length) (h2:i'<x.branches.length),∃j:Nat,out[i']=⟨x.branches[i'].ctor,x.branches[i'].n,x.branches[i'].m,(j:Int)⟩/\Rep l j x.branches[i'].tree
 sub:∀i',list.length<=i'->i'<l.length->∃y,(∃b,b∈x.branches/\Sub y b.tree)/\Rep l i' y
theorem ZC1 {α:Type}{f:α->Nat}{l:List α}(i:Nat):((l.take i).map f).sum<=(l.map f).sum:=by
 induction l generalizing i with
 |nil=>simp
 |cons a r ih=>
  cases i with
  |zero=>simp
  |succ i=>simp only[List.take_succ_cons,List.map_cons,List.sum_cons];have:=ih i;omega
theorem ZBv {α:Type}{f:α->Nat}{l:List α}{i:Nat}(h:i<l.length):((l.take (i+1)).map f).sum=((l.take i).map f).sum+f l[i]:=by
 rw[List.take_succ_eq_append_getElem h,List.map_append,List.sum_append];simp
theorem ZCE {x:Tree}{list l:List Node}{es:List Edge}{e:Int}(hpre:list<+:l)(hinv:Inv l)(hlen:l.length+1<=list.length+x.nodes)(hl:es.length=x.branches.length)
  (rep:∀i (h1:i<es.length) (h2:i<x.branches.length),∃j:Nat,es[i]=⟨x.branches[i].ctor,x.branches[i].n,x.branches[i].m,(j:Int)⟩/\Rep l j x.branches[i].tree)
  (h0:x.els=[]->e= -1) (h1:x.els.length<=1) (he:∀y,y∈x.els->∃j0:Nat,e=(j0:Int)/\Rep l j0 y)
  (hsub':∀i',list.length<=i'->i'<l.length->∃y,Sub y x/\y.nodes<x.nodes/\Rep l i' y):
  (∀j,ZAY l (Zb x es e)=some j->Added list x l j)/\(ZAY l (Zb x es e)=none->Added list x (l++[Zb x es e]) l.length):=by
 have hsub:∀i',list.length<=i'->i'<l.length->∃y,Sub y x/\Rep l i' y:=fun i' a b=>by
  obtain⟨y,h1,_,h3⟩:=hsub' i' a b
  exact⟨y,h1,h3⟩
 constructor
 ·intro j hj
  have hg:=ZGC hj
  have hjl:=(List.getElem?_eq_some_iff.1 hg).1
  obtain⟨x',hx'⟩:=hinv.2 j hjl
  have hrx:Rep l j x:= ?_
  ·refine⟨hpre,hinv,hrx,by omega,hsub,fun hlj=> ?_⟩
   obtain⟨y,_,h2,h3⟩:=hsub' j hlj hjl
   have:=h3.fn hrx
   subst this;omega
  cases hx' with
  |mk _ _ es' e' js' j0' g gl gb gj gr g0 g1 g2 g3=>
   rw[hg]at g
   have g:=Option.some.inj g
   have ge:es=es':=congrArg Node.edges g
   have gee:e=e':=congrArg Node.els g
   subst ge;subst gee
   refine Rep.build (List.prefix_refl _) hg hl rep h0 h1 he (fun i hi k hk=> ?_) (fun k hk=> ?_)
   ·have h2:i<x'.branches.length:=by omega
    rw[gb i hi h2]at hk
    have:=gj i h2
    simp only at hk;omega
   ·match hy:x'.els with
    | []=>have:=g0 hy;omega
    |a::r=>have:=g2 a (by rw[hy];simp);omega
 ·intro hf
  have hn:=ZGD hf
  have hr:Rep (l++[Zb x es e]) l.length x:=by
   refine Rep.build (List.prefix_append _ _) (by simp) hl rep h0 h1 he (fun i hi k hk=> ?_) (fun k hk=> ?_)
   ·obtain⟨j,e1,e2⟩:=rep i hi (by omega)
    rw[e1]at hk
    have:=e2.lt
    simp only at hk;omega
   ·match hy:x.els with
    | []=>have:=h0 hy;omega
    |a::r=>
     obtain⟨j,e1,e2⟩:=he a (by rw[hy];simp)
     have:=e2.lt;omega
  refine⟨hpre.trans (List.prefix_append _ _),hinv.snoc hn hr,hr,by simp;omega,fun i h1 h2=> ?_,fun _=>by simp⟩
  by_cases q:i<l.length
  ·obtain⟨y,a,b⟩:=hsub i h1 q
   exact⟨y,a,b.mono (List.prefix_append _ _)⟩
  ·have:i=l.length:=by simp at h2;omega
   subst this;exact⟨x,.refl x,hr⟩
theorem P.YAX (x:Tree):right x->x.wt<=1048576->∀list,Inv list->list.length+x.nodes<=67108864->
  ∃list' k,F.f167 list x=some (list',((k:Nat):Int))/\F.f221 x list=some (((k:Nat):Int),list')/\Added list x list' k:=by
 induction x using Tree.ind with
 |_ x ihb ihe=>
  intro hx hw list hinv hlen
  obtain⟨⟨r1,r2,r3,r4⟩,rb,re⟩:=(ZAL x).1 hx
  have hn:=x.nodes_eq
  have hw2:=hw
  rw[Tree.wt_eq]at hw2
  have w1:=Zh PathBind.wt x.binds
  have w2:=Zh (fun _:Int=>0) x.path
  have wp:∀b,b∈x.binds->b.path.length<=67108864:=fun b hb=>by
   have:=Zf PathBind.wt hb
   have h3:b.path.length<=PathBind.wt b:=by unfold PathBind.wt;have:=Zh (fun _:Int=>0) b.path;omega
   omega
  have lp:∀(m i:Nat) (out:List Edge) (l:List Node),x.branches.length-i=m->LI x list i out l->
    ∃es l',F.f168 x x.binds (-1) out l i=some (es,l')/\F.f222 x x.binds x.path out l i=some (es,l')/\LI x list x.branches.length es l':=by
   intro m
   induction m with
   |zero=>
    intro i out l hm h
    have hi:=h.hi
    have:i=x.branches.length:=by omega
    subst this
    exact⟨out,l,by rw[F.f168,if_neg (by omega)],by rw[F.f222,if_neg (by omega)],h⟩
   |succ m ih=>
    intro i out l hm h
    have hi:i<x.branches.length:=by omega
    have hs:=ZBv (f:=Branch.nodes) hi
    have hs2:=ZC1 (f:=Branch.nodes) (l:=x.branches) (i+1)
    have hbn:Branch.nodes x.branches[i]=x.branches[i].tree.nodes:=rfl
    have hl:=h.len
    have hbm:=gM hi
    have hbw:=Zf Branch.wt hbm
    have hbw2:Branch.wt x.branches[i]=x.branches[i].tree.wt:=rfl
    obtain⟨l2,k,g1,g2,g3⟩:=ihb _ hbm (rb _ hbm) (by omega) l h.inv (by omega)
    have hout:=h.ho
    have hrep2:∀i' (h:i'<(out++[(⟨x.branches[i].ctor,x.branches[i].n,x.branches[i].m,(k:Int)⟩:Edge)]).length) (h2:i'<x.branches.length),∃j:Nat,(out++[(⟨x.branches[i].ctor,x.branches[i].n,x.branches[i].m,(k:Int)⟩:Edge)])[i']=⟨x.branches[i'].ctor,x.branches[i'].n,x.branches[i'].m,(j:Int)⟩/\Rep l2 j x.branches[i'].tree:=by
     intro i' a1 a2
     by_cases q:i'<out.length
     ·obtain⟨j,b1,b2⟩:=h.rep i' q a2
      exact⟨j,(List.getElem_append_left q).trans b1,b2.mono g3.pre⟩
     ·have:i'=i:=by simp at a1;omega
      subst this
      exact⟨k,by rw[List.getElem_append_right (by omega)];simp,g3.rep⟩
    have hsub2:∀i',list.length<=i'->i'<l2.length->∃y,(∃b,b∈x.branches/\Sub y b.tree)/\Rep l2 i' y:=by
     intro i' a1 a2
     by_cases q:i'<l.length
     ·obtain⟨y,b1,b2⟩:=h.sub i' a1 q
      exact⟨y,b1,b2.mono g3.pre⟩
     ·obtain⟨y,b1,b2⟩:=g3.sub i' (by omega) a2
      exact⟨y,⟨_,hbm,b1⟩,b2⟩
    obtain⟨es,l',f1,f2,f3⟩:=ih (i+1) (out++[⟨x.branches[i].ctor,x.branches[i].n,x.branches[i].m,(k:Int)⟩]) l2 (by omega) ⟨by omega,by simp;omega,h.pre.trans g3.pre,g3.inv,by have:=g3.len;omega,hrep2,hsub2⟩
    refine⟨es,l',?_,?_,f3⟩
    ·rw[F.f168,if_pos hi,gQ hi]
     simp only[oE,oS]
     rw[g1]
     simp only[oS]
     rw[if_pos (by omega)];exact f1
    ·rw[F.f222,if_pos hi,gQ hi]
     simp only[oE,oS]
     rw[g2]
     simp only[oS]
     rw[if_pos (by omega)];exact f2
  obtain⟨es,l1,e1,e2,e3⟩:=lp _ 0 [] list rfl ⟨by omega,rfl,List.prefix_refl _,hinv,by simp,fun i' h=>by simp at h,fun i' a1 a2=>by omega⟩
  have hlen1:=e3.len
  rw[List.take_of_length_le (Nat.le_refl _)]at hlen1
  have hsub1:∀i',list.length<=i'->i'<l1.length->∃y,Sub y x/\y.nodes<x.nodes/\Rep l1 i' y:=fun i' a1 a2=>by
   obtain⟨y,⟨b,hb,b1⟩,b2⟩:=e3.sub i' a1 a2
   have h1:=b1.nodes
   have h2:=ZA9 (f:=Branch.nodes) hb
   have h3:Branch.nodes b=b.tree.nodes:=rfl
   exact⟨y,.br y x b hb b1,by omega,b2⟩
  have hbinds:F.f157 x.binds=some x.binds:=P.YN _ (by omega) wp
  have hbinds2:F.f184 x.binds=some x.binds:=P.YW _ (by omega) wp
  have hpath:F.f182 x.path=some x.path:=P.YC _ (by omega)
  rw[F.f167,F.f221,hbinds,hbinds2,hpath]
  simp only[oE,oS,F.f158]
  rw[if_pos (by omega),e1,e2]
  simp only[oS]
  cases hels:x.els with
  |nil=>
   rw[hels]at hn
   simp only[List.map_nil,List.sum_nil,Nat.add_zero]at hn
   have hl2:F.f223 x x.binds x.path (es,l1) (-1) l1 0=some (-1,l1):=by rw[F.f223,hels,if_neg (by simp)]
   rw[if_neg (by simp),hl2]
   simp only[oS]
   obtain⟨a1,a2⟩:=ZCE (e:= -1) e3.pre e3.inv (by omega) e3.ho e3.rep (fun _=>rfl) r3 (fun y hy=>by rw[hels]at hy;cases hy) hsub1
   rw[ZEV (n:=(⟨x.op,x.clause,x.binds,x.path,es,-1⟩:Node)) (l:=l1) (x:=fun _=>none) (L:=F.f166 x x.binds (-1) (es,l1)) (fun k hk=>by rw[F.f166,if_neg (by simpa using hk)])
    (fun k hk hp=>by rw[F.f166,if_pos hk,gQ hk];simp only[oE,oS];rw[P.YA];simp only[oS];rw[if_neg (by rw[ZH hp];simp)])
    (fun k hk hp=>by rw[F.f166,if_pos hk,gQ hk];simp only[oE,oS];rw[P.YA];simp only[oS];rw[if_pos (ZI hp)]) _ 0 rfl,List.drop_zero,P.YAE]
   change ∃list' k,Option.bind (some (match ZAY l1 (Zb x es (-1))with|some j=>Lo.ret (l1,(j:Int))|none=>Lo.go ())) _=_/\Option.bind (some (match ZAY l1 (Zb x es (-1))with|some j=>(j:Int)|none=> -1)) _=_/\_
   cases hf:ZAY l1 (Zb x es (-1))with
   |some j=>
    simp only[oS]
    rw[if_neg (by omega)]
    exact⟨l1,j,rfl,rfl,a1 j hf⟩
   |none=>
    simp only[oS]
    rw[if_pos (by omega),if_pos (by omega),if_pos (by omega)]
    exact⟨_,l1.length,rfl,rfl,a2 hf⟩
  |cons y r=>
   have hr:r=[]:=by rw[hels]at r3;simp at r3;exact r3
   subst hr
   have hym:y∈x.els:=by rw[hels];simp
   rw[hels]at hn
   simp only[List.map_cons,List.map_nil,List.sum_cons,List.sum_nil]at hn
   have hyw:=Zf Tree.wt hym
   obtain⟨l2,k2,g1,g2,g3⟩:=ihe y hym (re y hym) (by omega) l1 e3.inv (by omega)
   rw[if_pos (by simp)]
   simp only[List.getElem?_cons_zero,oS]
   have hl2:F.f223 x x.binds x.path (es,l1) (-1) l1 0=some ((k2:Int),l2):=by
    rw[F.f223,hels,if_pos (by simp)]
    simp only[oE,List.getElem?_cons_zero,oS]
    rw[g2]
    simp only[oS]
    rw[F.f223,hels,if_neg (by simp)]
   rw[g1,hl2]
   simp only[oS]
   have hlen2:=g3.len
   obtain⟨a1,a2⟩:=ZCE (x:=x) (es:=es) (e:=(k2:Int)) (e3.pre.trans g3.pre) g3.inv (by omega) e3.ho (fun i q1 q2=>by obtain⟨j,b1,b2⟩:=e3.rep i q1 q2;exact⟨j,b1,b2.mono g3.pre⟩)
    (fun q=>by rw[hels]at q;cases q) r3 (fun z hz=>by rw[hels]at hz;simp at hz;subst hz;exact⟨k2,rfl,g3.rep⟩)
    (fun i' q1 q2=>by
     by_cases q:i'<l1.length
     ·obtain⟨z,b1,b3,b2⟩:=hsub1 i' q1 q;exact⟨z,b1,b3,b2.mono g3.pre⟩
     ·obtain⟨z,b1,b2⟩:=g3.sub i' (by omega) q2;exact⟨z,.els z x y hym b1,by have:=b1.nodes;omega,b2⟩)
   rw[ZEV (n:=(⟨x.op,x.clause,x.binds,x.path,es,(k2:Int)⟩:Node)) (l:=l2) (x:=fun _=>none) (L:=F.f165 x x.binds (es,l1) (l2,(k2:Int))) (fun k hk=>by rw[F.f165,if_neg (by simpa using hk)])
    (fun k hk hp=>by rw[F.f165,if_pos hk,gQ hk];simp only[oE,oS];rw[P.YA];simp only[oS];rw[if_neg (by rw[ZH hp];simp)])
    (fun k hk hp=>by rw[F.f165,if_pos hk,gQ hk];simp only[oE,oS];rw[P.YA];simp only[oS];rw[if_pos (ZI hp)]) _ 0 rfl,List.drop_zero,P.YAE]
   change ∃list' k,Option.bind (some (match ZAY l2 (Zb x es (k2:Int))with|some j=>Lo.ret (l2,(j:Int))|none=>Lo.go ())) _=_/\Option.bind (some (match ZAY l2 (Zb x es (k2:Int))with|some j=>(j:Int)|none=> -1)) _=_/\_
   cases hf:ZAY l2 (Zb x es (k2:Int))with
   |some j=>
    simp only[oS]
    rw[if_neg (by omega)]
    exact⟨l2,j,rfl,rfl,a1 j hf⟩
   |none=>
    simp only[oS]
    rw[if_pos (by omega),if_pos (by omega),if_pos (by omega)]
    exact⟨_,l2.length,rfl,rfl,a2 hf⟩
structure nodeOk (i:Nat)(x:Node):Prop where
 op0:0<=x.op
 op2:x.op<=2
 els0: -1<=x.els
 els1:x.els<i
 len:x.edges.length<=10
 edges:∀j (h:j<x.edges.length),0<=x.edges[j].to/\x.edges[j].to<i
theorem P.YY (list:List Node)(i:Nat)(x:Node):F.f188 list i x 0=some (if dec (∀j (h:j<x.edges.length),0<=j->(0<=x.edges[j].to/\x.edges[j].to<i))=true then .go ()else .ret false):=by
 refine ZGV (a:=x.edges) (Q:=fun _ e=>0<=e.to/\e.to<i) (L:=F.f188 list i x) (fun k hk=> ?_) (fun k hk hq=> ?_) (fun k hk hq=> ?_) _ 0 rfl
 ·rw[F.f188,if_neg hk]
 ·rw[F.f188,if_pos hk,gQ hk]
  simp only[oE,oS]
  rw[if_neg (by omega),if_neg (by omega)]
 ·rw[F.f188,if_pos hk,gQ hk]
  simp only[oE,oS]
  by_cases h:x.edges[k].to<0
  ·rw[if_pos h]
  ·rw[if_neg h,if_pos (by omega)]
theorem P.Yk (list:List Node):F.f190 list=some (dec (1<=list.length/\list.length<=300/\∀j (h:j<list.length),nodeOk j list[j])):=by
 unfold F.f190
 by_cases h0:list.length=0
 ·rw[if_pos h0,ZH (by omega)]
 rw[if_neg h0]
 by_cases h1:300<list.length
 ·rw[if_pos h1,ZH (by omega)]
 rw[if_neg h1]
 have key:F.f189 list 0=some (if dec (∀j (h:j<list.length),0<=j->nodeOk j list[j])=true then .go ()else .ret false):=by
  refine ZGV (a:=list) (Q:=nodeOk) (L:=fun k=>F.f189 list k) (fun k hk=> ?_) (fun k hk hq=> ?_) (fun k hk hq=> ?_) _ 0 rfl
  ·show F.f189 list k=_
   rw[F.f189,if_neg (by omega)]
  ·show F.f189 list k=F.f189 list (k+1)
   rw[F.f189,if_pos (by omega),gQ hk]
   have:=hq.op0;have:=hq.op2;have:=hq.els0;have:=hq.els1;have:=hq.len
   simp only[oE,oS,F.f158]
   rw[if_neg (by omega),if_neg (by omega),if_neg (by omega),if_neg (by omega),if_neg (by omega),P.YY,if_pos (ZI fun j h _=>hq.edges j h)]
   exact if_pos (by omega)
  ·show F.f189 list k=_
   rw[F.f189,if_pos (by omega),gQ hk]
   simp only[oE,oS,F.f158]
   by_cases a1:list[k].op<0
   ·rw[if_pos a1]
   rw[if_neg a1]
   by_cases a2:2<list[k].op
   ·rw[if_pos a2]
   rw[if_neg a2]
   by_cases a3:list[k].els< -1
   ·rw[if_pos a3]
   rw[if_neg a3]
   by_cases a4:(k:Int)<=list[k].els
   ·rw[if_pos a4]
   rw[if_neg a4]
   by_cases a5:10<list[k].edges.length
   ·rw[if_pos a5]
   rw[if_neg a5,P.YY,if_neg (by
    rw[ZH fun hh=>hq ⟨by omega,by omega,by omega,by omega,by omega,fun j h=>hh j h (by omega)⟩];simp)]
   rfl
 rw[key]
 simp only[oE,oS]
 by_cases hall:∀j (h:j<list.length),0<=j->nodeOk j list[j]
 ·rw[if_pos (ZI hall),ZI ⟨by omega,by omega,fun j h=>hall j h (by omega)⟩]
 ·rw[if_neg (by rw[ZH hall];simp),ZH fun hh=>hall fun j h _=>hh.2.2 j h]
theorem P.Ym (n low high:Int):F.f172 n low high=some (decide (low<=n/\n<=high)):=by
 unfold F.f172
 by_cases h:low<=n<;>simp[h]
theorem P.YBA (e:Edge)(i:Nat)(hi:i<=67108864):F.f173 e i=some (!decide (0<=e.to/\e.to<(i:Int))):=by
 unfold F.f173
 rw[P.Ym,ZG (by omega) (by omega)]
 simp only[oE,oS]
 congr 2
 exact decide_eq_decide.2 (by omega)
theorem P.YBW (s:List Edge)(i:Nat)(hi:i<=67108864)(hs:s.length<=67108864):∀(m k:Nat),s.length-k=m->∃r,F.f174 s i k=some r/\
  match r with| .ret j=>0<=j/\∃l,∃h:l<s.length,k<=l/\¬(0<=s[l].to/\s[l].to<i)| .go _=>∀l (h:l<s.length),k<=l->(0<=s[l].to/\s[l].to<i):=by
 intro m
 induction m with
 |zero=>
  intro k hm
  rw[F.f174,if_neg (by omega)]
  exact⟨_,rfl,fun l h hl=>by omega⟩
 |succ m ih=>
  intro k hm
  have hk:k<s.length:=by omega
  rw[F.f174,if_pos hk,gQ hk]
  simp only[oE,oS]
  rw[P.YBA _ _ hi]
  simp only[oS]
  by_cases h:0<=s[k].to/\s[k].to<i
  ·rw[if_neg (by simp[h])]
   obtain⟨r,hr,hx⟩:=ih (k+1) (by omega)
   refine⟨r,hr,?_⟩
   cases r with
   |ret j=>obtain⟨h1,l,h2,h3,h4⟩:=hx;exact⟨h1,l,h2,by omega,h4⟩
   |go _=>
    intro l hl hkl
    by_cases e:k=l
    ·subst e;exact h
    ·exact hx l hl (by omega)
  ·rw[if_pos (by rw[decide_eq_false h];rfl)]
   exact⟨_,rfl,by omega,k,hk,Nat.le_refl _,h⟩
theorem P.YAS (s:List Edge)(i:Nat)(hi:i<=67108864)(hs:s.length<=67108864):F.f176 s i=some (!dec (∀l (h:l<s.length),0<=s[l].to/\s[l].to<i)):=by
 unfold F.f176 F.f175
 obtain⟨r,hr,hx⟩:=P.YBW s i hi hs _ 0 rfl
 rw[hr]
 cases r with
 |ret j=>
  obtain⟨h1,l,h2,_,h4⟩:=hx
  simp only[oE,oS]
  rw[ZH fun hh=>h4 (hh l h2)]
  simp[h1]
 |go _=>
  simp only[oE,oS]
  rw[ZI fun l h=>hx l h (by omega)]
  simp
theorem P.Yl (list:List Node)(hl:list.length<=1048576):F.f178 list=some (dec (1<=list.length/\list.length<=300/\∀j (h:j<list.length),nodeOk j list[j])):=by
 unfold F.f178
 have key:F.f177 list 0=some (if dec (∀j (h:j<list.length),0<=j->nodeOk j list[j])=true then .go ()else .ret false):=by
  refine ZGV (a:=list) (Q:=nodeOk) (L:=F.f177 list) (fun k hk=> ?_) (fun k hk hq=> ?_) (fun k hk hq=> ?_) _ 0 rfl
  ·rw[F.f177,if_neg (by omega)]
  ·rw[F.f177,if_pos (by omega),gQ hk]
   have:=hq.op0;have:=hq.op2;have:=hq.els0;have:=hq.els1;have:=hq.len
   simp only[oE,oS,P.Ym]
   rw[if_pos (by simp;omega),if_neg (by omega),ZG (by omega) (by omega),if_pos (by simp;omega),P.YAS _ _ (by omega) (by omega),ZI hq.edges]
   simp
  ·rw[F.f177,if_pos (by omega),gQ hk]
   simp only[oE,oS,P.Ym]
   by_cases a1:0<=list[k].op/\list[k].op<=2
   ·rw[if_pos (by simp;omega)]
    by_cases a5:10<list[k].edges.length
    ·rw[if_pos a5]
    rw[if_neg a5,ZG (by omega) (by omega)]
    by_cases a3: -1<=list[k].els/\list[k].els<=(k:Int) -1
    ·rw[if_pos (by simp;omega),P.YAS _ _ (by omega) (by omega),ZH fun hh=>hq ⟨a1.1,a1.2,a3.1,by omega,by omega,hh⟩]
     simp
    ·rw[if_neg (by simp;omega)]
   ·rw[if_neg (by simp;omega)]
 rw[key]
 simp only[oE,oS]
 by_cases hall:∀j (h:j<list.length),0<=j->nodeOk j list[j]
 ·rw[if_pos (ZI hall)]
  simp only[P.Ym,oS,←ZAT]
  congr 1
  exact ZS ⟨fun h=>⟨by omega,by omega,fun j hj=>hall j hj (by omega)⟩,fun h=>by omega⟩
 ·rw[if_neg (by rw[ZH hall];simp),ZH fun hh=>hall fun j h _=>hh.2.2 j h]
theorem P.Yi (x:Tree):x.nodes<=4611686018427387904->∀most:Nat,most<=1048576->∃c:Nat,F.f151 x most=some (c:Int)/\c<=x.nodes/\1<=c/\(x.nodes<=most->c=x.nodes)/\(most<x.nodes->most<c):=by
 induction x using Tree.ind with
 |_ x ihb ihe=>
  intro hbig most hm
  have hn:=x.nodes_eq
  have l1:∀(m i n:Nat),x.branches.length-i=m->1<=n->n+((x.branches.drop i).map Branch.nodes).sum<=x.nodes->
    ∃c:Nat,F.f152 x most (n:Int) i=some (c:Int)/\n<=c/\c<=n+((x.branches.drop i).map Branch.nodes).sum/\(n+((x.branches.drop i).map Branch.nodes).sum<=most->c=n+((x.branches.drop i).map Branch.nodes).sum)/\(most<n+((x.branches.drop i).map Branch.nodes).sum->most<c):=by
   intro m
   induction m with
   |zero=>
    intro i n hmi h1 hsum
    rw[List.drop_eq_nil_of_le (by omega)]
    refine⟨n,by rw[F.f152,if_neg (by omega)],by simp⟩
   |succ m ih=>
    intro i n hmi h1 hsum
    have hi:i<x.branches.length:=by omega
    rw[List.drop_eq_getElem_cons hi]at hsum ⊢
    simp only[List.map_cons,List.sum_cons]at hsum ⊢
    have hbn:Branch.nodes x.branches[i]=x.branches[i].tree.nodes:=rfl
    rw[F.f152,if_pos hi]
    by_cases hle:n<=most
    ·rw[if_pos (by omega),gQ hi]
     simp only[oE,oS]
     rw[ZG (by omega) (by omega),show(most:Int) - (n:Int)=((most-n:Nat):Int)from by omega]
     obtain⟨c,e1,e2,e3,e4,e5⟩:=ihb _ (gM hi) (by omega) (most-n) (by omega)
     rw[e1]
     simp only[oS]
     rw[ZG (by omega) (by omega),show(n:Int)+(c:Int)=((n+c:Nat):Int)from by omega]
     obtain⟨d,f1,f2,f3,f4,f5⟩:=ih (i+1) (n+c) (by omega) (by omega) (by omega)
     refine⟨d,f1,by omega,by omega,fun h=> ?_,fun h=> ?_⟩
     ·have:=e4 (by omega);have:=f4 (by omega);omega
     ·by_cases q:x.branches[i].tree.nodes<=most-n
      ·have:=e4 q;exact f5 (by omega)
      ·have:=e5 (by omega);omega
    ·rw[if_neg (by omega)]
     exact⟨n,rfl,by omega,by omega,fun h=>by omega,fun h=>by omega⟩
  have l2:∀(m i n:Nat),x.els.length-i=m->1<=n->n+((x.els.drop i).map Tree.nodes).sum<=x.nodes->
    ∃c:Nat,F.f153 x most (n:Int) i=some (c:Int)/\n<=c/\c<=n+((x.els.drop i).map Tree.nodes).sum/\(n+((x.els.drop i).map Tree.nodes).sum<=most->c=n+((x.els.drop i).map Tree.nodes).sum)/\(most<n+((x.els.drop i).map Tree.nodes).sum->most<c):=by
   intro m
   induction m with
   |zero=>
    intro i n hmi h1 hsum
    rw[List.drop_eq_nil_of_le (by omega)]
    refine⟨n,by rw[F.f153,if_neg (by omega)],by simp⟩
   |succ m ih=>
    intro i n hmi h1 hsum
    have hi:i<x.els.length:=by omega
    rw[List.drop_eq_getElem_cons hi]at hsum ⊢
    simp only[List.map_cons,List.sum_cons]at hsum ⊢
    rw[F.f153,if_pos hi]
    by_cases hle:n<=most
    ·rw[if_pos (by omega),gQ hi]
     simp only[oE,oS]
     rw[ZG (by omega) (by omega),show(most:Int) - (n:Int)=((most-n:Nat):Int)from by omega]
     obtain⟨c,e1,e2,e3,e4,e5⟩:=ihe _ (gM hi) (by omega) (most-n) (by omega)
     rw[e1]
     simp only[oS]
     rw[ZG (by omega) (by omega),show(n:Int)+(c:Int)=((n+c:Nat):Int)from by omega]
     obtain⟨d,f1,f2,f3,f4,f5⟩:=ih (i+1) (n+c) (by omega) (by omega) (by omega)
     refine⟨d,f1,by omega,by omega,fun h=> ?_,fun h=> ?_⟩
     ·have:=e4 (by omega);have:=f4 (by omega);omega
     ·by_cases q:x.els[i].nodes<=most-n
      ·have:=e4 q;exact f5 (by omega)
      ·have:=e5 (by omega);omega
    ·rw[if_neg (by omega)]
     exact⟨n,rfl,by omega,by omega,fun h=>by omega,fun h=>by omega⟩
  obtain⟨c,e1,e2,e3,e4,e5⟩:=l1 _ 0 1 rfl (by omega) (by simp only[List.drop_zero];omega)
  simp only[List.drop_zero]at e3 e4 e5
  obtain⟨d,f1,f2,f3,f4,f5⟩:=l2 _ 0 c rfl (by omega) (by simp only[List.drop_zero];omega)
  simp only[List.drop_zero]at f3 f4 f5
  refine⟨d,?_,by omega,by omega,fun h=> ?_,fun h=> ?_⟩
  ·rw[F.f151]
   simp only[oE]
   rw[show((1:Int))=((1:Nat):Int)from rfl,e1]
   simp only[oS]
   rw[f1];rfl
  ·have:=e4 (by omega);have:=f4 (by omega);omega
  ·by_cases q:1+(x.branches.map Branch.nodes).sum<=most
   ·have:=e4 q;exact f5 (by omega)
   ·have:=e5 (by omega);omega
theorem P.Yb (x:Tree):F.f154 x=some (dec (right x)):=by
 induction x using Tree.ind with
 |_ x ihb ihe=>
  rw[F.f154,ZS (ZAL x)]
  rcases Classical.em (x.op<0)with h|h
  ·rw[if_pos h,ZH (by omega)]
  rcases Classical.em (2<x.op)with h2|h2
  ·rw[if_neg h,if_pos h2,ZH (by omega)]
  rcases Classical.em (1<x.els.length)with h3|h3
  ·rw[if_neg h,if_neg h2,if_pos h3,ZH (by omega)]
  rcases Classical.em (10<x.branches.length)with h4|h4
  ·rw[if_neg h,if_neg h2,if_neg h3,if_pos h4,ZH (by omega)]
  rw[if_neg h,if_neg h2,if_neg h3,if_neg h4,ZG6 (n:=x.branches.length) (r:=false) (Q:=fun i=>∀(h:i<x.branches.length),right x.branches[i].tree) (L:=F.f155 x)
   (fun k hk=>by rw[F.f155,if_neg (by omega)])
   (fun k hk hq=>by
    rw[F.f155,if_pos hk,gQ hk]
    simp only[oE,oS]
    rw[ihb _ (gM hk)]
    simp only[oS]
    rw[if_pos (ZI (hq hk))])
   (fun k hk hq=>by
    rw[F.f155,if_pos hk,gQ hk]
    simp only[oE,oS]
    rw[ihb _ (gM hk)]
    simp only[oS]
    rw[if_neg (fun q=>hq fun _=>ZDL.1 q)]) _ 0 rfl]
  simp only[oE,oS]
  by_cases hall:∀j,0<=j->j<x.branches.length->∀(h:j<x.branches.length),right x.branches[j].tree
  ·have hb:∀b,b∈x.branches->right b.tree:=fun b hb=>by obtain⟨j,hj,rfl⟩:=List.getElem_of_mem hb;exact hall j (by omega) hj hj
   rw[if_pos (ZI hall)]
   simp only
   by_cases h5:x.els.length=0
   ·rw[if_pos h5,ZI ⟨by omega,hb,fun y hy=>by rw[List.eq_nil_of_length_eq_zero h5]at hy;cases hy⟩]
   ·have h0:0<x.els.length:=by omega
    rw[if_neg h5,gQ h0]
    simp only[oS]
    rw[ihe _ (gM h0)]
    simp only[oS]
    congr 1
    refine ZS ⟨fun q=>⟨by omega,hb,fun y hy=> ?_⟩,fun q=>q.2.2 _ (gM h0)⟩
    obtain⟨j,hj,rfl⟩:=List.getElem_of_mem hy
    have:j=0:=by omega
    subst this;exact q
  ·rw[if_neg (by rw[ZH hall];simp),ZH fun q=>hall fun j _ hj h=>q.2.1 _ (gM hj)]
theorem P.YAQ (x:Tree)(hw:x.wt<=1048576):F.f204 x=some (dec (right x)):=by
 induction x using Tree.ind with
 |_ x ihb ihe=>
  have hw2:=hw
  rw[Tree.wt_eq]at hw2
  rw[F.f204,ZS (ZAL x)]
  have hwi:F.f172 x.op 0 2=some (dec (0<=x.op/\x.op<=2)):=by
   unfold F.f172
   by_cases h:0<=x.op
   ·rw[if_pos h,←ZAT];congr 1;exact ZS ⟨fun q=>⟨h,q⟩,fun q=>q.2⟩
   ·rw[if_neg h,ZH fun q=>h q.1]
  rw[hwi]
  simp only[oE,oS]
  rcases Classical.em (0<=x.op/\x.op<=2)with h|h
  rotate_left
  ·rw[if_neg (by rw[ZH h];simp),ZH fun q=>h ⟨q.1.1,q.1.2.1⟩]
  rcases Classical.em (x.branches.length<=10)with h4|h4
  rotate_left
  ·rw[if_pos (ZI h),if_neg h4,ZH fun q=>h4 q.1.2.2.2]
  rcases Classical.em (x.els.length<=1)with h3|h3
  rotate_left
  ·rw[if_pos (ZI h),if_pos h4,if_neg h3,ZH fun q=>h3 q.1.2.2.1]
  rw[if_pos (ZI h),if_pos h4,if_pos h3,P.YV x hw]
  simp only[oS]
  have one:∀y,y∈x.branches.map (·.tree)++x.els->F.f205 y=some (!dec (right y)):=by
   intro y hy
   rw[F.f205]
   rcases List.mem_append.1 hy with hy|hy
   ·obtain⟨b,hb,rfl⟩:=List.mem_map.1 hy
    rw[ihb b hb (by have:=Zf Branch.wt hb;have:Branch.wt b=b.tree.wt:=rfl;omega)];rfl
   ·rw[ihe y hy (by have:=Zf Tree.wt hy;omega)];rfl
  generalize hl:x.branches.map (·.tree)++x.els=l at one ⊢
  rw[F.f206,F.f207]
  rw[ZMJ (a:=l) (p:=fun y=>¬right y) (L:=F.f208 l) (fun k hk=>by rw[F.f208,if_neg (by omega)])
   (fun k hk hp=>by rw[F.f208,if_pos hk,gQ hk];simp only[oE,oS];rw[one _ (gM hk)];simp only[oS];rw[ZI (Classical.not_not.1 hp)];rfl)
   (fun k hk hp=>by rw[F.f208,if_pos hk,gQ hk];simp only[oE,oS];rw[one _ (gM hk)];simp only[oS];rw[ZH hp];rfl) _ 0 rfl,List.drop_zero]
  have hmem:(∀y,y∈l->right y)↔(∀b,b∈x.branches->right b.tree)/\∀y,y∈x.els->right y:=by
   subst hl
   exact⟨fun q=>⟨fun b hb=>q _ (List.mem_append_left _ (List.mem_map_of_mem hb)),fun y hy=>q _ (List.mem_append_right _ hy)⟩,fun q y hy=>by
    rcases List.mem_append.1 hy with hy|hy
    ·obtain⟨b,hb,rfl⟩:=List.mem_map.1 hy;exact q.1 b hb
    ·exact q.2 y hy⟩
  cases hf:ZEU (fun y=>¬right y) 0 l with
  |none=>
   have:=ZBF hf
   simp only[oE,oS]
   rw[ZI ⟨⟨h.1,h.2,h3,h4⟩,hmem.1 fun y hy=>Classical.not_not.1 (this y hy)⟩];rfl
  |some j=>
   obtain⟨_,h2,h5,_⟩:=ZBE hf
   simp only[oE,oS]
   rw[ZH fun q=>h5 (hmem.2 q.2 _ (gM _))];simp
theorem P.Yx (x:Tree)(hw:x.wt<=1048576):(F.f169 x=some ([],false)/\F.f224 x=some ([],false)/\¬(x.nodes<=300/\right x))∨
  (x.nodes<=300/\right x/\∃l k,F.f169 x=some (l,true)/\F.f224 x=some (l,true)/\Added [] x l k):=by
 have hn:=x.nodes_le
 obtain⟨c,e1,e2,e3,e4,e5⟩:=P.Yi x (by omega) 300 (by omega)
 unfold F.f169 F.f224
 have e1:F.f151 x 300=some (c:Int):=e1
 rw[e1,P.YX x (by omega)]
 simp only[oE,oS]
 by_cases h:300<x.nodes
 ·have:=e5 h
  rw[if_pos (by omega),if_pos (by omega)]
  exact .inl ⟨rfl,rfl,fun q=>by omega⟩
 ·have:=e4 (by omega)
  rw[if_neg (by omega),if_neg (by omega),P.Yb,P.YAQ x (by omega)]
  simp only[oS]
  by_cases hr:right x
  ·rw[if_pos (ZI hr),if_pos (ZI hr)]
   obtain⟨l,k,f1,f2,f3⟩:=P.YAX x hr (by omega) [] ⟨List.nodup_nil,fun k hk=>by simp at hk⟩ (by simp;omega)
   rw[f1,f2]
   simp only[oS]
   exact .inr ⟨by omega,hr,l,k,rfl,rfl,f3⟩
  ·rw[if_neg (by rw[ZH hr];simp),if_neg (by rw[ZH hr];simp)]
   exact .inl ⟨rfl,rfl,fun q=>hr q.2⟩
theorem P.YAW (x:Tree):right x->x.wt<=1048576->∀list,Inv list->list.length+x.nodes<=67108864->
  ∃list' k,F.f167 list x=some (list',((k:Nat):Int))/\Added list x list' k:=by
 induction x using Tree.ind with
 |_ x ihb ihe=>
  intro hx hw list hinv hlen
  obtain⟨⟨r1,r2,r3,r4⟩,rb,re⟩:=(ZAL x).1 hx
  have hn:=x.nodes_eq
  have hw2:=hw
  rw[Tree.wt_eq]at hw2
  have w1:=Zh PathBind.wt x.binds
  have w2:=Zh (fun _:Int=>0) x.path
  have wp:∀b,b∈x.binds->b.path.length<=67108864:=fun b hb=>by
   have:=Zf PathBind.wt hb
   have h3:b.path.length<=PathBind.wt b:=by unfold PathBind.wt;have:=Zh (fun _:Int=>0) b.path;omega
   omega
  have lp:∀(m i:Nat) (out:List Edge) (l:List Node),x.branches.length-i=m->LI x list i out l->
    ∃es l',F.f168 x x.binds (-1) out l i=some (es,l')/\LI x list x.branches.length es l':=by
   intro m
   induction m with
   |zero=>
    intro i out l hm h
    have hi:=h.hi
    have:i=x.branches.length:=by omega
    subst this
    exact⟨out,l,by rw[F.f168,if_neg (by omega)],h⟩
   |succ m ih=>
    intro i out l hm h
    have hi:i<x.branches.length:=by omega
    have hs:=ZBv (f:=Branch.nodes) hi
    have hs2:=ZC1 (f:=Branch.nodes) (l:=x.branches) (i+1)
    have hbn:Branch.nodes x.branches[i]=x.branches[i].tree.nodes:=rfl
    have hl:=h.len
    have hbm:=gM hi
    have hbw:=Zf Branch.wt hbm
    have hbw2:Branch.wt x.branches[i]=x.branches[i].tree.wt:=rfl
    obtain⟨l2,k,g1,g3⟩:=ihb _ hbm (rb _ hbm) (by omega) l h.inv (by omega)
    have hout:=h.ho
    have hrep2:∀i' (h:i'<(out++[(⟨x.branches[i].ctor,x.branches[i].n,x.branches[i].m,(k:Int)⟩:Edge)]).length) (h2:i'<x.branches.length),∃j:Nat,(out++[(⟨x.branches[i].ctor,x.branches[i].n,x.branches[i].m,(k:Int)⟩:Edge)])[i']=⟨x.branches[i'].ctor,x.branches[i'].n,x.branches[i'].m,(j:Int)⟩/\Rep l2 j x.branches[i'].tree:=by
     intro i' a1 a2
     by_cases q:i'<out.length
     ·obtain⟨j,b1,b2⟩:=h.rep i' q a2
      exact⟨j,(List.getElem_append_left q).trans b1,b2.mono g3.pre⟩
     ·have:i'=i:=by simp at a1;omega
      subst this
      exact⟨k,by rw[List.getElem_append_right (by omega)];simp,g3.rep⟩
    have hsub2:∀i',list.length<=i'->i'<l2.length->∃y,(∃b,b∈x.branches/\Sub y b.tree)/\Rep l2 i' y:=by
     intro i' a1 a2
     by_cases q:i'<l.length
     ·obtain⟨y,b1,b2⟩:=h.sub i' a1 q
      exact⟨y,b1,b2.mono g3.pre⟩
     ·obtain⟨y,b1,b2⟩:=g3.sub i' (by omega) a2
      exact⟨y,⟨_,hbm,b1⟩,b2⟩
    obtain⟨es,l',f1,f3⟩:=ih (i+1) (out++[⟨x.branches[i].ctor,x.branches[i].n,x.branches[i].m,(k:Int)⟩]) l2 (by omega) ⟨by omega,by simp;omega,h.pre.trans g3.pre,g3.inv,by have:=g3.len;omega,hrep2,hsub2⟩
    refine⟨es,l',?_,f3⟩
    ·rw[F.f168,if_pos hi,gQ hi]
     simp only[oE,oS]
     rw[g1]
     simp only[oS]
     rw[if_pos (by omega)];exact f1
  obtain⟨es,l1,e1,e3⟩:=lp _ 0 [] list rfl ⟨by omega,rfl,List.prefix_refl _,hinv,by simp,fun i' h=>by simp at h,fun i' a1 a2=>by omega⟩
  have hlen1:=e3.len
  rw[List.take_of_length_le (Nat.le_refl _)]at hlen1
  have hsub1:∀i',list.length<=i'->i'<l1.length->∃y,Sub y x/\y.nodes<x.nodes/\Rep l1 i' y:=fun i' a1 a2=>by
   obtain⟨y,⟨b,hb,b1⟩,b2⟩:=e3.sub i' a1 a2
   have h1:=b1.nodes
   have h2:=ZA9 (f:=Branch.nodes) hb
   have h3:Branch.nodes b=b.tree.nodes:=rfl
   exact⟨y,.br y x b hb b1,by omega,b2⟩
  have hbinds:F.f157 x.binds=some x.binds:=P.YN _ (by omega) wp
  rw[F.f167,hbinds]
  simp only[oE,oS,F.f158]
  rw[if_pos (by omega),e1]
  simp only[oS]
  cases hels:x.els with
  |nil=>
   rw[hels]at hn
   simp only[List.map_nil,List.sum_nil,Nat.add_zero]at hn
   rw[if_neg (by simp)]
   obtain⟨a1,a2⟩:=ZCE (e:= -1) e3.pre e3.inv (by omega) e3.ho e3.rep (fun _=>rfl) r3 (fun y hy=>by rw[hels]at hy;cases hy) hsub1
   rw[ZEV (n:=(⟨x.op,x.clause,x.binds,x.path,es,-1⟩:Node)) (l:=l1) (x:=fun _=>none) (L:=F.f166 x x.binds (-1) (es,l1)) (fun k hk=>by rw[F.f166,if_neg (by simpa using hk)])
    (fun k hk hp=>by rw[F.f166,if_pos hk,gQ hk];simp only[oE,oS];rw[P.YA];simp only[oS];rw[if_neg (by rw[ZH hp];simp)])
    (fun k hk hp=>by rw[F.f166,if_pos hk,gQ hk];simp only[oE,oS];rw[P.YA];simp only[oS];rw[if_pos (ZI hp)]) _ 0 rfl,List.drop_zero]
   change ∃list' k,Option.bind (some (match ZAY l1 (Zb x es (-1))with|some j=>Lo.ret (l1,(j:Int))|none=>Lo.go ())) _=_/\_
   cases hf:ZAY l1 (Zb x es (-1))with
   |some j=>
    simp only[oS]
    exact⟨l1,j,rfl,a1 j hf⟩
   |none=>
    simp only[oS]
    rw[if_pos (by omega)]
    exact⟨_,l1.length,rfl,a2 hf⟩
  |cons y r=>
   have hr:r=[]:=by rw[hels]at r3;simp at r3;exact r3
   subst hr
   have hym:y∈x.els:=by rw[hels];simp
   rw[hels]at hn
   simp only[List.map_cons,List.map_nil,List.sum_cons,List.sum_nil]at hn
   have hyw:=Zf Tree.wt hym
   obtain⟨l2,k2,g1,g3⟩:=ihe y hym (re y hym) (by omega) l1 e3.inv (by omega)
   rw[if_pos (by simp)]
   simp only[List.getElem?_cons_zero,oS]
   rw[g1]
   simp only[oS]
   have hlen2:=g3.len
   obtain⟨a1,a2⟩:=ZCE (x:=x) (es:=es) (e:=(k2:Int)) (e3.pre.trans g3.pre) g3.inv (by omega) e3.ho (fun i q1 q2=>by obtain⟨j,b1,b2⟩:=e3.rep i q1 q2;exact⟨j,b1,b2.mono g3.pre⟩)
    (fun q=>by rw[hels]at q;cases q) r3 (fun z hz=>by rw[hels]at hz;simp at hz;subst hz;exact⟨k2,rfl,g3.rep⟩)
    (fun i' q1 q2=>by
     by_cases q:i'<l1.length
     ·obtain⟨z,b1,b3,b2⟩:=hsub1 i' q1 q;exact⟨z,b1,b3,b2.mono g3.pre⟩
     ·obtain⟨z,b1,b2⟩:=g3.sub i' (by omega) q2;exact⟨z,.els z x y hym b1,by have:=b1.nodes;omega,b2⟩)
   rw[ZEV (n:=(⟨x.op,x.clause,x.binds,x.path,es,(k2:Int)⟩:Node)) (l:=l2) (x:=fun _=>none) (L:=F.f165 x x.binds (es,l1) (l2,(k2:Int))) (fun k hk=>by rw[F.f165,if_neg (by simpa using hk)])
    (fun k hk hp=>by rw[F.f165,if_pos hk,gQ hk];simp only[oE,oS];rw[P.YA];simp only[oS];rw[if_neg (by rw[ZH hp];simp)])
    (fun k hk hp=>by rw[F.f165,if_pos hk,gQ hk];simp only[oE,oS];rw[P.YA];simp only[oS];rw[if_pos (ZI hp)]) _ 0 rfl,List.drop_zero]
   change ∃list' k,Option.bind (some (match ZAY l2 (Zb x es (k2:Int))with|some j=>Lo.ret (l2,(j:Int))|none=>Lo.go ())) _=_/\_
   cases hf:ZAY l2 (Zb x es (k2:Int))with
   |some j=>
    simp only[oS]
    exact⟨l2,j,rfl,a1 j hf⟩
   |none=>
    simp only[oS]
    rw[if_pos (by omega)]
    exact⟨_,l2.length,rfl,a2 hf⟩
theorem P.Yw (x:Tree)(hw:x.wt<=1048576):F.f169 x=some ([],false)∨
  (x.nodes<=300/\right x/\∃l k,F.f169 x=some (l,true)/\Added [] x l k):=by
 have hn:=x.nodes_le
 obtain⟨c,e1,e2,e3,e4,e5⟩:=P.Yi x (by omega) 300 (by omega)
 unfold F.f169
 have e1:F.f151 x 300=some (c:Int):=e1
 rw[e1]
 simp only[oE,oS]
 by_cases h:300<x.nodes
 ·have:=e5 h
  rw[if_pos (by omega)]
  exact .inl rfl
 ·have:=e4 (by omega)
  rw[if_neg (by omega),P.Yb]
  simp only[oS]
  by_cases hr:right x
  ·rw[if_pos (ZI hr)]
   obtain⟨l,k,f1,f3⟩:=P.YAW x hr (by omega) [] ⟨List.nodup_nil,fun k hk=>by simp at hk⟩ (by simp;omega)
   rw[f1]
   simp only[oS]
   exact .inr ⟨by omega,hr,l,k,rfl,f3⟩
  ·rw[if_neg (by rw[ZH hr];simp)]
   exact .inl rfl
theorem P.YR (a b:List Int):F.f195 a b=some (dec (a=b)):=by
 unfold F.f195
 by_cases hl:a.length=b.length
 ·rw[if_pos hl,ZGJ hl (L:=F.f194 a b) (fun i=>by rw[F.f194])]
  by_cases h:a=b
  ·rw[if_pos (ZI h),ZI h];rfl
  ·rw[if_neg (by rw[ZH h];simp),ZH h];rfl
 ·rw[if_neg hl,ZH fun h=>hl (by rw[h])]
end Go.Vl
