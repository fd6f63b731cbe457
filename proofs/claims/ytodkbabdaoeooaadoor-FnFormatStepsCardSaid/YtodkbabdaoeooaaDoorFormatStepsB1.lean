/- A part of the proof. -/
import Derived.Test.YtodkbabdaoeooaaDoorVlQ
import Derived.Test.YtodkbabdaoeooaaDoorFormatStepsE
set_option linter.all false
set_option maxRecDepth 100000
namespace Go.Vl
open Go Go.RowKit
open Go.IntKind (i64)
theorem oS {α β:Type}{a:α}{f:α->Option β}:(some a).bind f=f a:=rfl
theorem oE {α β:Type}:(bind:Option α->(α->Option β)->Option β)=Option.bind:=rfl
theorem gQ {α:Type}{l:List α}{i:Nat}(h:i<l.length):l[i]? =some l[i]:=List.getElem?_eq_getElem h
theorem gM {α:Type}{l:List α}{n:Nat}(h:n<l.length):l[n]∈l:=List.getElem_mem h
noncomputable def ZJp {α:Type}(p:α->Prop):Nat->List α->Option Nat
 |_,[]=>none
 |k,x::r=>if dec (p x)=true then some k else ZJp p (k+1) r
theorem ZD9 {α:Type}{p:α->Prop}:∀{l:List α} {k j:Nat},ZJp p k l=some j->k<=j/\∃h:j-k<l.length,p l[j-k]/\∀i (hi:i<l.length),i<j-k->¬p l[i]
 |x::r,k,j,h=>by
  simp only[ZJp]at h
  split at h
  ·next hp=>
   obtain rfl:=Option.some.inj h
   refine⟨Nat.le_refl _,by simp,?_,fun i _ hi=>by omega⟩
   simpa using ZFl.1 hp
  ·next hp=>
   obtain⟨h1,h2,h3,h4⟩:=ZD9 h
   have e:j-k=(j- (k+1))+1:=by omega
   refine⟨by omega,by simp;omega,?_,fun i hi hlt=> ?_⟩
   ·simp only[e,List.getElem_cons_succ];exact h3
   ·cases i with
    |zero=>exact fun hq=>hp (ZJ hq)
    |succ i=>exact h4 i (by simpa using hi) (by omega)
theorem ZEA {α:Type}{p:α->Prop}:∀{l:List α} {k:Nat},ZJp p k l=none->∀x,x∈l->¬p x
 | [],_,_=>fun x hx=>by cases hx
 |x::r,k,h=>by
  simp only[ZJp]at h
  split at h
  ·cases h
  ·next hp=>
   intro y hy
   rcases List.mem_cons.1 hy with rfl|hy
   ·exact fun hq=>hp (ZJ hq)
   ·exact ZEA h y hy
theorem ZSP {α:Type}{a:List α}{p:α->Prop}{L:Nat->Option (Lo Int Unit)}(h0:∀k,a.length<=k->L k=some (.go ()))(h1:∀k (h:k<a.length),¬p a[k]->L k=L (k+1))
  (h2:∀k (h:k<a.length),p a[k]->L k=some (.ret (k:Int))):∀(m k:Nat),a.length-k=m->L k=some (match ZJp p k (a.drop k)with|some j=>.ret (j:Int)|none=>.go ()):=by
 intro m
 induction m with
 |zero=>intro k hm;rw[h0 k (by omega),List.drop_eq_nil_of_le (by omega)];rfl
 |succ m ih=>
  intro k hm
  have hk:k<a.length:=by omega
  rw[List.drop_eq_getElem_cons hk]
  by_cases hp:p a[k]
  ·rw[h2 k hk hp];simp only[ZJp];rw[if_pos (ZJ hp)]
  ·rw[h1 k hk hp,ih (k+1) (by omega)];simp only[ZJp];rw[if_neg (by rw[ZF hp];simp)]
def ZRY (c:Nat):Prop:=65<=c/\c<=90
def ZFn (s:ByteArray):Prop:=s.size=1/\ZRY (byteAt s 0)/\s≠⟨#[73]⟩
def ZLC (s:ByteArray):Prop:=1<=s.size/\s.size<=5/\ZRY (byteAt s 0)/\∀i,1<=i->i<s.size->97<=byteAt s i/\byteAt s i<=122
def ZFx (n:Nat)(t:Ty):Prop:=(t.data= -1/\t.index=0)∨(0<=t.data/\t.data<n/\-1<=t.index/\t.index<=3)
def ZIt (n:Nat)(c:Ctor):Prop:=ZLC c.name/\c.args.length<=3/\0<=c.index/\c.index<=3/\∀j,0<=j->(h:j<c.args.length)->ZFx n c.args[j]
theorem P.Yc (c:Nat):F.f11 c=some (dec (ZRY c)):=by
 unfold F.f11
 by_cases h:65<=(c:Int)
 ·rw[if_pos h];congr 1;rw[←ZAq];exact ZX ⟨fun h'=>⟨by omega,by omega⟩,fun h'=>by have:=h'.2;omega⟩
 ·rw[if_neg h,ZF fun h'=>h (by have:=h'.1;omega)]
theorem P.Yx (s:ByteArray):F.f12 s=some (dec (ZFn s)):=by
 unfold F.f12
 by_cases h:s.size=1
 ·rw[if_pos h,if_pos (by omega),P.Yc]
  simp only[oE,oS]
  by_cases hb:ZRY (byteAt s 0)
  ·rw[if_pos (ZJ hb)];congr 1;rw[←ZAq];exact ZX ⟨fun h'=>⟨h,hb,fun e=>h' (by rw[e])⟩,fun h' e=>h'.2.2 (ZAs.1 e)⟩
  ·rw[if_neg (by rw[ZF hb];simp),ZF fun h'=>hb h'.2.1]
 ·rw[if_neg h,ZF fun h'=>h h'.1]
theorem P.Yq (s:ByteArray)(hs:s.size<=1048576):F.f13 s 1=some (if dec (∀i,1<=i->i<s.size->97<=byteAt s i/\byteAt s i<=122)=true then .go ()else .ret false):=by
 refine ZLs (L:=F.f13 s) (fun k hk=> ?_) (fun k hk hq=> ?_) (fun k hk hq=> ?_) _ 1 rfl
 ·rw[F.f13,if_neg (by omega)]
 ·rw[F.f13,if_pos hk,if_neg (by omega),if_neg (by omega),if_pos (by omega)]
 ·rw[F.f13,if_pos hk]
  by_cases h:byteAt s k<97
  ·rw[if_pos h]
  ·rw[if_neg h,if_pos (by omega)]
theorem P.Ye (s:ByteArray)(hs:s.size<=1048576):F.f14 s=some (dec (ZLC s)):=by
 unfold F.f14
 by_cases h0:s.size=0
 ·rw[if_pos h0,ZF fun h=>by have:=h.1;omega]
 by_cases h5:5<s.size
 ·rw[if_neg h0,if_pos h5,ZF fun h=>by have:=h.2.1;omega]
 rw[if_neg h0,if_neg h5,if_pos (by omega),P.Yc]
 simp only[oE,oS]
 by_cases hb:ZRY (byteAt s 0)
 ·rw[if_pos (ZJ hb),P.Yq s hs]
  simp only[oS]
  by_cases hall:∀i,1<=i->i<s.size->97<=byteAt s i/\byteAt s i<=122
  ·rw[if_pos (ZJ hall),ZJ ⟨by omega,by omega,hb,hall⟩]
  ·rw[if_neg (by rw[ZF hall];simp),ZF fun h=>hall h.2.2.2]
 ·rw[if_neg (by rw[ZF hb];simp),ZF fun h=>hb h.2.2.1]
theorem P.YR (n:Nat)(t:Ty):F.f15 n t=some (dec (ZFx n t)):=by
 unfold F.f15
 by_cases h:t.data= -1
 ·rw[if_pos h];congr 1;rw[←ZAq];exact ZX ⟨fun h'=>.inl ⟨h,h'⟩,fun h'=>h'.elim (·.2) (fun h'=>by have:=h'.1;omega)⟩
 rw[if_neg h]
 by_cases h1:0<=t.data
 ·by_cases h2:t.data<n
  ·by_cases h3: -1<=t.index
   ·rw[if_pos h1,if_pos h2,if_pos h3];congr 1;rw[←ZAq];exact ZX ⟨fun h'=>.inr ⟨h1,h2,h3,h'⟩,fun h'=>h'.elim (fun h'=>absurd h'.1 h) (fun h'=>h'.2.2.2)⟩
   ·rw[if_pos h1,if_pos h2,if_neg h3,ZF fun h'=>h'.elim (fun h'=>h h'.1) (fun h'=>h3 h'.2.2.1)]
  ·rw[if_pos h1,if_neg h2,ZF fun h'=>h'.elim (fun h'=>h h'.1) (fun h'=>h2 h'.2.1)]
 ·rw[if_neg h1,ZF fun h'=>h'.elim (fun h'=>h h'.1) (fun h'=>h1 h'.1)]
theorem P.YZ (n:Nat)(c:Ctor)(hs:c.name.size<=1048576):F.f17 n c=some (dec (ZIt n c)):=by
 unfold F.f17
 rw[P.Ye _ hs]
 simp only[oE,oS]
 by_cases h1:ZLC c.name
 ·rw[if_pos (ZJ h1)]
  by_cases h2:3<c.args.length
  ·rw[if_pos h2,ZF fun h=>by have:=h.2.1;omega]
  by_cases h3:c.index<0
  ·rw[if_neg h2,if_pos h3,ZF fun h=>by have:=h.2.2.1;omega]
  by_cases h4:3<c.index
  ·rw[if_neg h2,if_neg h3,if_pos h4,ZF fun h=>by have:=h.2.2.2.1;omega]
  rw[if_neg h2,if_neg h3,if_neg h4]
  have key:F.f16 n c 0=some (if dec (∀j,0<=j->j<c.args.length->∀h:j<c.args.length,ZFx n c.args[j])=true then .go ()else .ret false):=by
   refine ZLs (n:=c.args.length) (Q:=fun j=>∀h:j<c.args.length,ZFx n c.args[j]) (L:=F.f16 n c) (fun k hk=> ?_) (fun k hk hq=> ?_) (fun k hk hq=> ?_) _ 0 rfl
   ·rw[F.f16,if_neg (by omega)]
   ·rw[F.f16,if_pos hk,gQ hk]
    simp only[oE,oS]
    rw[P.YR]
    simp only[oS]
    rw[if_pos (ZJ (hq hk))]
   ·rw[F.f16,if_pos hk,gQ hk]
    simp only[oE,oS]
    rw[P.YR]
    simp only[oS]
    rw[if_neg (by rw[ZF fun h=>hq fun _=>h];simp)]
  rw[key]
  simp only[oS]
  by_cases hall:∀j,0<=j->j<c.args.length->∀h:j<c.args.length,ZFx n c.args[j]
  ·rw[if_pos (ZJ hall),ZJ ⟨h1,by omega,by omega,by omega,fun j h0 hj=>hall j h0 hj hj⟩]
  ·rw[if_neg (by rw[ZF hall];simp),ZF fun h=>hall fun j h0 _ hj=>h.2.2.2.2 j h0 hj]
 ·rw[if_neg (by rw[ZF h1];simp),ZF fun h=>h1 h.1]
abbrev ZN4 (d:Data):List ByteArray:=d.ctors.map (·.name)
structure ctorAt (w:List Data)(i:Nat)(d:Data)(k:Nat)(c:Ctor):Prop where
 ok:ZIt w.length c
 new:c.name∉(w.take i).flatMap ZN4++(d.ctors.take k).map (·.name)
structure dataAt (w:List Data)(i:Nat)(d:Data):Prop where
 name:ZFn d.name
 new:d.name∉(w.take i).map (·.name)
 some:1<=d.ctors.length
 few:d.ctors.length<=4
 ctors:∀k,0<=k->k<d.ctors.length->∀h:k<d.ctors.length,ctorAt w i d k d.ctors[k]
def ZR (w:List Data):Prop:=w.length<=4/\∀i,0<=i->i<w.length->∀h:i<w.length,dataAt w i w[i]
def ZBI (w:List Data):Prop:=w.length<=1048576/\∀d,d∈w->∀c,c∈d.ctors->c.name.size<=1048576
theorem P.Yu (w:List Data)(hw:ZBI w)(d k i:Nat)(hd:d<w.length)(hk:k<w[d].ctors.length)(hi:i<d)(hl:w[d].ctors.length<=4)(hli:w[i].ctors.length<=4):F.f18 w d k i 0=
  some (if dec (∀j,0<=j->j<w[i].ctors.length->∀h:j<w[i].ctors.length,w[i].ctors[j].name≠w[d].ctors[k].name)=true then .go ()else .ret true):=by
 have hi':i<w.length:=by omega
 refine ZLs (n:=w[i].ctors.length) (r:=true) (Q:=fun j=>∀h:j<w[i].ctors.length,w[i].ctors[j].name≠w[d].ctors[k].name) (L:=F.f18 w d k i) (fun j hj=> ?_) (fun j hj hq=> ?_) (fun j hj hq=> ?_) _ 0 rfl
 ·rw[F.f18,gQ hi']
  simp only[oE,oS]
  rw[if_neg (by omega)]
 ·rw[F.f18,gQ hi']
  simp only[oE,oS]
  rw[if_pos hj,if_pos (by omega),ZEL hd]
  simp only[oS]
  rw[if_pos (by omega),gQ hj,ZEL hk]
  simp only[oS]
  rw[if_neg (fun h=>hq hj (ZAs.1 h)),if_pos (by omega)]
 ·rw[F.f18,gQ hi']
  simp only[oE,oS]
  rw[if_pos hj,if_pos (by omega),ZEL hd]
  simp only[oS]
  rw[if_pos (by omega),gQ hj,ZEL hk]
  simp only[oS]
  rw[if_pos (ZAs.2 (Classical.byContradiction fun h=>hq fun _=>h))]
theorem P.Yt (w:List Data)(hw:ZBI w)(d k:Nat)(hd:d<w.length)(hk:k<w[d].ctors.length)(hl:w[d].ctors.length<=4):F.f19 w d k d 0=
  some (if dec (∀j,0<=j->j<k->∀h:j<w[d].ctors.length,w[d].ctors[j].name≠w[d].ctors[k].name)=true then .go ()else .ret true):=by
 refine ZLs (n:=k) (r:=true) (Q:=fun j=>∀h:j<w[d].ctors.length,w[d].ctors[j].name≠w[d].ctors[k].name) (L:=F.f19 w d k d) (fun j hj=> ?_) (fun j hj hq=> ?_) (fun j hj hq=> ?_) _ 0 rfl
 ·rw[F.f19,gQ hd]
  simp only[oE,oS]
  rcases Nat.lt_or_ge j w[d].ctors.length with h|h
  ·rw[if_pos h,if_neg (by omega),if_neg (by omega)]
  ·rw[if_neg (by omega)]
 ·have hj':j<w[d].ctors.length:=Nat.lt_trans hj hk
  rw[F.f19,gQ hd]
  simp only[oE,oS]
  rw[if_pos hj',if_neg (by omega),if_pos (by omega),ZEL hd]
  simp only[oS]
  rw[if_pos (by omega),gQ hj',ZEL hk]
  simp only[oS]
  rw[if_neg (fun h=>hq hj' (ZAs.1 h)),if_pos (by omega)]
 ·have hj':j<w[d].ctors.length:=Nat.lt_trans hj hk
  rw[F.f19,gQ hd]
  simp only[oE,oS]
  rw[if_pos hj',if_neg (by omega),if_pos (by omega),ZEL hd]
  simp only[oS]
  rw[if_pos (by omega),gQ hj',ZEL hk]
  simp only[oS]
  rw[if_pos (ZAs.2 (Classical.byContradiction fun h=>hq fun _=>h))]
structure fresh (w:List Data)(d k i:Nat)(hd:d<w.length)(hk:k<w[d].ctors.length):Prop where
 data:i<d->∀h:i<w.length,w[i].name≠w[d].name
 ctor:i<d->∀h:i<w.length,∀j,0<=j->j<w[i].ctors.length->∀h:j<w[i].ctors.length,w[i].ctors[j].name≠w[d].ctors[k].name
 own:i=d->∀j,0<=j->j<k->∀h:j<w[d].ctors.length,w[d].ctors[j].name≠w[d].ctors[k].name
theorem P.YW (w:List Data)(hw:ZBI w)(d k:Nat)(hd:d<w.length)(hk:k<w[d].ctors.length)(hw4:w.length<=4)(hl:∀i,i<=d->∀h:i<w.length,w[i].ctors.length<=4):F.f21 w d k=some (!dec (∀i,0<=i->i<d+1->fresh w d k i hd hk)):=by
 unfold F.f21
 have key:F.f20 w d k 0=some (if dec (∀i,0<=i->i<d+1->fresh w d k i hd hk)=true then .go ()else .ret true):=by
  refine ZLs (n:=d+1) (r:=true) (Q:=fun i=>fresh w d k i hd hk) (L:=F.f20 w d k) (fun i hi=> ?_) (fun i hi hq=> ?_) (fun i hi hq=> ?_) _ 0 rfl
  ·rw[F.f20,if_neg (by omega)]
  ·rw[F.f20,if_pos (by omega)]
   by_cases h:i<d
   ·have hi':i<w.length:=by omega
    rw[if_pos (by omega),gQ hi',ZEL hd]
    simp only[oE,oS]
    rw[if_neg (fun e=>hq.data h hi' (ZAs.1 e)),P.Yu w hw d k i hd hk h (hl d (Nat.le_refl _) hd) (hl i (by omega) hi'),if_pos (ZJ (hq.ctor h hi'))]
    simp only[oS]
    rw[if_pos (by omega)]
   ·obtain rfl:i=d:=by omega
    rw[if_neg (by omega),P.Yt w hw i k hd hk (hl i (Nat.le_refl _) hd),if_pos (ZJ (hq.own rfl))]
    simp only[oE,oS]
    rw[if_pos (by omega)]
  ·rw[F.f20,if_pos (by omega)]
   by_cases h:i<d
   ·have hi':i<w.length:=by omega
    rw[if_pos (by omega),gQ hi',ZEL hd]
    simp only[oE,oS]
    by_cases hn:w[i].name=w[d].name
    ·rw[if_pos (ZAs.2 hn)]
    ·rw[if_neg (fun e=>hn (ZAs.1 e)),P.Yu w hw d k i hd hk h (hl d (Nat.le_refl _) hd) (hl i (by omega) hi'),if_neg (by rw[ZF fun hh=>hq ⟨fun _ _=>hn,fun _ _=>hh,fun e=>by omega⟩];simp)]
     rfl
   ·obtain rfl:i=d:=by omega
    rw[if_neg (by omega),P.Yt w hw i k hd hk (hl i (Nat.le_refl _) hd),if_neg (by rw[ZF fun hh=>hq ⟨fun e=>by omega,fun e=>by omega,fun _=>hh⟩];simp)]
    rfl
 rw[key]
 simp only[oE,oS]
 by_cases hall:∀i,0<=i->i<d+1->fresh w d k i hd hk
 ·rw[if_pos (ZJ hall),ZJ hall];rfl
 ·rw[if_neg (by rw[ZF hall];simp),ZF hall];rfl
theorem ZD8 (w:List Data)(d k:Nat)(hd:d<w.length)(hk:k<w[d].ctors.length):(∀i,0<=i->i<d+1->fresh w d k i hd hk)↔w[d].name∉(w.take d).map (·.name)/\w[d].ctors[k].name∉(w.take d).flatMap ZN4++(w[d].ctors.take k).map (·.name):=by
 constructor
 ·intro h
  refine⟨fun hm=> ?_,fun hm=> ?_⟩
  ·obtain⟨x,hx,e⟩:=List.mem_map.1 hm
   obtain⟨i,hi,rfl⟩:=List.mem_take_iff_getElem.1 hx
   exact(h i (by omega) (by omega)).data (by omega) (by omega) e
  ·rcases List.mem_append.1 hm with hm|hm
   ·obtain⟨x,hx,hc⟩:=List.mem_flatMap.1 hm
    obtain⟨i,hi,rfl⟩:=List.mem_take_iff_getElem.1 hx
    obtain⟨c,hc,e⟩:=List.mem_map.1 hc
    obtain⟨j,hj,rfl⟩:=List.getElem_of_mem hc
    exact(h i (by omega) (by omega)).ctor (by omega) (by omega) j (by omega) hj hj e
   ·obtain⟨c,hc,e⟩:=List.mem_map.1 hm
    obtain⟨j,hj,rfl⟩:=List.mem_take_iff_getElem.1 hc
    exact(h d (by omega) (by omega)).own rfl j (by omega) (by omega) (by omega) e
 ·rintro⟨h1,h2⟩ i _ hi
  refine⟨fun hid hiw e=>h1 (List.mem_map.2 ⟨w[i],List.mem_take_iff_getElem.2 ⟨i,by omega,rfl⟩,e⟩),fun hid hiw j _ hj hj' e=>h2 (List.mem_append_left _ (List.mem_flatMap.2 ⟨w[i],List.mem_take_iff_getElem.2 ⟨i,by omega,rfl⟩,List.mem_map.2 ⟨_,gM hj,e⟩⟩)),fun e j _ hj hj' e=>h2 (List.mem_append_right _ (List.mem_map.2 ⟨_,List.mem_take_iff_getElem.2 ⟨j,by omega,rfl⟩,e⟩))⟩
theorem P.Yk (w:List Data)(hw:ZBI w)(d:Nat)(hd:d<w.length)(hw4:w.length<=4)(hl:∀i,i<=d->∀h:i<w.length,w[i].ctors.length<=4):F.f22 w d 0=
  some (if dec (∀k,0<=k->k<w[d].ctors.length->∀h:k<w[d].ctors.length,w[d].name∉(w.take d).map (·.name)/\ctorAt w d w[d] k w[d].ctors[k])=true then .go ()else .ret false):=by
 have hl0:=hl d (Nat.le_refl _) hd
 refine ZLs (n:=w[d].ctors.length) (r:=false) (Q:=fun k=>∀h:k<w[d].ctors.length,w[d].name∉(w.take d).map (·.name)/\ctorAt w d w[d] k w[d].ctors[k]) (L:=F.f22 w d) (fun k hk=> ?_) (fun k hk hq=> ?_) (fun k hk hq=> ?_) _ 0 rfl
 ·rw[F.f22,gQ hd]
  simp only[oE,oS]
  rw[if_neg (by omega)]
 ·obtain⟨h1,h2⟩:=hq hk
  rw[F.f22,gQ hd]
  simp only[oE,oS]
  rw[if_pos hk,gQ hk]
  simp only[oS]
  rw[P.YZ _ _ (hw.2 _ (gM hd) _ (gM hk))]
  simp only[oS]
  rw[if_pos (ZJ h2.ok),P.YW w hw d k hd hk hw4 hl]
  simp only[oS]
  rw[ZJ ((ZD8 w d k hd hk).2 ⟨h1,h2.new⟩),if_neg (by simp),if_pos (by omega)]
 ·rw[F.f22,gQ hd]
  simp only[oE,oS]
  rw[if_pos hk,gQ hk]
  simp only[oS]
  rw[P.YZ _ _ (hw.2 _ (gM hd) _ (gM hk))]
  simp only[oS]
  by_cases h1:ZIt w.length w[d].ctors[k]
  ·rw[if_pos (ZJ h1),P.YW w hw d k hd hk hw4 hl]
   simp only[oS]
   rw[ZF fun hh=>hq fun _=>⟨((ZD8 w d k hd hk).1 hh).1,⟨h1,((ZD8 w d k hd hk).1 hh).2⟩⟩,if_pos (by simp)]
  ·rw[if_neg (by rw[ZF h1];simp)]
theorem P.YL (w:List Data)(hw:ZBI w):F.f24 w=some (dec (ZR w)):=by
 unfold F.f24
 by_cases h4:4<w.length
 ·rw[if_pos h4,ZF fun hh=>by have:=hh.1;omega]
 rw[if_neg h4]
 -- the loop runs only on over types that are right
 have key:∀(m d:Nat),w.length-d=m->(∀i,i<d->∀h:i<w.length,w[i].ctors.length<=4)->F.f23 w d=some (if dec (∀i,d<=i->i<w.length->∀h:i<w.length,dataAt w i w[i])=true then .go ()else .ret false):=by
  intro m
  induction m with
  |zero=>
   intro d hm hl
   rw[F.f23,if_neg (by omega),if_pos (ZJ fun i h1 h2=>by omega)]
  |succ m ih=>
   intro d hm hl
   have hd:d<w.length:=by omega
   rw[F.f23,if_pos hd,gQ hd]
   simp only[oE,oS]
   rw[P.Yx]
   simp only[oS]
   have no:¬dataAt w d w[d]->¬∀i,d<=i->i<w.length->∀h:i<w.length,dataAt w i w[i]:=fun h hh=>h (hh d (Nat.le_refl _) hd hd)
   by_cases h1:ZFn w[d].name
   ·rw[if_pos (ZJ h1)]
    by_cases h2:w[d].ctors.length=0
    ·rw[if_pos h2,if_neg (by rw[ZF (no fun h=>by have:=h.some;omega)];simp)]
    by_cases h3:4<w[d].ctors.length
    ·rw[if_neg h2,if_pos h3,if_neg (by rw[ZF (no fun h=>by have:=h.few;omega)];simp)]
    have hl':∀i,i<=d->∀h:i<w.length,w[i].ctors.length<=4:=fun i hi h=>by
     by_cases e:i=d
     ·subst e;omega
     ·exact hl i (by omega) h
    rw[if_neg h2,if_neg h3,P.Yk w hw d hd (by omega) hl']
    simp only[oS]
    by_cases hq:∀k,0<=k->k<w[d].ctors.length->∀h:k<w[d].ctors.length,w[d].name∉(w.take d).map (·.name)/\ctorAt w d w[d] k w[d].ctors[k]
    ·have hda:dataAt w d w[d]:=⟨h1,(hq 0 (by omega) (by omega) (by omega)).1,by omega,by omega,fun k a b c=>(hq k a b c).2⟩
     rw[if_pos (ZJ hq)]
     simp only
     rw[if_pos (by omega),ih (d+1) (by omega) fun i hi h=>hl' i (by omega) h]
     by_cases hall:∀i,d+1<=i->i<w.length->∀h:i<w.length,dataAt w i w[i]
     ·rw[if_pos (ZJ hall),if_pos (ZJ fun i a b c=> ?_)]
      by_cases e:i=d
      ·subst e;exact hda
      ·exact hall i (by omega) b c
     ·rw[if_neg (by rw[ZF hall];simp),if_neg (by rw[ZF fun hh=>hall fun i a b c=>hh i (by omega) b c];simp)]
    ·rw[if_neg (by rw[ZF hq];simp)]
     simp only
     rw[if_neg (by rw[ZF (no fun h=>hq fun k a b c=>⟨h.new,h.ctors k a b c⟩)];simp)]
   ·rw[if_neg (by rw[ZF h1];simp),if_neg (by rw[ZF (no fun h=>h1 h.name)];simp)]
 rw[key _ 0 rfl fun i hi=>by omega]
 simp only[oE,oS]
 by_cases hall:∀i,0<=i->i<w.length->∀h:i<w.length,dataAt w i w[i]
 ·rw[if_pos (ZJ hall),ZJ ⟨by omega,hall⟩]
 ·rw[if_neg (by rw[ZF hall];simp),ZF fun hh=>hall hh.2]
def Zi (w:List Data)(t:Ty):Prop:=ZFx w.length t/\0<=t.index
theorem P.YAM (w:List Data)(t:Ty):F.f99 w t=some (dec (Zi w t)):=by
 unfold F.f99
 rw[P.YR]
 simp only[oE,oS]
 by_cases h:ZFx w.length t
 ·rw[if_pos (ZJ h),←ZAq];congr 1;exact ZX ⟨fun h'=>⟨h,h'⟩,fun h'=>h'.2⟩
 ·rw[if_neg (by rw[ZF h];simp),ZF fun h'=>h h'.1]
def ZDY (w:List Data)(t:Ty):Prop:=ZR w/\Zi w t
theorem P.Yd (w:List Data)(t:Ty)(hw:ZBI w):F.f100 w t=some (dec (ZDY w t)):=by
 unfold F.f100
 rw[P.YL w hw]
 simp only[oE,oS]
 by_cases h:ZR w
 ·rw[if_pos (ZJ h),P.YAM]
  simp only[oS]
  congr 1;exact ZX ⟨fun h'=>⟨h,h'⟩,fun h'=>h'.2⟩
 ·rw[if_neg (by rw[ZF h];simp),ZF fun h'=>h h'.1]
theorem ZKU {w:List Data}(h:wtL Data.wt w<=1048576):ZBI w:=by
 refine⟨by have:=ZBw Data.wt w;omega,fun d hd c hc=> ?_⟩
 have h1:=ZAA Data.wt hd
 have h2:=ZAA Ctor.wt hc
 have e1:d.wt=d.name.size+wtL Ctor.wt d.ctors:=rfl
 have e2:c.wt=c.name.size+wtL Ty.wt c.args:=rfl
 omega
def tOk (w:List Data)(t:Ty):Prop:=t.data= -1∨(0<=t.data/\t.data<w.length)
theorem ZBl {w:List Data}{t:Ty}(h:ZFx w.length t):tOk w t:=h.elim (fun h=>.inl h.1) (fun h=>.inr ⟨h.1,h.2.1⟩)
def ZPu (i:Int)(c:Ctor):Prop:=i=0∨c.index=0∨c.index=i
noncomputable def ZIS (i:Int):Nat->List Ctor->List Int
 |_,[]=>[]
 |k,c::r=>(if dec (ZPu i c)=true then[(k:Int)]else[])++ZIS i (k+1) r
theorem ZIR (i:Int):∀(k:Nat) (l:List Ctor),(ZIS i k l).length<=l.length
 |_,[]=>by simp[ZIS]
 |k,c::r=>by
  have:=ZIR i (k+1) r
  unfold ZIS
  split<;>simp<;>omega
theorem ZIQ (i:Int){x:Int}:∀{k:Nat} {l:List Ctor},x∈ZIS i k l->(k:Int)<=x/\x<k+l.length
 |_,[],h=>by simp[ZIS]at h
 |k,c::r,h=>by
  unfold ZIS at h
  rcases List.mem_append.1 h with h|h
  ·split at h
   ·simp at h;subst h;simp;omega
   ·simp at h
  ·have:=ZIQ i h
   simp;omega
def Zt (w:List Data)(t:Ty):Data:=w.getD t.data.toNat Data.z
noncomputable def ZU (w:List Data)(t:Ty):List Int:=if t.data= -1 then[]else ZIS t.index 0 (Zt w t).ctors
def ZAD (w:List Data)(t:Ty)(c:Int):Ctor:=(Zt w t).ctors.getD c.toNat Ctor.z
def ZIB (t:Ty)(c:Ctor)(a:Ty):Ty:=if a.index= -1 then⟨a.data,if c.index=0 then t.index else c.index⟩else a
def ZP (w:List Data)(t:Ty)(c:Int):List Ty:=(ZAD w t c).args.map (ZIB t (ZAD w t c))
theorem ZFw {w:List Data}{t:Ty}(h:tOk w t)(hn:t.data≠-1):at? w t.data=some (Zt w t)/\Zt w t∈w/\∃h:t.data.toNat<w.length,Zt w t=w[t.data.toNat]:=by
 obtain⟨h1,h2⟩:=h.resolve_left hn
 have hlt:t.data.toNat<w.length:=by omega
 unfold at? Zt
 rw[if_pos h1,gQ hlt,List.getD_eq_getElem?_getD,gQ hlt]
 exact⟨rfl,gM hlt,hlt,rfl⟩
theorem Zu {w:List Data}(hw:ZR w){t:Ty}(h:tOk w t)(hn:t.data≠-1):(Zt w t).ctors.length<=4/\∀c,c∈(Zt w t).ctors->ZIt w.length c:=by
 obtain⟨_,_,hlt,e⟩:=ZFw h hn
 have hd:=hw.2 t.data.toNat (by omega) hlt hlt
 rw[e]
 refine⟨hd.few,fun c hc=> ?_⟩
 obtain⟨k,hk,rfl⟩:=List.getElem_of_mem hc
 exact(hd.ctors k (by omega) hk hk).ok
theorem P.Yl (w:List Data)(hw:ZR w)(t:Ty)(h:tOk w t)(hn:t.data≠-1):∀(m k:Nat) (out:List Int),(Zt w t).ctors.length-k=m->out.length<=k->k<=(Zt w t).ctors.length->
  F.f41 w t out k=some (out++ZIS t.index k ((Zt w t).ctors.drop k)):=by
 have h4:=(Zu hw h hn).1
 intro m
 induction m with
 |zero=>
  intro k out hm ho hk
  rw[F.f41,(ZFw h hn).1]
  simp only[oE,oS]
  rw[if_neg (by omega),List.drop_eq_nil_of_le (by omega)];simp[ZIS]
 |succ m ih=>
  intro k out hm ho hk
  have hlt:k<(Zt w t).ctors.length:=by omega
  rw[F.f41,(ZFw h hn).1]
  simp only[oE,oS]
  rw[if_pos hlt,gQ hlt,List.drop_eq_getElem_cons hlt]
  simp only[oS,ZIS]
  have hf:F.f40 (Zt w t).ctors[k] t.index=some (dec (ZPu t.index (Zt w t).ctors[k])):=by
   unfold F.f40
   by_cases h1:(Zt w t).ctors[k].index=0
   ·rw[if_pos h1,ZJ (.inr (.inl h1))]
   ·by_cases h2:t.index=0
    ·rw[if_neg h1,if_pos h2,ZJ (.inl h2)]
    ·rw[if_neg h1,if_neg h2,←ZAq];congr 1;exact ZX ⟨fun h=>.inr (.inr h),fun h=>h.elim (fun h=>absurd h h2) (fun h=>h.elim (fun h=>absurd h h1) id)⟩
  rw[hf]
  simp only[oS]
  by_cases hfit:ZPu t.index (Zt w t).ctors[k]
  ·rw[if_pos (ZJ hfit),if_pos (by omega),if_pos (by omega),ih (k+1) _ (by omega) (by simp;omega) (by omega),if_pos (ZJ hfit)];simp
  ·rw[if_neg (by rw[ZF hfit];simp),if_pos (by omega),ih (k+1) _ (by omega) (by omega) (by omega),if_neg (by rw[ZF hfit];simp)];simp
theorem P.YK (w:List Data)(hw:ZR w)(t:Ty)(h:tOk w t):F.f42 w t=some (ZU w t):=by
 unfold F.f42 ZU
 by_cases hn:t.data= -1
 ·rw[if_pos hn,if_pos hn]
 ·rw[if_neg hn,if_neg hn,P.Yl w hw t h hn _ 0 [] rfl (by simp) (by omega)];simp
theorem Zf {w:List Data}{t:Ty}{c:Int}(h:c∈ZU w t):t.data≠-1/\0<=c/\c<(Zt w t).ctors.length:=by
 unfold ZU at h
 split at h
 ·cases h
 ·next hn=>
  have:=ZIQ t.index h
  exact⟨hn,by omega,by omega⟩
theorem ZC2 {w:List Data}{t:Ty}{c:Int}(h:c∈ZU w t):at? (Zt w t).ctors c=some (ZAD w t c)/\ZAD w t c∈(Zt w t).ctors:=by
 obtain⟨_,h1,h2⟩:=Zf h
 have hlt:c.toNat<(Zt w t).ctors.length:=by omega
 unfold at? ZAD
 rw[if_pos h1,gQ hlt,List.getD_eq_getElem?_getD,gQ hlt]
 exact⟨rfl,gM hlt⟩
theorem ZPd {w:List Data}(hw:ZR w){t:Ty}(ht:tOk w t){c:Int}(h:c∈ZU w t):(ZP w t c).length<=3/\∀a,a∈ZP w t c->tOk w a:=by
 have hc:=(Zu hw ht (Zf h).1).2 _ (ZC2 h).2
 refine⟨by unfold ZP;rw[List.length_map];exact hc.2.1,fun a ha=> ?_⟩
 obtain⟨b,hb,rfl⟩:=List.mem_map.1 ha
 obtain⟨j,hj,rfl⟩:=List.getElem_of_mem hb
 have:=ZBl (hc.2.2.2.2 j (by omega) hj)
 unfold ZIB
 split
 ·exact this
 ·exact this
theorem P.YF (w:List Data)(hw:ZR w)(t:Ty)(ht:tOk w t)(c:Int)(h:c∈ZU w t):F.f45 w t c=some (ZP w t c):=by
 have hc:=(Zu hw ht (Zf h).1).2 _ (ZC2 h).2
 unfold F.f45
 rw[(ZFw ht (Zf h).1).1]
 simp only[oE,oS]
 rw[(ZC2 h).1]
 simp only[oS]
 rw[ZPf (L:=F.f44 t (ZAD w t c)) (a:=(ZAD w t c).args) (g:=ZIB t (ZAD w t c)) (f:=fun a=>some (ZIB t (ZAD w t c) a)) (fun out i=> ?_) (fun _ _=>rfl) _ 0 [] rfl (by have:=hc.2.1;simp;omega)]
 ·simp[ZP]
 ·rw[F.f44]
  split
  ·cases(ZAD w t c).args[i]? with
   |none=>rfl
   |some a=>
    simp only[oE,oS,F.f43,ZIB]
    split
    ·split<;>simp
    ·simp
  ·rfl
theorem P.YAE (l:List Int)(n:Int):F.f65 l n=some (dec (n∈l)):=by
 unfold F.f65
 rw[ZLs (n:=l.length) (r:=true) (Q:=fun j=>∀h:j<l.length,l[j]≠n) (L:=F.f64 l n) (fun k hk=>by rw[F.f64,if_neg (by omega)])
  (fun k hk hq=>by
   rw[F.f64,if_pos hk,gQ hk]
   simp only[oE,oS]
   rw[if_neg (hq hk)])
  (fun k hk hq=>by
   rw[F.f64,if_pos hk,gQ hk]
   simp only[oE,oS]
   rw[if_pos (Classical.byContradiction fun h=>hq fun _=>h)]) _ 0 rfl]
 simp only[oE,oS]
 by_cases hm:n∈l
 ·obtain⟨j,hj,e⟩:=List.getElem_of_mem hm
  rw[if_neg (by rw[ZF fun hh=>hh j (by omega) hj hj e];simp),ZJ hm]
 ·rw[if_pos (ZJ fun j _ hj h e=>hm (by rw[←e];exact gM h)),ZF hm]
def pv (w:List Data)(holes:Bool):Nat->Ty->Value->Prop
 |0,_,_=>False
 |d+1,t,v=>(holes=true/\v.ctor= -2/\v.n=0/\v.kids.length=0)∨(¬(holes=true/\v.ctor= -2)/\
   ((t.data= -1/\v.ctor= -1/\0<=v.n/\v.n<=9/\v.kids.length=0)∨
   (t.data≠-1/\v.n=0/\v.ctor∈ZU w t/\v.kids.length=(ZP w t v.ctor).length/\
    ∀i,0<=i->i<(ZP w t v.ctor).length->∀(h:i<(ZP w t v.ctor).length) (h':i<v.kids.length),pv w holes d (ZP w t v.ctor)[i] v.kids[i])))
theorem ZN8 (v:Value):v.wt=((v.kids.drop 0).map fun k=>1+k.wt).sum:=by
 rw[List.drop_zero,v.wt_eq]
 have:∀l:List Value,(l.map fun k=>1+k.wt).sum=wtL Value.wt l:=by
  intro l
  induction l with
  |nil=>rfl
  |cons a r ih=>simp[ih]
 exact(this _).symm
def rok (K:Nat)(r:ZB):Prop:=r.f0.length<=2000/\(∀x,x∈r.f0->0<=x/\x<=255)/\0<=r.f1/\r.f1<=(K:Int)
theorem rok.mono {K L:Nat}{r:ZB}(h:rok K r)(hl:K<=L):rok L r:=⟨h.1,h.2.1,h.2.2.1,by have:=h.2.2.2;omega⟩
theorem ZN7 {a b:Int}(ha:0<=a)(hb:0<=b)(ha':a<4611686018427387904)(hb':b<4611686018427387904):0<=ZPy .i64 a b:=by
 unfold ZPy
 obtain⟨m,rfl⟩:=Int.eq_ofNat_of_zero_le ha
 obtain⟨n,rfl⟩:=Int.eq_ofNat_of_zero_le hb
 have hm:m<2^62:=by omega
 have hn:n<2^62:=by omega
 have h:(BitVec.ofInt IntKind.i64.bits (m:Int)^^^BitVec.ofInt IntKind.i64.bits (n:Int)).toNat<2^62:=by
  rw[BitVec.toNat_xor]
  refine Nat.xor_lt_two_pow ?_ ?_
  ·show(BitVec.ofInt 64 (m:Int)).toNat<2^62
   rw[BitVec.toNat_ofInt];omega
  ·show(BitVec.ofInt 64 (n:Int)).toNat<2^62
   rw[BitVec.toNat_ofInt];omega
 rw[ZE (by omega) (by omega)]
 exact Int.natCast_nonneg _
theorem ZE5 {α:Type}{xs:List α}{i:Int}(h0:0<=i)(h1:i<xs.length):∃x,at? xs i=some x/\x∈xs:=by
 have hi:i.toNat<xs.length:=by omega
 refine⟨xs[i.toNat],?_,gM hi⟩
 unfold at?
 rw[if_pos h0,gQ hi]
theorem P.YG {K:Nat}{r:ZB}(h:rok K r)(hK:K<=1099511627776)(n:Int):∃v r',F.f1 r n=some (v,r')/\rok (K+1) r'/\0<=v/\(1<=n->v<n)/\(n<1->v=0):=by
 obtain⟨h1,h2,h3,h4⟩:=h
 unfold F.f1
 have e1:i64.wrap (r.f1+1)=r.f1+1:=ZE (by omega) (by omega)
 have e2:i64.wrap (r.f1+1-1)=r.f1:=by rw[ZE (by omega) (by omega)];omega
 have hr':rok (K+1) ⟨r.f0,r.f1+1⟩:=⟨h1,h2,by show 0<=r.f1+1;omega,by show r.f1+1<=((K+1:Nat):Int);omega⟩
 rw[e1,e2]
 by_cases hn:n<1
 ·rw[if_pos hn];exact⟨0,_,rfl,hr',by omega,by omega,fun _=>rfl⟩
 rw[if_neg hn]
 by_cases hl:r.f0.length=0
 ·rw[if_pos hl];exact⟨0,_,rfl,hr',by omega,by omega,fun _=>rfl⟩
 rw[if_neg hl]
 have tm:∀x:Int,0<=x->0<=x.tmod n/\x.tmod n<n:=fun x hx=>⟨Int.tmod_nonneg n hx,Int.tmod_lt_of_pos x (by omega)⟩
 have tl:∀x:Int,0<=x->0<=x.tmod (r.f0.length:Int)/\x.tmod (r.f0.length:Int)<r.f0.length:=fun x hx=>⟨Int.tmod_nonneg _ hx,Int.tmod_lt_of_pos x (by omega)⟩
 by_cases hk:r.f1<(r.f0.length:Int)
 ·rw[if_pos hk]
  obtain⟨x,hx,hm⟩:=ZE5 h3 hk
  have hb:=h2 x hm
  rw[hx]
  simp only[oE,oS]
  rw[if_pos (by omega),ZE (by omega) (by omega)]
  have:=tm x hb.1
  exact⟨_,_,rfl,hr',this.1,fun _=>this.2,fun h=>by omega⟩
 ·rw[if_neg hk,if_pos (by omega)]
  have e7:i64.wrap (r.f1*7)=r.f1*7:=ZE (by omega) (by omega)
  have e73:i64.wrap (r.f1*7+3)=r.f1*7+3:=ZE (by omega) (by omega)
  rw[e7,e73]
  have t1:=tl r.f1 h3
  have t2:=tl (r.f1*7+3) (by omega)
  obtain⟨x,hx,hm⟩:=ZE5 t1.1 t1.2
  obtain⟨y,hy,hm'⟩:=ZE5 t2.1 t2.2
  have hb:=h2 x hm
  have hb':=h2 y hm'
  have hq0:0<=r.f1.tdiv (r.f0.length:Int):=Int.tdiv_nonneg h3 (by omega)
  have hq1:r.f1.tdiv (r.f0.length:Int)<=r.f1:=Int.tdiv_le_self _ h3
  rw[hx,hy]
  simp only[oE,oS]
  rw[if_pos (by omega)]
  generalize r.f1.tdiv (r.f0.length:Int)=q at hq0 hq1 ⊢
  rw[ZE (n:=x) (by omega) (by omega),ZE (n:=y) (by omega) (by omega),ZE (n:=q) (by omega) (by omega),ZE (n:=x*131) (by omega) (by omega),ZE (n:=y*1117) (by omega) (by omega),
   ZE (n:=r.f1*29) (by omega) (by omega),ZE (n:=q*53) (by omega) (by omega),ZE (n:=x*131+y*1117) (by omega) (by omega),ZE (n:=x*131+y*1117+r.f1*29) (by omega) (by omega),
   ZE (n:=x*131+y*1117+r.f1*29+q*53) (by omega) (by omega)]
  have hz0:0<=x*131+y*1117+r.f1*29+q*53:=by omega
  have hz1:x*131+y*1117+r.f1*29+q*53<4611686018427387904:=by omega
  generalize x*131+y*1117+r.f1*29+q*53=z at hz0 hz1 ⊢
  have hd0:0<=z.tdiv 64:=Int.tdiv_nonneg hz0 (by omega)
  have hd1:z.tdiv 64<=z:=Int.tdiv_le_self _ hz0
  rw[ZE (n:=z.tdiv 64) (by omega) (by omega)]
  have:=tm _ (ZN7 hz0 hd0 hz1 (by omega))
  exact⟨_,_,rfl,hr',this.1,fun _=>this.2,fun h=>by omega⟩
theorem P.num {K:Nat}{r:ZB}(h:rok K r)(hK:K<=1099511627776)(l:List Int)(hl:l≠[]):∃v r',F.f54 r l=some (v,r')/\rok (K+1) r'/\v∈l:=by
 unfold F.f54
 obtain⟨v,r',e,h1,h2,h3,_⟩:=P.YG h hK (l.length:Int)
 have:0<l.length:=List.length_pos_iff.2 hl
 obtain⟨x,hx,hm⟩:=ZE5 h2 (h3 (by omega))
 rw[e]
 simp only[oE,oS]
 rw[hx]
 exact⟨x,r',rfl,h1,hm⟩
def W0 :List Data:=[⟨⟨#[76]⟩,[⟨⟨#[78,105,108]⟩,[],0⟩,⟨⟨#[67,111,110,115]⟩,[⟨-1,0⟩,⟨0,0⟩],0⟩]⟩]
theorem ZNh :F.f38 ⟨#[76,61,78,105,108,124,67,111,110,115,40,73,44,76,41]⟩=some (W0,true):=E.f38_le 100 _ _ (by kernel_rfl)
theorem ZNg :F.f53 W0=some [1,1,1,1]:=E.f53_le 100 _ _ (by kernel_rfl)
def W1 :List Data:=[⟨⟨#[66]⟩,[⟨⟨#[84,114,117]⟩,[],0⟩,⟨⟨#[70,108,115]⟩,[],0⟩]⟩,⟨⟨#[84]⟩,[⟨⟨#[76,101,97,102]⟩,[],0⟩,⟨⟨#[78,111,100,101]⟩,[⟨1,0⟩,⟨0,0⟩,⟨1,0⟩],0⟩]⟩]
theorem ZNf :F.f38 ⟨#[66,61,84,114,117,124,70,108,115,59,84,61,76,101,97,102,124,78,111,100,101,40,84,44,66,44,84,41]⟩=some (W1,true):=E.f38_le 100 _ _ (by kernel_rfl)
theorem ZNe :F.f53 W1=some [1,1,1,1,1,1,1,1]:=E.f53_le 100 _ _ (by kernel_rfl)
def W2 :List Data:=[⟨⟨#[69]⟩,[⟨⟨#[78,117,109]⟩,[⟨-1,0⟩],1⟩,⟨⟨#[66,111,108]⟩,[⟨1,0⟩],2⟩,⟨⟨#[65,100,100]⟩,[⟨0,1⟩,⟨0,1⟩],1⟩,⟨⟨#[73,102]⟩,[⟨0,2⟩,⟨0,-1⟩,⟨0,-1⟩],0⟩]⟩,⟨⟨#[66]⟩,[⟨⟨#[84,114,117]⟩,[],0⟩,⟨⟨#[70,108,115]⟩,[],0⟩]⟩]
theorem ZNd :F.f38 ⟨#[69,61,78,117,109,40,73,41,58,49,124,66,111,108,40,66,41,58,50,124,65,100,100,40,69,49,44,69,49,41,58,49,124,73,102,40,69,50,44,69,42,44,69,42,41,59,66,61,84,114,117,124,70,108,115]⟩=some (W2,true):=E.f38_le 100 _ _ (by kernel_rfl)
theorem ZNc :F.f53 W2=some [2,2,2,0,1,1,1,1]:=E.f53_le 100 _ _ (by kernel_rfl)
def W3 :List Data:=[⟨⟨#[79]⟩,[⟨⟨#[78,111,110]⟩,[],0⟩,⟨⟨#[83,111,109]⟩,[⟨-1,0⟩],0⟩]⟩,⟨⟨#[80]⟩,[⟨⟨#[80,97,105,114]⟩,[⟨0,0⟩,⟨0,0⟩],0⟩]⟩]
theorem ZNb :F.f38 ⟨#[79,61,78,111,110,124,83,111,109,40,73,41,59,80,61,80,97,105,114,40,79,44,79,41]⟩=some (W3,true):=E.f38_le 100 _ _ (by kernel_rfl)
theorem ZNa :F.f53 W3=some [1,1,1,1,2,2,2,2]:=E.f53_le 100 _ _ (by kernel_rfl)
def W4 :List Data:=[⟨⟨#[86]⟩,[⟨⟨#[69,110,100]⟩,[],1⟩,⟨⟨#[83,111,109,101]⟩,[⟨-1,0⟩,⟨0,1⟩],2⟩,⟨⟨#[84,119,111]⟩,[⟨0,-1⟩],0⟩]⟩]
theorem ZNZ :F.f38 ⟨#[86,61,69,110,100,58,49,124,83,111,109,101,40,73,44,86,49,41,58,50,124,84,119,111,40,86,42,41]⟩=some (W4,true):=E.f38_le 100 _ _ (by kernel_rfl)
theorem ZNY :F.f53 W4=some [1,1,2,0]:=E.f53_le 100 _ _ (by kernel_rfl)
def W5 :List Data:=[⟨⟨#[78]⟩,[⟨⟨#[78,101,118,101,114]⟩,[⟨0,0⟩],0⟩]⟩,⟨⟨#[66]⟩,[⟨⟨#[84,114,117]⟩,[],0⟩,⟨⟨#[70,108,115]⟩,[],0⟩,⟨⟨#[77,97,121]⟩,[⟨0,0⟩],0⟩]⟩]
theorem ZNX :F.f38 ⟨#[78,61,78,101,118,101,114,40,78,41,59,66,61,84,114,117,124,70,108,115,124,77,97,121,40,78,41]⟩=some (W5,true):=E.f38_le 100 _ _ (by kernel_rfl)
theorem ZNW :F.f53 W5=some [0,0,0,0,1,1,1,1]:=E.f53_le 100 _ _ (by kernel_rfl)
def W6 :List Data:=[⟨⟨#[83]⟩,[⟨⟨#[82,101,100]⟩,[],0⟩,⟨⟨#[71,114,101,101,110]⟩,[],0⟩,⟨⟨#[66,108,117,101]⟩,[],0⟩,⟨⟨#[77,105,120]⟩,[⟨0,0⟩,⟨0,0⟩],0⟩]⟩]
theorem ZNV :F.f38 ⟨#[83,61,82,101,100,124,71,114,101,101,110,124,66,108,117,101,124,77,105,120,40,83,44,83,41]⟩=some (W6,true):=E.f38_le 100 _ _ (by kernel_rfl)
theorem ZNU :F.f53 W6=some [1,1,1,1]:=E.f53_le 100 _ _ (by kernel_rfl)
def ZFI :List ByteArray:=[⟨#[76,61,78,105,108,124,67,111,110,115,40,73,44,76,41]⟩,⟨#[66,61,84,114,117,124,70,108,115,59,84,61,76,101,97,102,124,78,111,100,101,40,84,44,66,44,84,41]⟩,⟨#[69,61,78,117,109,40,73,41,58,49,124,66,111,108,40,66,41,58,50,124,65,100,100,40,69,49,44,69,49,41,58,49,124,73,102,40,69,50,44,69,42,44,69,42,41,59,66,61,84,114,117,124,70,108,115]⟩,⟨#[79,61,78,111,110,124,83,111,109,40,73,41,59,80,61,80,97,105,114,40,79,44,79,41]⟩,⟨#[86,61,69,110,100,58,49,124,83,111,109,101,40,73,44,86,49,41,58,50,124,84,119,111,40,86,42,41]⟩,⟨#[78,61,78,101,118,101,114,40,78,41,59,66,61,84,114,117,124,70,108,115,124,77,97,121,40,78,41]⟩,⟨#[83,61,82,101,100,124,71,114,101,101,110,124,66,108,117,101,124,77,105,120,40,83,44,83,41]⟩,ByteArray.empty]
theorem P.YAZ :F.f0=some ZFI:=rfl
def ZAR :List (List Data):=[W0,W1,W2,W3,W4,W5,W6]
theorem P.YAY {K:Nat}{r:ZB}(h:rok K r)(hK:K<=1099511627776):∃w r',F.f39 r=some (w,r')/\rok (K+1) r'/\w∈ZAR:=by
 unfold F.f39
 rw[P.YAZ]
 simp only[oE,oS]
 obtain⟨v,r',e,h1,h2,h3,_⟩:=P.YG h hK 7
 have e7:i64.wrap (((8:Nat):Int) -1)=7:=by rw[ZE (by omega) (by omega)];rfl
 have e8:ZFI.length=8:=rfl
 rw[e8,e7,e]
 simp only[oS]
 have h3:=h3 (by omega)
 have hv:v=0∨v=1∨v=2∨v=3∨v=4∨v=5∨v=6:=by omega
 rcases hv with rfl|rfl|rfl|rfl|rfl|rfl|rfl
 ·have:at? ZFI 0=some (⟨#[76,61,78,105,108,124,67,111,110,115,40,73,44,76,41]⟩:ByteArray):=rfl
  rw[this];simp only[oS]
  rw[ZNh]
  exact⟨W0,r',rfl,h1,by simp[ZAR]⟩
 ·have:at? ZFI 1=some (⟨#[66,61,84,114,117,124,70,108,115,59,84,61,76,101,97,102,124,78,111,100,101,40,84,44,66,44,84,41]⟩:ByteArray):=rfl
  rw[this];simp only[oS]
  rw[ZNf]
  exact⟨W1,r',rfl,h1,by simp[ZAR]⟩
 ·have:at? ZFI 2=some (⟨#[69,61,78,117,109,40,73,41,58,49,124,66,111,108,40,66,41,58,50,124,65,100,100,40,69,49,44,69,49,41,58,49,124,73,102,40,69,50,44,69,42,44,69,42,41,59,66,61,84,114,117,124,70,108,115]⟩:ByteArray):=rfl
  rw[this];simp only[oS]
  rw[ZNd]
  exact⟨W2,r',rfl,h1,by simp[ZAR]⟩
 ·have:at? ZFI 3=some (⟨#[79,61,78,111,110,124,83,111,109,40,73,41,59,80,61,80,97,105,114,40,79,44,79,41]⟩:ByteArray):=rfl
  rw[this];simp only[oS]
  rw[ZNb]
  exact⟨W3,r',rfl,h1,by simp[ZAR]⟩
 ·have:at? ZFI 4=some (⟨#[86,61,69,110,100,58,49,124,83,111,109,101,40,73,44,86,49,41,58,50,124,84,119,111,40,86,42,41]⟩:ByteArray):=rfl
  rw[this];simp only[oS]
  rw[ZNZ]
  exact⟨W4,r',rfl,h1,by simp[ZAR]⟩
 ·have:at? ZFI 5=some (⟨#[78,61,78,101,118,101,114,40,78,41,59,66,61,84,114,117,124,70,108,115,124,77,97,121,40,78,41]⟩:ByteArray):=rfl
  rw[this];simp only[oS]
  rw[ZNX]
  exact⟨W5,r',rfl,h1,by simp[ZAR]⟩
 ·have:at? ZFI 6=some (⟨#[83,61,82,101,100,124,71,114,101,101,110,124,66,108,117,101,124,77,105,120,40,83,44,83,41]⟩:ByteArray):=rfl
  rw[this];simp only[oS]
  rw[ZNV]
  exact⟨W6,r',rfl,h1,by simp[ZAR]⟩
def ZEJ (code:List Int):Prop:=code.length<=maxLen/\∀x,x∈code->0<=x/\x<=255
theorem ZIV {code:List Int}(h:ZEJ code)(hl:code.length<=2000):rok 0 ⟨code,0⟩:=⟨hl,h.2,Int.le_refl 0,Int.le_refl 0⟩
theorem ZKZ {code:List Int}(h:ZEJ code):rok 0 ⟨(code.drop 0).take (2000-0),0⟩:=⟨by simp;omega,fun x hx=>h.2 x (List.mem_of_mem_drop (List.mem_of_mem_take hx)),Int.le_refl 0,Int.le_refl 0⟩
theorem ZC9 {w:List Data}(h:w∈ZAR):ZBI w:=by
 simp only[ZAR,List.mem_cons,List.not_mem_nil,or_false]at h
 rcases h with rfl|rfl|rfl|rfl|rfl|rfl|rfl<;>exact ZKU (by decide)
def tIx (w:List Data)(t:Ty):Prop:=t.data= -1∨(0<=t.data/\t.data<w.length/\0<=t.index/\t.index<=3)
theorem tIx.tOk {w:List Data}{t:Ty}(h:tIx w t):tOk w t:=h.imp id fun h=>⟨h.1,h.2.1⟩
def ZB7 (T:List Int)(t:Ty):Int:=if t.data= -1 then 1 else T.getD (t.data*4+t.index).toNat 0
def ZBz (T:List Int):Int->List Ty->Int
 |m,[]=>m+1
 |m,a::r=>if ZB7 T a=0 then 0 else ZBz T (if m<ZB7 T a then ZB7 T a else m) r
def ZCo (w:List Data)(T:List Int)(t:Ty)(c:Int):Int:=ZBz T 0 (ZP w t c)
def ZSO (i:Int)(c:Ctor):Bool:=decide (i=0)||decide (c.index=0)||decide (c.index=i)
def ZP6 (w:List Data)(T:List Int):Bool:=decide (T.length=w.length*4)&& T.all (fun x=>decide (0<=x)&& decide (x<=2))&&
 (List.range w.length).all fun d=>(List.range 4).all fun i=>decide (T.getD (d*4+i) 0=0)||
  (List.range (w.getD d Data.z).ctors.length).any fun k=>ZSO i ((w.getD d Data.z).ctors.getD k Ctor.z)&& decide (ZCo w T ⟨d,i⟩ k=T.getD (d*4+i) 0)
theorem ZM6 {i:Int}{c:Ctor}(h:ZSO i c=true):ZPu i c:=by
 simp only[ZSO,Bool.or_eq_true,decide_eq_true_eq]at h
 rcases h with(h|h)|h
 ·exact .inl h
 ·exact .inr (.inl h)
 ·exact .inr (.inr h)
theorem ZKW {i:Int}:∀{k:Nat} {l:List Ctor} {j:Nat} (hj:j<l.length),ZPu i l[j]->((k+j:Nat):Int)∈ZIS i k l
 |k,c::r,0,hj,h=>by simp only[ZIS];rw[if_pos (ZJ (show ZPu i c from h))];exact List.mem_append_left _ (by simp)
 |k,c::r,j+1,hj,h=>by
  simp only[ZIS]
  refine List.mem_append_right _ ?_
  have:=ZKW (k:=k+1) (l:=r) (j:=j) (by simpa using hj) h
  have e:k+1+j=k+(j+1):=by omega
  rwa[e]at this
structure TOk (w:List Data)(T:List Int):Prop where
 wok:ZR w
 len:T.length=w.length*4
 rng:∀k,0<=T.getD k 0/\T.getD k 0<=2
 has:∀t,tIx w t->t.data≠-1->ZB7 T t≠0->∃c,c∈ZU w t/\ZCo w T t c=ZB7 T t
theorem TOk.of {w:List Data}{T:List Int}(hw:ZR w)(h:ZP6 w T=true):TOk w T:=by
 simp only[ZP6,Bool.and_eq_true,decide_eq_true_eq]at h
 obtain⟨⟨h1,h2⟩,h3⟩:=h
 refine⟨hw,h1,fun k=> ?_,fun t ht hn hd=> ?_⟩
 ·by_cases hk:k<T.length
  ·rw[List.getD_eq_getElem?_getD,gQ hk]
   have:=List.all_eq_true.1 h2 _ (gM hk)
   simpa using this
  ·rw[List.getD_eq_getElem?_getD,List.getElem?_eq_none (by omega)];simp
 ·obtain⟨q1,q2,q3,q4⟩:=ht.resolve_left hn
  have a1:=List.all_eq_true.1 h3 t.data.toNat (by simp;omega)
  have a2:=List.all_eq_true.1 a1 t.index.toNat (by simp;omega)
  simp only[Bool.or_eq_true,decide_eq_true_eq]at a2
  have e:(t.data*4+t.index).toNat=t.data.toNat*4+t.index.toNat:=by omega
  have ed:ZB7 T t=T.getD (t.data.toNat*4+t.index.toNat) 0:=by unfold ZB7;rw[if_neg hn,e]
  have a3:=a2.resolve_left (by rw[←ed];exact hd)
  obtain⟨k,hk,hkk⟩:=List.any_eq_true.1 a3
  simp only[Bool.and_eq_true,decide_eq_true_eq]at hkk
  have et:(⟨(t.data.toNat:Int),(t.index.toNat:Int)⟩:Ty)=t:=by
   obtain⟨d,i⟩:=t
   simp only at q1 q3 ⊢
   rw[Int.toNat_of_nonneg q1,Int.toNat_of_nonneg q3]
  rw[et]at hkk
  have hk':k<(Zt w t).ctors.length:=by simpa[Zt]using hk
  refine⟨(k:Int),?_,by rw[hkk.2,ed]⟩
  unfold ZU
  rw[if_neg hn]
  have hf:=ZM6 hkk.1
  rw[Int.toNat_of_nonneg q3]at hf
  have hg:(w.getD t.data.toNat Data.z).ctors.getD k Ctor.z=(Zt w t).ctors[k]:=by
   unfold Zt at hk' ⊢
   rw[List.getD_eq_getElem?_getD,gQ hk'];rfl
  rw[hg]at hf
  have:=ZKW (k:=0) hk' hf
  rwa[Nat.zero_add]at this
theorem TOk.dep {w:List Data}{T:List Int}(h:TOk w T)(t:Ty):0<=ZB7 T t/\ZB7 T t<=2:=by
 unfold ZB7;split
 ·omega
 ·exact h.rng _
theorem P.YJ {w:List Data}{T:List Int}(h:TOk w T){t:Ty}(ht:tIx w t):F.f47 T t=some (ZB7 T t):=by
 unfold F.f47 F.f46 ZB7
 by_cases hn:t.data= -1
 ·rw[if_pos hn,if_pos hn]
 ·obtain⟨q1,q2,q3,q4⟩:=ht.resolve_left hn
  have hw:=h.wok.1
  rw[if_neg hn,if_neg hn,ZE (n:=t.data*4) (by omega) (by omega),ZE (by omega) (by omega)]
  simp only[oE,oS]
  have hl:(t.data*4+t.index).toNat<T.length:=by rw[h.len];omega
  unfold at?
  rw[if_pos (by omega),gQ hl,List.getD_eq_getElem?_getD,gQ hl]
  rfl
theorem ZLq {w:List Data}(hw:ZR w){t:Ty}(ht:tIx w t){c:Int}(h:c∈ZU w t):∀a,a∈ZP w t c->tIx w a:=by
 have hc:=(Zu hw ht.tOk (Zf h).1).2 _ (ZC2 h).2
 have hn:=(Zf h).1
 intro a ha
 obtain⟨b,hb,rfl⟩:=List.mem_map.1 ha
 obtain⟨j,hj,rfl⟩:=List.getElem_of_mem hb
 have:=hc.2.2.2.2 j (by omega) hj
 obtain⟨q1,q2,q3,q4⟩:=ht.resolve_left hn
 unfold ZIB
 rcases this with⟨p1,p2⟩|⟨p1,p2,p3,p4⟩
 ·rw[if_neg (by omega)];exact .inl p1
 ·split
  ·next e=>
   refine .inr ⟨p1,p2,?_,?_⟩
   ·show 0<=(if(ZAD w t c).index=0 then t.index else(ZAD w t c).index)
    split
    ·exact q3
    ·exact hc.2.2.1
   ·show(if(ZAD w t c).index=0 then t.index else(ZAD w t c).index)<=3
    split
    ·exact q4
    ·exact hc.2.2.2.1
  ·next e=>exact .inr ⟨p1,p2,by omega,p4⟩
theorem ZFZ {w:List Data}{T:List Int}(h:TOk w T):∀(l:List Ty) (m:Int),0<=m->m<=2->0<=ZBz T m l/\ZBz T m l<=3/\(ZBz T m l≠0->m+1<=ZBz T m l/\∀a,a∈l->ZB7 T a≠0/\ZB7 T a+1<=ZBz T m l)
 | [],m,h0,h2=>⟨by simp only[ZBz];omega,by simp only[ZBz];omega,fun _=>⟨by simp only[ZBz];omega,fun a ha=>by cases ha⟩⟩
 |a::r,m,h0,h2=>by
  have hd:=h.dep a
  simp only[ZBz]
  by_cases ha:ZB7 T a=0
  ·rw[if_pos ha];exact⟨by omega,by omega,fun h=>absurd rfl h⟩
  ·rw[if_neg ha]
   have hm:∃m',(if m<ZB7 T a then ZB7 T a else m)=m'/\0<=m'/\m'<=2/\m<=m'/\ZB7 T a<=m':=by
    split
    ·exact⟨_,rfl,by omega,by omega,by omega,by omega⟩
    ·exact⟨_,rfl,by omega,by omega,by omega,by omega⟩
   obtain⟨m',e,k0,k2,k3,k4⟩:=hm
   rw[e]
   obtain⟨i1,i2,i3⟩:=ZFZ h r m' k0 k2
   refine⟨i1,i2,fun hne=> ?_⟩
   obtain⟨j1,j2⟩:=i3 hne
   refine⟨by omega,fun b hb=> ?_⟩
   rcases List.mem_cons.1 hb with rfl|hb
   ·exact⟨ha,by omega⟩
   ·exact j2 b hb
def mR (n:Int):Lo Int Int:=if n=0 then .ret 0 else .go (n-1)
theorem P.Yb {w:List Data}{T:List Int}(h:TOk w T)(l:List Ty)(hl:∀a,a∈l->tIx w a):∀(n k:Nat) (m:Int),l.length-k=n->0<=m->m<=2->
  F.f48 T l m k=some (mR (ZBz T m (l.drop k))):=by
 intro n
 induction n with
 |zero=>
  intro k m hn h0 h2
  rw[F.f48,if_neg (by omega),List.drop_eq_nil_of_le (by omega)]
  show some (Lo.go m)=some (mR (m+1))
  unfold mR
  rw[if_neg (by omega)];congr 2;omega
 |succ n ih=>
  intro k m hn h0 h2
  have hk:k<l.length:=by omega
  have hd:=h.dep l[k]
  rw[F.f48,if_pos hk,gQ hk]
  simp only[oE,oS]
  rw[P.YJ h (hl _ (gM hk)),List.drop_eq_getElem_cons hk]
  simp only[oS,ZBz]
  by_cases ha:ZB7 T l[k]=0
  ·rw[if_pos ha,if_pos ha];rfl
  ·rw[if_neg ha,if_neg ha]
   by_cases hm:m<ZB7 T l[k]
   ·rw[if_pos hm,if_pos hm,ih _ _ (by omega) (by omega) (by omega)]
   ·rw[if_neg hm,if_neg hm,ih _ _ (by omega) (by omega) (by omega)]
theorem P.Yw {w:List Data}{T:List Int}(h:TOk w T){t:Ty}(ht:tIx w t){c:Int}(hc:c∈ZU w t):F.f49 w T t c=some (ZCo w T t c):=by
 unfold F.f49
 rw[P.YF w h.wok t ht.tOk c hc]
 simp only[oE,oS]
 rw[P.Yb h _ (ZLq h.wok ht hc) _ 0 0 rfl (by omega) (by omega),List.drop_zero]
 simp only[oS]
 have:=ZFZ h (ZP w t c) 0 (by omega) (by omega)
 unfold ZCo
 unfold mR
 by_cases h0:ZBz T 0 (ZP w t c)=0
 ·rw[if_pos h0,h0]
 ·rw[if_neg h0]
  show some (i64.wrap (ZBz T 0 (ZP w t c) -1+1))=_
  rw[ZE (by omega) (by omega)];congr 1;omega
def ZCw (w:List Data)(T:List Int)(t:Ty)(depth:Int)(c:Int):Bool:=decide (0<ZCo w T t c)&& (decide (ZCo w T t c<=depth)||decide (ZCo w T t c=ZB7 T t))
theorem P.Ya {w:List Data}{T:List Int}(h:TOk w T){t:Ty}(ht:tIx w t)(r:ZB)(depth:Int)(l:List Int)(hl:∀c,c∈l->c∈ZU w t)(h8:l.length<=4):∀(n k:Nat) (out:List Int),l.length-k=n->out.length<=k->
  F.f55 r w T t depth l out k=some (out++(l.drop k).filter (ZCw w T t depth)):=by
 intro n
 induction n with
 |zero=>intro k out hn ho;rw[F.f55,if_neg (by omega),List.drop_eq_nil_of_le (by omega)];simp
 |succ n ih=>
  intro k out hn ho
  have hk:k<l.length:=by omega
  rw[F.f55,if_pos hk,gQ hk]
  simp only[oE,oS]
  rw[P.Yw h ht (hl _ (gM hk)),List.drop_eq_getElem_cons hk,P.YJ h ht]
  simp only[oS]
  have yes:ZCw w T t depth l[k]=true->F.f55 r w T t depth l (out++[l[k]]) (k+1)=some (out++(l[k]::l.drop (k+1)).filter (ZCw w T t depth)):=fun hf=>by
   rw[ih (k+1) _ (by omega) (by simp;omega),List.filter_cons_of_pos hf];simp
  have no:ZCw w T t depth l[k]=false->F.f55 r w T t depth l out (k+1)=some (out++(l[k]::l.drop (k+1)).filter (ZCw w T t depth)):=fun hf=>by
   rw[ih (k+1) _ (by omega) (by omega),List.filter_cons_of_neg (by simp[hf])]
  by_cases h1:0<ZCo w T t l[k]
  ·rw[if_pos h1]
   by_cases h2:ZCo w T t l[k]<=depth
   ·rw[if_pos h2,if_pos (by omega)];exact yes (by simp[ZCw,h1,h2])
   ·rw[if_neg h2]
    by_cases h3:ZCo w T t l[k]=ZB7 T t
    ·rw[if_pos h3,if_pos (by omega)];exact yes (by simp only[ZCw,h1,h3];simp[←h3,h1])
    ·rw[if_neg h3];exact no (by simp[ZCw,h2,h3])
  ·rw[if_neg h1];exact no (by simp[ZCw,h1])
theorem ZKX {w:List Data}(hw:ZR w){t:Ty}(ht:tOk w t):(ZU w t).length<=4:=by
 unfold ZU
 split
 ·simp
 ·next hn=>exact Nat.le_trans (ZIR _ _ _) (Zu hw ht hn).1
theorem ZP1 (c n:Int)(ks:List Value):(⟨c,n,ks⟩:Value).wt=((ks.map fun k=>1+k.wt).sum):=by
 have:=ZN8 ⟨c,n,ks⟩
 simpa using this
theorem P.YAK {w:List Data}{T:List Int}(h:TOk w T):∀(n:Nat) (t:Ty) (depth:Int) (K:Nat) (r:ZB),tIx w t->ZB7 T t≠0->ZB7 T t<=n->depth<=n->-1000000+n<=depth->n<=12->rok K r->K+4^n<=1099511627776->
  ∃v r',F.f56 r w T t depth=some (v,r')/\rok (K+4^n) r'/\pv w false n t v/\v.wt+1<=4^n/\(t.data≠-1->∀a,a∈ZP w t v.ctor->ZB7 T a≠0)
 |0,t,depth,K,r,ht,hd,hdn,_,_,_,_,_=>by have:=h.dep t;omega
 |n+1,t,depth,K,r,ht,hd,hdn,hde,hlo,h12,hr,hK=>by
  have p4:1<=4^n:=Nat.one_le_pow _ _ (by omega)
  have p4':4^ (n+1)=4*4^n:=by rw[Nat.pow_succ];omega
  rw[F.f56]
  by_cases hn:t.data= -1
  ·rw[if_pos hn]
   obtain⟨v,r',e,h1,h2,h3,_⟩:=P.YG hr (by omega) 10
   have h3:=h3 (by omega)
   rw[e]
   refine⟨_,_,rfl,h1.mono (by omega),?_,?_,fun h=>absurd hn h⟩
   ·exact .inr ⟨by simp,.inl ⟨hn,rfl,h2,by show v<=9;omega,rfl⟩⟩
   ·rw[ZP1];simp;omega
  ·rw[if_neg hn,P.YK w h.wok t ht.tOk]
   simp only[oE,oS]
   rw[P.Ya h ht r depth _ (fun c hc=>hc) (ZKX h.wok ht.tOk) _ 0 [] rfl (by simp),List.drop_zero,List.nil_append]
   simp only[oS]
   obtain⟨c0,hc0,hm0⟩:=h.has t ht hn hd
   have hdt:=h.dep t
   have hf0:c0∈(ZU w t).filter (ZCw w T t depth):=List.mem_filter.2 ⟨hc0,by simp only[ZCw,hm0];simp;omega⟩
   have hpos:=List.length_pos_of_mem hf0
   obtain⟨v,r1,e,h1,h2,h3,_⟩:=P.YG hr (by omega) (((ZU w t).filter (ZCw w T t depth)).length:Int)
   obtain⟨c,hcx,hcm⟩:=ZE5 h2 (h3 (by omega))
   rw[e];simp only[oS]
   rw[hcx];simp only[oS]
   obtain⟨hcl,hcf⟩:=List.mem_filter.1 hcm
   simp only[ZCw,Bool.and_eq_true,Bool.or_eq_true,decide_eq_true_eq]at hcf
   rw[P.YF w h.wok t ht.tOk c hcl]
   simp only[oS]
   obtain⟨g1,g2,g3⟩:=ZFZ h (ZP w t c) 0 (by omega) (by omega)
   have g3:=g3 (by unfold ZCo at hcf;omega)
   have hal:=(ZPd h.wok ht.tOk hcl).1
   have hax:=ZLq h.wok ht hcl
   have hmn:ZCo w T t c<=(n:Int)+1:=by rcases hcf.2 with q|q<;>omega
   have kid:∀a,a∈ZP w t c->∀K r,rok K r->K+4^n<=1099511627776->∃v r',F.f56 r w T a (i64.wrap (depth-1))=some (v,r')/\rok (K+4^n) r'/\pv w false n a v/\v.wt+1<=4^n:=by
    intro a ha K r hr hK
    rw[ZE (by omega) (by omega)]
    obtain⟨q1,q2⟩:=g3.2 a ha
    obtain⟨v,r',e,k1,k2,k3,_⟩:=P.YAK h n a (depth-1) K r (hax a ha) q1 (by unfold ZCo at hmn;omega) (by omega) (by omega) (by omega) hr hK
    exact⟨v,r',e,k1,k2,k3⟩
   have loop:∀(m k:Nat) (z:List Int) (z33:Int) (out:List Value) (K:Nat),(ZP w t c).length-k=m->out.length=k->rok K ⟨z,z33⟩->K+m*4^n<=1099511627776->
     (∀i (hi:i<out.length) (hi':i<(ZP w t c).length),pv w false n (ZP w t c)[i] out[i])->((out.map fun k=>1+k.wt).sum)<=k*4^n->k<=(ZP w t c).length->
     ∃z' z33' out',F.f57 w T depth c (ZP w t c) z z33 out k=some (z',z33',out')/\rok (K+m*4^n) ⟨z',z33'⟩/\out'.length=(ZP w t c).length/\
      (∀i (hi:i<out'.length) (hi':i<(ZP w t c).length),pv w false n (ZP w t c)[i] out'[i])/\((out'.map fun k=>1+k.wt).sum)<=(ZP w t c).length*4^n:=by
    intro m
    induction m with
    |zero=>
     intro k z z33 out K hm ho hr hK hp hs hk
     rw[F.f57,if_neg (by omega)]
     have:k=(ZP w t c).length:=by omega
     subst this
     exact⟨z,z33,out,rfl,by simpa using hr,ho,hp,hs⟩
    |succ m ih=>
     intro k z z33 out K hm ho hr hK hp hs hkl
     have hk:k<(ZP w t c).length:=by omega
     rw[F.f57,if_pos hk,gQ hk]
     simp only[oE,oS]
     have e1:(m+1)*4^n=m*4^n+4^n:=by rw[Nat.succ_mul]
     obtain⟨v,r',e,k1,k2,k3⟩:=kid _ (gM hk) K ⟨z,z33⟩ hr (by omega)
     rw[e];simp only[oS]
     rw[if_pos (by omega)]
     have e2:(k+1)*4^n=k*4^n+4^n:=by rw[Nat.succ_mul]
     have key:=fun p1 p2=>ih (k+1) r'.f0 r'.f1 (out++[v]) (K+4^n) (by omega) (by simp[ho]) k1 (by omega) p1 p2 hk
     obtain⟨z',z33',out',q1,q2,q3⟩:=key (by
      intro i hi hi'
      by_cases hik:i<out.length
      ·rw[List.getElem_append_left hik];exact hp i hik hi'
      ·have:i=k:=by simp at hi;omega
       subst this
       rw[List.getElem_append_right (by omega)]
       simpa using k2) (by
      simp only[List.map_append,List.sum_append,List.map_cons,List.map_nil,List.sum_cons,List.sum_nil];omega)
     exact⟨z',z33',out',q1,q2.mono (by omega),q3⟩
   have m3:(ZP w t c).length*4^n<=3*4^n:=Nat.mul_le_mul_right _ hal
   obtain⟨z',z33',out',q1,q2,q3,q4,q5⟩:=loop _ 0 r1.f0 r1.f1 [] (K+1) rfl rfl h1 (by simp only[Nat.sub_zero];omega) (fun i hi=>by simp at hi) (by simp) (by omega)
   rw[q1];simp only[oS]
   refine⟨_,_,rfl,q2.mono (by simp only[Nat.sub_zero];omega),?_,?_,fun _ a ha=>(g3.2 a ha).1⟩
   ·refine .inr ⟨by simp,.inr ⟨hn,rfl,hcl,q3,fun i _ _ hi hi'=>q4 i hi' hi⟩⟩
   ·rw[ZP1];omega
theorem P.YAU {w:List Data}{T:List Int}(h:TOk w T)(n:Nat)(t:Ty)(depth:Int)(K:Nat)(r:ZB)(a1:tIx w t)(a2:ZB7 T t≠0)(a3:ZB7 T t<=n)(a4:depth<=n)(a5: -1000000+n<=depth)(a6:n<=12)(a7:rok K r)(a8:K+4^n<=1099511627776):
  ∃v r',F.f56 r w T t depth=some (v,r')/\rok (K+4^n) r'/\pv w false n t v/\v.wt+1<=4^n:=by
 obtain⟨v,r',e,k1,k2,k3,_⟩:=P.YAK h n t depth K r a1 a2 a3 a4 a5 a6 a7 a8
 exact⟨v,r',e,k1,k2,k3⟩
theorem ZMC {w:List Data}(hw:w∈ZAR):ZR w/\1<=w.length/\w.length<=2/\ZBI w/\∃T,F.f53 w=some T/\TOk w T:=by
 have hs:=ZC9 hw
 have wok:F.f24 w=some true->ZR w:=fun h=>by rw[P.YL w hs]at h;exact ZFl.1 (Option.some.inj h)
 simp only[ZAR,List.mem_cons,List.not_mem_nil,or_false]at hw
 rcases hw with rfl|rfl|rfl|rfl|rfl|rfl|rfl
 ·have:=wok (E.f24_le 100 _ _ (by kernel_rfl));exact⟨this,by decide,by decide,hs,_,ZNg,TOk.of this (by decide)⟩
 ·have:=wok (E.f24_le 100 _ _ (by kernel_rfl));exact⟨this,by decide,by decide,hs,_,ZNe,TOk.of this (by decide)⟩
 ·have:=wok (E.f24_le 100 _ _ (by kernel_rfl));exact⟨this,by decide,by decide,hs,_,ZNc,TOk.of this (by decide)⟩
 ·have:=wok (E.f24_le 100 _ _ (by kernel_rfl));exact⟨this,by decide,by decide,hs,_,ZNa,TOk.of this (by decide)⟩
 ·have:=wok (E.f24_le 100 _ _ (by kernel_rfl));exact⟨this,by decide,by decide,hs,_,ZNY,TOk.of this (by decide)⟩
 ·have:=wok (E.f24_le 100 _ _ (by kernel_rfl));exact⟨this,by decide,by decide,hs,_,ZNW,TOk.of this (by decide)⟩
 ·have:=wok (E.f24_le 100 _ _ (by kernel_rfl));exact⟨this,by decide,by decide,hs,_,ZNU,TOk.of this (by decide)⟩
theorem P.YAT {K:Nat}{r:ZB}(h:rok K r)(hK:K+300<=1099511627776):∃w t v r' T,F.f58 r=some (w,t,v,r')/\rok (K+300) r'/\w∈ZAR/\F.f53 w=some T/\TOk w T/\tIx w t/\t.index<=2/\0<=t.index/\ZB7 T t≠0/\pv w false 4 t v/\v.wt+1<=256/\(t.data= -1->t.index=0):=by
 unfold F.f58
 obtain⟨w,r1,e1,h1,hw⟩:=P.YAY h (by omega)
 obtain⟨hwo,hl1,hl2,hs,T,hT,hTo⟩:=ZMC hw
 obtain⟨p,r2,e2,h2,p0,p1,_⟩:=P.YG h1 (by omega) (w.length:Int)
 obtain⟨i,r3,e3,h3,hi⟩:=P.num h2 (by omega) [0,0,1,2] (by simp)
 obtain⟨d,r4,e4,h4,hd⟩:=P.num h3 (by omega) [3,2,4,1] (by simp)
 have hi:0<=i/\i<=2:=by simp at hi;omega
 have hd:1<=d/\d<=4:=by simp at hd;omega
 have p1:=p1 (by omega)
 have ht:tIx w ⟨p,i⟩:=.inr ⟨p0,p1,hi.1,by show i<=3;omega⟩
 rw[e1];simp only[oE,oS]
 rw[hT];simp only[oS]
 rw[e2];simp only[oS]
 rw[e3];simp only[oS]
 rw[P.YJ hTo ht,e4];simp only[oS]
 split
 ·obtain⟨v,r',e,k1,k2,k3⟩:=P.YAU hTo 4 ⟨-1,0⟩ d _ r4 (.inl rfl) (by simp[ZB7]) (by simp[ZB7]) (by omega) (by omega) (by omega) h4 (by omega)
  rw[e]
  exact⟨w,⟨-1,0⟩,v,r',T,rfl,k1.mono (by omega),hw,hT,hTo,.inl rfl,by simp,by simp,by simp[ZB7],k2,k3,fun _=>rfl⟩
 ·next hne=>
  have:=hTo.dep ⟨p,i⟩
  obtain⟨v,r',e,k1,k2,k3⟩:=P.YAU hTo 4 ⟨p,i⟩ d _ r4 ht hne (by omega) (by omega) (by omega) (by omega) h4 (by omega)
  rw[e]
  exact⟨w,⟨p,i⟩,v,r',T,rfl,k1.mono (by omega),hw,hT,hTo,ht,hi.2,hi.1,hne,k2,k3,fun hh=>by have:p= -1:=hh;omega⟩
theorem ZCZ {a b:ByteArray}(h:a.data.toList=b.data.toList):a=b:=by
 obtain⟨x⟩:=a
 obtain⟨y⟩:=b
 congr 1
 exact Array.toList_inj.1 h
theorem ZBp (a b:ByteArray):(a++b).data.toList=a.data.toList++b.data.toList:=by rw[ByteArray.data_append,Array.toList_append]
theorem ZC0 (a:ByteArray):a.size=a.data.toList.length:=by rw[Array.length_toList];rfl
theorem ZL (a b:ByteArray):(a++b).size=a.size+b.size:=by rw[ZC0,ZBp,List.length_append,←ZC0,←ZC0]
theorem ZAP (a b c:ByteArray):a++b++c=a++(b++c):=ZCZ (by simp[ZBp])
theorem ZN6 (a:ByteArray):a++ByteArray.empty=a:=ZCZ (by simp[ZBp])
theorem ZNx (a:ByteArray):ByteArray.empty++a=a:=ZCZ (by simp[ZBp])
theorem ZN9 (n:Int):IntKind.u8.wrap n=n%256:=rfl
theorem ZF3 (n:Int):i64.wrap n%256=n%256:=by
 have:i64.wrap n=n%18446744073709551616∨i64.wrap n=n%18446744073709551616-18446744073709551616:=by
  unfold IntKind.wrap
  simp only
  split
  ·exact .inr rfl
  ·exact .inl rfl
 rcases this with e|e<;>omega
noncomputable def ZEW (l:List VarType)(n:Int):Int:=match ZJp (fun x=>x.var=n) 0 l with
 |some j=>(j:Int)
 |none=> -1
theorem P.YE (l:List VarType)(n:Int):F.f79 l n=some (ZEW l n):=by
 unfold F.f79 ZEW
 rw[ZSP (a:=l) (p:=fun x=>x.var=n) (L:=F.f78 l n) (fun k hk=>by rw[F.f78,if_neg (by omega)])
  (fun k hk hp=>by rw[F.f78,if_pos hk,gQ hk];simp only[oE,oS];rw[if_neg hp])
  (fun k hk hp=>by rw[F.f78,if_pos hk,gQ hk];simp only[oE,oS];rw[if_pos hp]) _ 0 rfl,List.drop_zero]
 cases ZJp (fun x=>x.var=n) 0 l<;>rfl
theorem ZB5 (l:List VarType)(n:Int):ZEW l n= -1∨∃(j:Nat) (h:j<l.length),ZEW l n=(j:Int)/\l[j].var=n/\∀i (hi:i<l.length),i<j->l[i].var≠n:=by
 unfold ZEW
 cases h:ZJp (fun x:VarType=>x.var=n) 0 l with
 |none=>exact .inl rfl
 |some j=>
  obtain⟨_,h2,h3,h4⟩:=ZD9 h
  exact .inr ⟨j,h2,rfl,h3,h4⟩
theorem ZEx (l:List VarType)(j:Nat)(hj:j<l.length):ZEW l l[j].var=(j:Int)↔∀i (hi:i<l.length),i<j->l[i].var≠l[j].var:=by
 constructor
 ·intro h
  rcases ZB5 l l[j].var with q|⟨k,hk,q1,q2,q3⟩
  ·omega
  ·have:k=j:=by omega
   subst this;exact q3
 ·intro h
  unfold ZEW
  cases hf:ZJp (fun x:VarType=>x.var=l[j].var) 0 l with
  |none=>exact absurd rfl (ZEA hf l[j] (gM hj))
  |some k=>
   obtain⟨_,h2,h3,h4⟩:=ZD9 hf
   show(k:Int)=j
   have:¬k<j:=fun hlt=>h k h2 hlt h3
   have:¬j<k:=fun hlt=>h4 j hj (by omega) rfl
   omega
theorem ZE7 {w:List Data}(hw:ZR w){t:Ty}(ht:Zi w t){c:Int}(h:c∈ZU w t):∀a,a∈ZP w t c->Zi w a:=by
 have hc:=(Zu hw (ZBl ht.1) (Zf h).1).2 _ (ZC2 h).2
 have hn:=(Zf h).1
 intro a ha
 obtain⟨b,hb,rfl⟩:=List.mem_map.1 ha
 obtain⟨j,hj,rfl⟩:=List.getElem_of_mem hb
 have:=hc.2.2.2.2 j (by omega) hj
 have ht2:=ht.2
 rcases ht.1 with q|⟨q1,q2,q3,q4⟩
 ·exact absurd q.1 hn
 unfold ZIB
 rcases this with⟨p1,p2⟩|⟨p1,p2,p3,p4⟩
 ·rw[if_neg (by omega)];exact⟨.inl ⟨p1,p2⟩,by omega⟩
 ·split
  ·next e=>
   have hx:0<=(if(ZAD w t c).index=0 then t.index else(ZAD w t c).index)/\(if(ZAD w t c).index=0 then t.index else(ZAD w t c).index)<=3:=by
    split
    ·exact⟨ht2,q4⟩
    ·exact⟨hc.2.2.1,hc.2.2.2.1⟩
   exact⟨.inr ⟨p1,p2,by show -1<=(if(ZAD w t c).index=0 then t.index else(ZAD w t c).index);omega,hx.2⟩,hx.1⟩
  ·next e=>exact⟨.inr ⟨p1,p2,p3,p4⟩,by omega⟩
def ZDp (w:List Data)(t:Ty)(p:Pattern):Prop:=
 (p.op=1/\p.var=0/\p.n=0/\p.m=0/\p.ctor=0)∨
 (p.op=2/\0<=p.var/\p.var<=5/\p.n=0/\p.m=0/\p.ctor=0)∨
 (p.op=3/\p.var=0/\p.ctor=0/\t.data= -1/\0<=p.n/\p.n<=p.m/\p.m<=9)∨
 (p.op=4/\p.var=0/\p.n=0/\p.m=0/\p.ctor∈ZU w t)∨
 (p.op=5/\p.var=0/\p.n=0/\p.m=0/\p.ctor=0)∨
 (p.op=6/\0<=p.var/\p.var<=5/\p.n=0/\p.m=0/\p.ctor=0)
noncomputable def ZH (w:List Data)(t:Ty)(p:Pattern):List Ty:=if p.op=4 then ZP w t p.ctor else if p.op=5 then[t,t]else if p.op=6 then[t]else[]
theorem P.YAD (w:List Data)(hw:ZR w)(t:Ty)(ht:tOk w t)(p:Pattern):F.f66 w t p=some (dec (ZDp w t p)):=by
 unfold F.f66
 rw[P.YK w hw t ht]
 simp only[oE,oS,P.YAE]
 have yes:ZDp w t p->some true=some (dec (ZDp w t p)):=fun h=>by rw[ZJ h]
 have no:¬ZDp w t p->some false=some (dec (ZDp w t p)):=fun h=>by rw[ZF h]
 repeat' split
 all_goals first
  |(refine no fun h=> ?_;unfold ZDp at h;omega)
  |(refine yes ?_;unfold ZDp;omega)
  |skip
 ·rw[←ZAq];congr 1;refine ZX ?_;unfold ZDp;omega
 ·congr 1;refine ZX ⟨fun h=>.inr (.inr (.inr (.inl ⟨by assumption,by assumption,by assumption,by assumption,h⟩))),fun h=> ?_⟩
  unfold ZDp at h
  rcases h with h|h|h|h|h|h
  ·omega
  ·omega
  ·omega
  ·exact h.2.2.2.2
  ·omega
  ·omega
theorem P.YH (w:List Data)(hw:ZR w)(t:Ty)(ht:tOk w t)(p:Pattern)(h:ZDp w t p):F.f69 w t p=some (ZH w t p):=by
 unfold F.f69 ZH
 by_cases h4:p.op=4
 ·rw[if_pos h4,if_pos h4]
  have hc:p.ctor∈ZU w t:=by
   unfold ZDp at h
   rcases h with h|h|h|h|h|h
   ·omega
   ·omega
   ·omega
   ·exact h.2.2.2.2
   ·omega
   ·omega
  rw[P.YF w hw t ht _ hc];rfl
 ·rw[if_neg h4,if_neg h4]
  have k:F.f67 p.op=some (if p.op=5 then 2 else if p.op=6 then 1 else 0):=by
   unfold F.f67;split
   ·rfl
   ·split
    ·rfl
    ·rfl
  by_cases h5:p.op=5
  ·rw[if_pos h5]
   rw[if_pos h5]at k
   rw[F.f68,k]
   simp only[oE,oS]
   rw[if_pos (by omega),if_pos (by simp),if_pos (by omega),F.f68,k]
   simp only[oE,oS]
   rw[if_pos (by omega),if_pos (by simp),if_pos (by omega),F.f68,k]
   simp only[oE,oS]
   rw[if_neg (by omega)];simp
  ·rw[if_neg h5]
   rw[if_neg h5]at k
   by_cases h6:p.op=6
   ·rw[if_pos h6]
    rw[if_pos h6]at k
    rw[F.f68,k]
    simp only[oE,oS]
    rw[if_pos (by omega),if_pos (by simp),if_pos (by omega),F.f68,k]
    simp only[oE,oS]
    rw[if_neg (by omega)];simp
   ·rw[if_neg h6]
    rw[if_neg h6]at k
    rw[F.f68,k]
    simp only[oE,oS]
    rw[if_neg (by omega)];simp
theorem ZA0 {w:List Data}(hw:ZR w){t:Ty}(ht:Zi w t){p:Pattern}(h:ZDp w t p):∀a,a∈ZH w t p->Zi w a:=by
 unfold ZH
 intro a ha
 split at ha
 ·next h4=>
  have hc:p.ctor∈ZU w t:=by
   unfold ZDp at h
   rcases h with h|h|h|h|h|h
   ·omega
   ·omega
   ·omega
   ·exact h.2.2.2.2
   ·omega
   ·omega
  exact ZE7 hw ht hc a ha
 ·split at ha
  ·simp at ha;subst ha;exact ht
  ·split at ha
   ·simp at ha;subst ha;exact ht
   ·cases ha
def ZAS (w:List Data):Nat->Ty->Pattern->Prop
 |0,_,_=>False
 |d+1,t,p=>ZDp w t p/\p.kids.length=(ZH w t p).length/\∀i,0<=i->i<(ZH w t p).length->∀(h:i<(ZH w t p).length) (h':i<p.kids.length),ZAS w d (ZH w t p)[i] p.kids[i]
theorem P.YI (w:List Data)(hw:ZR w):∀(d:Nat) (t:Ty) (p:Pattern),Zi w t->d<=10->F.f70 w t p d=some (dec (ZAS w d t p))
 |0,t,p,ht,hd=>by rw[F.f70,if_pos (by omega),ZF (by simp[ZAS])]
 |d+1,t,p,ht,hd=>by
  rw[F.f70,if_neg (by omega),P.YAD w hw t (ZBl ht.1)]
  simp only[oE,oS]
  by_cases ho:ZDp w t p
  ·rw[if_pos (ZJ ho),P.YH w hw t (ZBl ht.1) p ho]
   simp only[oS]
   have hts:=ZA0 hw ht ho
   by_cases h4:p.kids.length=(ZH w t p).length
   ·rw[if_pos h4,ZLs (n:=(ZH w t p).length) (r:=false) (Q:=fun i=>∀(h:i<(ZH w t p).length) (h':i<p.kids.length),ZAS w d (ZH w t p)[i] p.kids[i]) (L:=F.f71 w p ((d+1:Nat):Int) (ZH w t p))
     (fun k hk=>by rw[F.f71,if_neg (by omega)])
     (fun k hk hq=>by
      have hk':k<p.kids.length:=by omega
      rw[F.f71,if_pos hk,gQ hk,gQ hk']
      simp only[oE,oS]
      rw[ZE (by omega) (by omega),show((d+1:Nat):Int) -1=(d:Int)from by omega,P.YI w hw d _ _ (hts _ (gM hk)) (by omega)]
      simp only[oS]
      rw[if_pos (ZJ (hq hk hk'))])
     (fun k hk hq=>by
      have hk':k<p.kids.length:=by omega
      rw[F.f71,if_pos hk,gQ hk,gQ hk']
      simp only[oE,oS]
      rw[ZE (by omega) (by omega),show((d+1:Nat):Int) -1=(d:Int)from by omega,P.YI w hw d _ _ (hts _ (gM hk)) (by omega)]
      simp only[oS]
      rw[if_neg (by rw[ZF fun h=>hq fun _ _=>h];simp)]) _ 0 rfl]
    simp only[oS]
    by_cases hall:∀i,0<=i->i<(ZH w t p).length->∀(h:i<(ZH w t p).length) (h':i<p.kids.length),ZAS w d (ZH w t p)[i] p.kids[i]
    ·rw[if_pos (ZJ hall),ZJ ⟨ho,h4,hall⟩]
    ·rw[if_neg (by rw[ZF hall];simp),ZF fun h=>hall h.2.2]
   ·rw[if_neg h4,ZF fun h=>h4 h.2.1]
  ·rw[if_neg (by rw[ZF ho];simp),ZF fun h=>ho h.1]
theorem P.YAN (v:Pattern)(hv:v.wt<=1048576):∀(most:Nat),most<=60->∃c:Nat,F.f72 v most=some (c:Int)/\1<=c/\c<=1+v.wt/\(1+v.wt<=most->c=1+v.wt)/\(most<1+v.wt->most<c):=by
 induction v using Pattern.ind with
 |_ v ih=>
  intro most hm
  have hw:=v.wt_eq
  have key:∀(m i:Nat) (n:Nat),v.kids.length-i=m->1<=n->n+((v.kids.drop i).map fun k=>1+k.wt).sum<=1+v.wt->
    ∃c:Nat,F.f73 v most n i=some (c:Int)/\n<=c/\c<=n+((v.kids.drop i).map fun k=>1+k.wt).sum/\(n+((v.kids.drop i).map fun k=>1+k.wt).sum<=most->c=n+((v.kids.drop i).map fun k=>1+k.wt).sum)/\(most<n+((v.kids.drop i).map fun k=>1+k.wt).sum->most<c):=by
   intro m
   induction m with
   |zero=>
    intro i n hmi hn hb
    rw[F.f73,if_neg (by omega),List.drop_eq_nil_of_le (by omega)]
    exact⟨n,rfl,by omega,by simp,by simp,by simp⟩
   |succ m ih2=>
    intro i n hmi hn hb
    have hi:i<v.kids.length:=by omega
    rw[List.drop_eq_getElem_cons hi]at hb ⊢
    simp only[List.map_cons,List.sum_cons]at hb ⊢
    rw[F.f73,if_pos hi]
    by_cases hle:n<=most
    ·rw[if_pos (by omega),gQ hi]
     simp only[oE,oS]
     have hk:v.kids[i].wt<=1048576:=by omega
     obtain⟨c,h1,h2,h3,h4,h5⟩:=ih v.kids[i] (gM hi) hk (most-n) (by omega)
     rw[ZE (by omega) (by omega),show((most:Int) - (n:Int))=((most-n:Nat):Int)from by omega,h1]
     simp only[oS]
     rw[ZE (by omega) (by omega),show((n:Int)+(c:Int))=((n+c:Nat):Int)from by omega]
     obtain⟨c',g1,g2,g3,g4,g5⟩:=ih2 (i+1) (n+c) (by omega) (by omega) (by omega)
     refine⟨c',g1,by omega,by omega,fun h=> ?_,fun h=> ?_⟩
     ·have:=h4 (by omega)
      have:=g4 (by omega)
      omega
     ·by_cases hx:1+v.kids[i].wt<=most-n
      ·have:=h4 hx
       exact g5 (by omega)
      ·have:=h5 (by omega)
       omega
    ·rw[if_neg (by omega)]
     exact⟨n,rfl,by omega,by omega,fun h=>by omega,fun h=>by omega⟩
  have hs:((v.kids.drop 0).map fun k=>1+k.wt).sum=v.wt:=by
   rw[List.drop_zero,hw]
   have:∀l:List Pattern,(l.map fun k=>1+k.wt).sum=wtL Pattern.wt l:=by
    intro l
    induction l with
    |nil=>rfl
    |cons a r ih=>simp[ih]
   exact this _
  obtain⟨c,h1,h2,h3,h4,h5⟩:=key _ 0 1 rfl (by omega) (by omega)
  rw[hs]at h3 h4 h5
  unfold F.f72
  have h1':F.f73 v most 1 0=some (c:Int):=h1
  rw[h1']
  exact⟨c,rfl,by omega,h3,h4,h5⟩
theorem ZL8 (v:Pattern):v.wt=((v.kids.drop 0).map fun k=>1+k.wt).sum:=by
 rw[List.drop_zero,v.wt_eq]
 have:∀l:List Pattern,(l.map fun k=>1+k.wt).sum=wtL Pattern.wt l:=by
  intro l
  induction l with
  |nil=>rfl
  |cons a r ih=>simp[ih]
 exact(this _).symm
noncomputable def Zd (w:List Data):Nat->Ty->Pattern->List VarType
 |0,_,_=>[]
 |d+1,t,p=>(if p.op=2∨p.op=6 then[⟨p.var,t⟩]else[])++(((ZH w t p).zip p.kids).take (if p.op=5 then 1 else p.kids.length)).flatMap fun x=>Zd w d x.1 x.2
theorem ZGo {f:Ty×Pattern->List VarType}(hf:∀x,(f x).length<=1+x.2.wt):∀(ts:List Ty) (ks:List Pattern) (n:Nat),(((ts.zip ks).take n).flatMap f).length<=wtL Pattern.wt ks
 | [],ks,n=>by simp
 |t::ts,[],n=>by simp
 |t::ts,k::ks,0=>by simp
 |t::ts,k::ks,n+1=>by
  have h1:=ZGo hf ts ks n
  have h2:=hf (t,k)
  simp only[List.zip_cons_cons,List.take_succ_cons,List.flatMap_cons,List.length_append,ZAW]at h1 h2 ⊢
  omega
theorem ZDo (w:List Data):∀(d:Nat) (t:Ty) (p:Pattern),(Zd w d t p).length<=1+p.wt
 |0,t,p=>by simp[Zd]
 |d+1,t,p=>by
  have:=ZGo (f:=fun x=>Zd w d x.1 x.2) (fun x=>ZDo w d x.1 x.2) (ZH w t p) p.kids (if p.op=5 then 1 else p.kids.length)
  rw[Zd,List.length_append,p.wt_eq]
  have h1:(if p.op=2∨p.op=6 then[(⟨p.var,t⟩:VarType)]else[]).length<=1:=by split<;>simp
  omega
theorem ZDX {w:List Data}{p:Pattern}{ts:List Ty}(hl:p.kids.length=ts.length)(h5:p.op≠5){f:Ty×Pattern->List VarType}{L:List VarType->Nat->Option (List VarType)}
  (hL:∀out i,L out i=if i<ts.length then(if i=0 then ts[i]? >>=fun x=>p.kids[i]? >>=fun y=>F.f74 out w x y>>=fun v=>L v (i+1)else(if p.op=5 then some out else ts[i]? >>=fun x=>p.kids[i]? >>=fun y=>F.f74 out w x y>>=fun v=>L v (i+1)))else some out)
  (hf:∀x:Ty×Pattern,(f x).length<=1+x.2.wt)
  (ih:∀i (h:i<ts.length) (h':i<p.kids.length) (out:List VarType),out.length+(1+p.kids[i].wt)<=67108864->F.f74 out w ts[i] p.kids[i]=some (out++f (ts[i],p.kids[i]))):
  ∀(m i:Nat) (out:List VarType),ts.length-i=m->out.length+((p.kids.drop i).map fun k=>1+k.wt).sum<=67108864->L out i=some (out++((ts.zip p.kids).drop i).flatMap f):=by
 intro m
 induction m with
 |zero=>
  intro i out hm hb
  rw[hL,if_neg (by omega),List.drop_eq_nil_of_le (by simp;omega)];simp
 |succ m ihm=>
  intro i out hm hb
  have hi:i<ts.length:=by omega
  have hi':i<p.kids.length:=by omega
  rw[List.drop_eq_getElem_cons hi']at hb
  simp only[List.map_cons,List.sum_cons]at hb
  have e:(ts[i]? >>=fun x=>p.kids[i]? >>=fun y=>F.f74 out w x y>>=fun v=>L v (i+1))=some (out++((ts.zip p.kids).drop i).flatMap f):=by
   rw[gQ hi,gQ hi']
   simp only[oE,oS]
   rw[ih i hi hi' out (by omega)]
   simp only[oS]
   have:=hf (ts[i],p.kids[i])
   simp only at this
   rw[ihm (i+1) _ (by omega) (by rw[List.length_append];omega),List.drop_eq_getElem_cons (l:=ts.zip p.kids) (i:=i) (by simp;omega)]
   simp
  rw[hL,if_pos hi,if_neg h5,e]
  split<;>rfl
theorem ZAL {w:List Data}{t:Ty}{p:Pattern}(h:ZDp w t p)(h5:p.op=5):ZH w t p=[t,t]:=by unfold ZH;rw[if_neg (by omega),if_pos h5]
theorem P.YA (w:List Data)(hw:ZR w):∀(d:Nat) (t:Ty) (p:Pattern) (out:List VarType),Zi w t->ZAS w d t p->out.length+(1+p.wt)<=67108864->F.f74 out w t p=some (out++Zd w d t p)
 |0,t,p,out,ht,hs,hb=>hs.elim
 |d+1,t,p,out,ht,hs,hb=>by
  obtain⟨ho,hl,hk⟩:=hs
  have hts:=ZA0 hw ht ho
  have hsum:=ZL8 p
  have ih:∀i (h:i<(ZH w t p).length) (h':i<p.kids.length) (out:List VarType),out.length+(1+p.kids[i].wt)<=67108864->F.f74 out w (ZH w t p)[i] p.kids[i]=some (out++(fun x:Ty×Pattern=>Zd w d x.1 x.2) ((ZH w t p)[i],p.kids[i])):=
   fun i h h' out hb=>P.YA w hw d _ _ out (hts _ (gM h)) (hk i (by omega) h h h') hb
  have hf:∀x:Ty×Pattern,((fun x:Ty×Pattern=>Zd w d x.1 x.2) x).length<=1+x.2.wt:=fun x=>ZDo w d x.1 x.2
  have full:∀n,p.kids.length<=n->((ZH w t p).zip p.kids).take n=(ZH w t p).zip p.kids:=fun n hn=>List.take_of_length_le (by simp;omega)
  rw[F.f74,P.YH w hw t (ZBl ht.1) p ho]
  simp only[oE,oS]
  by_cases h2:p.op=2
  ·rw[if_pos h2,if_pos (by omega),ZDX (f:=fun x=>Zd w d x.1 x.2) (L:=F.f77 w p (ZH w t p)) hl (by omega) (fun out i=>by rw[F.f77]) hf ih _ 0 _ rfl (by simp at hsum ⊢;omega)]
   simp only[oS]
   rw[Zd,if_pos (.inl h2),if_neg (by omega),full _ (Nat.le_refl _)];simp
  ·rw[if_neg h2]
   by_cases h6:p.op=6
   ·rw[if_pos h6,if_pos (by omega),ZDX (f:=fun x=>Zd w d x.1 x.2) (L:=F.f75 w p (ZH w t p)) hl (by omega) (fun out i=>by rw[F.f75]) hf ih _ 0 _ rfl (by simp at hsum ⊢;omega)]
    simp only[oS]
    rw[Zd,if_pos (.inr h6),if_neg (by omega),full _ (Nat.le_refl _)];simp
   ·rw[if_neg h6]
    by_cases h5:p.op=5
    ·have et:=ZAL ho h5
     rw[et]at hl
     have h0:0<p.kids.length:=by rw[hl];simp
     have h0':0<(ZH w t p).length:=by rw[et];simp
     have hw0:1+p.kids[0].wt<=p.wt:=by
      rw[hsum,List.drop_zero]
      obtain⟨a,r,e⟩:=List.exists_cons_of_length_pos h0
      simp[e]
     have e0:=ih 0 h0' h0 out (by omega)
     rw[F.f76,if_pos h0',if_pos rfl,gQ h0',gQ h0]
     simp only[oE,oS]
     rw[e0]
     simp only[oS]
     rw[F.f76,if_pos (by rw[et];simp),if_neg (by omega),if_pos h5]
     simp only[oS]
     rw[Zd,if_neg (by omega),if_pos h5]
     have e1:((ZH w t p).zip p.kids).take 1=[((ZH w t p)[0],p.kids[0])]:=by
      obtain⟨a,r,e⟩:=List.exists_cons_of_length_pos h0
      obtain⟨b,r',e'⟩:=List.exists_cons_of_length_pos h0'
      simp[e,e']
     rw[e1];simp
    ·rw[ZDX (f:=fun x=>Zd w d x.1 x.2) (L:=F.f76 w p (ZH w t p)) hl h5 (fun out i=>by rw[F.f76]) hf ih _ 0 _ rfl (by simp at hsum ⊢;omega)]
     simp only[oS]
     rw[Zd,if_neg (by omega),if_neg h5,full _ (Nat.le_refl _)];simp
def ZLB (l:List VarType):Prop:=(l.map VarType.var).Nodup
def ZMJ (a b:List VarType):Prop:=a.length=b.length/\∀x,x∈a->x∈b
theorem ZFY (l:List VarType):ZLB l↔∀i j (hi:i<l.length) (hj:j<l.length),i<j->l[i].var≠l[j].var:=by
 unfold ZLB List.Nodup
 rw[List.pairwise_map,List.pairwise_iff_getElem]
theorem ZEy {l:List VarType}{n:Int}(h:ZEW l n= -1):∀x,x∈l->x.var≠n:=by
 unfold ZEW at h
 cases hf:ZJp (fun x:VarType=>x.var=n) 0 l with
 |none=>exact ZEA hf
 |some j=>rw[hf]at h;simp only at h;omega
theorem ZP2 {a b:VarType}(h:a.var=b.var)(h2:eq2 (a.type.data,a.type.index) (b.type.data,b.type.index)):a=b:=by
 obtain⟨v,d,i⟩:=a
 obtain⟨v',d',i'⟩:=b
 simp only[eq2]at h h2
 obtain⟨rfl,rfl⟩:=h2
 subst h;rfl
theorem P.YY (l:List VarType):F.f82 l 0=some (if dec (ZLB l)=true then .go ()else .ret false):=by
 rw[ZLs (n:=l.length) (r:=false) (Q:=fun j=>∀h:j<l.length,ZEW l l[j].var=(j:Int)) (L:=F.f82 l) (fun k hk=>by rw[F.f82,if_neg (by omega)])
  (fun k hk hq=>by
   rw[F.f82,if_pos hk,gQ hk]
   simp only[oE,oS,P.YE]
   rw[if_pos (hq hk)])
  (fun k hk hq=>by
   rw[F.f82,if_pos hk,gQ hk]
   simp only[oE,oS,P.YE]
   rw[if_neg fun h=>hq fun _=>h]) _ 0 rfl]
 congr 2
 rw[ZX]
 rw[ZFY]
 constructor
 ·intro h i j hi hj hij
  exact(ZEx l j hj).1 (h j (by omega) hj hj) i hi hij
 ·intro h j _ _ hj
  exact(ZEx l j hj).2 fun i hi hij=>h i j hi hj hij
theorem P.Ys (a b:List VarType)(hb:ZLB b):F.f81 a b=some (dec (ZMJ a b)):=by
 unfold F.f81
 have step:∀k (hk:k<a.length),F.f80 a b k=if dec (a[k]∈b)=true then F.f80 a b (k+1)else some (.ret false):=by
  intro k hk
  rw[F.f80,if_pos hk,gQ hk]
  simp only[oE,oS,P.YE]
  rcases ZB5 b a[k].var with h|⟨j,hj,h1,h2,h3⟩
  ·rw[if_pos (by omega),if_neg]
   rw[ZF fun hm=>ZEy h _ hm rfl];simp
  ·rw[if_neg (by omega),h1,ZLp,gQ hj]
   simp only[oS]
   by_cases he:eq2 (b[j].type.data,b[j].type.index) (a[k].type.data,a[k].type.index)
   ·rw[if_pos (ZJ he),if_pos (ZJ (by rw[←ZP2 h2 he];exact gM hj))]
   ·rw[if_neg (by rw[ZF he];simp),if_neg]
    rw[ZF fun hm=> ?_];· simp
    obtain⟨i,hi,e⟩:=List.getElem_of_mem hm
    have hij:i=j:=by
     rw[ZFY]at hb
     rcases Nat.lt_trichotomy i j with hlt|heq|hlt
     ·exact absurd (by rw[e,h2]) (hb i j hi hj hlt)
     ·exact heq
     ·exact absurd (by rw[e,h2]) (hb j i hj hi hlt)
    subst hij
    exact he (by rw[e];exact⟨rfl,rfl⟩)
 rw[ZLs (n:=a.length) (r:=false) (Q:=fun j=>∀h:j<a.length,a[j]∈b) (L:=F.f80 a b) (fun k hk=>by rw[F.f80,if_neg (by omega)])
  (fun k hk hq=>by rw[step k hk,if_pos (ZJ (hq hk))])
  (fun k hk hq=>by rw[step k hk,if_neg (by rw[ZF fun h=>hq fun _=>h];simp)]) _ 0 rfl]
 simp only[oE,oS]
 by_cases h:∀j,0<=j->j<a.length->∀h:j<a.length,a[j]∈b
 ·rw[if_pos (ZJ h),←ZAq]
  have hx:∀x,x∈a->x∈b:=fun x hx=>by obtain⟨j,hj,e⟩:=List.getElem_of_mem hx;rw[←e];exact h j (by omega) hj hj
  show some (dec (a.length=b.length))=some (dec (ZMJ a b))
  congr 1;exact ZX ⟨fun hl=>⟨hl,hx⟩,fun hs=>hs.1⟩
 ·rw[if_neg (by rw[ZF h];simp),ZF fun hs=>h fun j _ hj _=>hs.2 _ (gM hj)]
def ZMW (w:List Data):Nat->Ty->Pattern->Prop
 |0,_,_=>False
 |d+1,t,p=>(∀i,0<=i->i<(ZH w t p).length->∀(h:i<(ZH w t p).length) (h':i<p.kids.length),ZMW w d (ZH w t p)[i] p.kids[i])/\
   if p.op=5 then(∀(h0:0<p.kids.length) (h1:1<p.kids.length),ZMJ (Zd w d t p.kids[0]) (Zd w d t p.kids[1]))else ZLB (Zd w (d+1) t p)
theorem ZIb {w:List Data}{d:Nat}{t:Ty}{p:Pattern}(ho:ZDp w t p)(h5:p.op=5)(h0:0<p.kids.length):Zd w (d+1) t p=Zd w d t p.kids[0]:=by
 have et:=ZAL ho h5
 rw[Zd,if_neg (by omega),if_pos h5,et]
 obtain⟨a,r,e⟩:=List.exists_cons_of_length_pos h0
 simp[e]
theorem ZCQ {w:List Data}:∀{d:Nat} {t:Ty} {p:Pattern},ZAS w d t p->ZMW w d t p->ZLB (Zd w d t p)
 |0,t,p,hs,hl=>hs.elim
 |d+1,t,p,hs,hl=>by
  obtain⟨ho,hlen,hk⟩:=hs
  obtain⟨h1,h2⟩:=hl
  by_cases h5:p.op=5
  ·have et:=ZAL ho h5
   have h0:0<p.kids.length:=by rw[hlen,et];simp
   have h0':0<(ZH w t p).length:=by rw[et];simp
   rw[ZIb ho h5 h0]
   have e0:(ZH w t p)[0]=t:=by simp[et]
   have a:=hk 0 (Nat.le_refl _) h0' h0' h0
   have b:=h1 0 (Nat.le_refl _) h0' h0' h0
   rw[e0]at a b
   exact ZCQ a b
  ·rw[if_neg h5]at h2;exact h2
theorem P.YP (w:List Data)(hw:ZR w):∀(d:Nat) (t:Ty) (p:Pattern),Zi w t->ZAS w d t p->p.wt<=1048576->F.f83 w t p=some (dec (ZMW w d t p))
 |0,t,p,ht,hs,hb=>hs.elim
 |d+1,t,p,ht,hs,hb=>by
  have hs':=hs
  obtain⟨ho,hl,hk⟩:=hs
  have hts:=ZA0 hw ht ho
  have hsum:=p.wt_eq
  have hkw:∀k (h:k<p.kids.length),1+p.kids[k].wt<=p.wt:=fun k h=>by have:=ZAA Pattern.wt (gM h);omega
  have ih:∀k (h:k<(ZH w t p).length) (h':k<p.kids.length),F.f83 w (ZH w t p)[k] p.kids[k]=some (dec (ZMW w d (ZH w t p)[k] p.kids[k])):=
   fun k h h'=>P.YP w hw d _ _ (hts _ (gM h)) (hk k (by omega) h h h') (by have:=hkw k h';omega)
  rw[F.f83,P.YH w hw t (ZBl ht.1) p ho]
  simp only[oE,oS]
  rw[ZLs (n:=(ZH w t p).length) (r:=false) (Q:=fun i=>∀(h:i<(ZH w t p).length) (h':i<p.kids.length),ZMW w d (ZH w t p)[i] p.kids[i]) (L:=F.f84 w t p (ZH w t p))
   (fun k hk=>by rw[F.f84,if_neg (by omega)])
   (fun k hk hq=>by
    have hk':k<p.kids.length:=by omega
    rw[F.f84,if_pos hk,gQ hk,gQ hk']
    simp only[oE,oS]
    rw[ih k hk hk']
    simp only[oS]
    rw[if_pos (ZJ (hq hk hk'))])
   (fun k hk hq=>by
    have hk':k<p.kids.length:=by omega
    rw[F.f84,if_pos hk,gQ hk,gQ hk']
    simp only[oE,oS]
    rw[ih k hk hk']
    simp only[oS]
    rw[if_neg (by rw[ZF fun h=>hq fun _ _=>h];simp)]) _ 0 rfl]
  simp only[oS]
  by_cases hall:∀i,0<=i->i<(ZH w t p).length->∀(h:i<(ZH w t p).length) (h':i<p.kids.length),ZMW w d (ZH w t p)[i] p.kids[i]
  ·rw[if_pos (ZJ hall)]
   simp only
   by_cases h5:p.op=5
   ·have et:=ZAL ho h5
    have h0:0<p.kids.length:=by rw[hl,et];simp
    have h1:1<p.kids.length:=by rw[hl,et];simp
    have h0':0<(ZH w t p).length:=by rw[et];simp
    have h1':1<(ZH w t p).length:=by rw[et];simp
    have e0:(ZH w t p)[0]=t:=by simp[et]
    have e1:(ZH w t p)[1]=t:=by simp[et]
    have a0:=hk 0 (Nat.le_refl _) h0' h0' h0
    have a1:=hk 1 (by omega) h1' h1' h1
    have b1:=hall 1 (by omega) h1' h1' h1
    rw[e0]at a0
    rw[e1]at a1 b1
    rw[if_pos h5,gQ h0,gQ h1]
    simp only[oS]
    rw[P.YA w hw d t _ [] ht a0 (by have:=hkw 0 h0;simp;omega),P.YA w hw d t _ [] ht a1 (by have:=hkw 1 h1;simp;omega)]
    simp only[oS,List.nil_append]
    rw[P.Ys _ _ (ZCQ a1 b1)]
    simp only[oS]
    congr 1
    refine ZX ⟨fun h=>⟨hall,?_⟩,fun h=> ?_⟩
    ·rw[if_pos h5];exact fun _ _=>h
    ·have:=h.2;rw[if_pos h5]at this;exact this h0 h1
   ·rw[if_neg h5,P.YA w hw (d+1) t p [] ht hs' (by simp;omega)]
    simp only[oS,List.nil_append]
    rw[P.YY]
    simp only[oS]
    by_cases hn:ZLB (Zd w (d+1) t p)
    ·rw[if_pos (ZJ hn),ZJ ⟨hall,by rw[if_neg h5];exact hn⟩]
    ·rw[if_neg (by rw[ZF hn];simp),ZF fun h=>hn (by have:=h.2;rwa[if_neg h5]at this)]
  ·rw[if_neg (by rw[ZF hall];simp),ZF fun h=>hall h.1]
theorem ZIK {f:Ty×Pattern->List VarType}{x:VarType}:∀{ts:List Ty} {ks:List Pattern} {n:Nat},x∈(((ts.zip ks).take n).flatMap f)->∃i,∃(h:i<ts.length) (h':i<ks.length),x∈f (ts[i],ks[i])
 | [],ks,n,h=>by simp at h
 |t::ts,[],n,h=>by simp at h
 |t::ts,k::ks,0,h=>by simp at h
 |t::ts,k::ks,n+1,h=>by
  simp only[List.zip_cons_cons,List.take_succ_cons,List.flatMap_cons,List.mem_append]at h
  rcases h with h|h
  ·exact⟨0,by simp,by simp,by simpa using h⟩
  ·obtain⟨i,h1,h2,h3⟩:=ZIK h
   exact⟨i+1,by simpa using h1,by simpa using h2,by simpa using h3⟩
theorem ZIc {w:List Data}(hw:ZR w):∀{d:Nat} {t:Ty} {p:Pattern},Zi w t->ZAS w d t p->∀x,x∈Zd w d t p->0<=x.var/\x.var<=5/\Zi w x.type
 |0,t,p,ht,hs=>hs.elim
 |d+1,t,p,ht,hs=>by
  obtain⟨ho,hl,hk⟩:=hs
  intro x hx
  rw[Zd,List.mem_append]at hx
  rcases hx with hx|hx
  ·split at hx
   ·next h=>
    simp at hx;subst hx
    unfold ZDp at ho
    refine⟨?_,?_,ht⟩<;>simp only<;>omega
   ·cases hx
  ·obtain⟨i,h,h',hm⟩:=ZIK hx
   exact ZIc hw (ZA0 hw ht ho _ (gM h)) (hk i (by omega) h h h') x hm
def ZCN (w:List Data)(t:Ty)(p:Pattern):Prop:=ZAS w 10 t p/\ZMW w 10 t p/\1+p.wt<=60
theorem P.Yo (w:List Data)(hw:ZR w)(t:Ty)(ht:Zi w t)(p:Pattern)(hp:p.wt<=1048576):F.f85 w t p=some (dec (ZCN w t p)):=by
 unfold F.f85
 have e10:F.f70 w t p 10=some (dec (ZAS w 10 t p)):=P.YI w hw 10 t p ht (by omega)
 rw[e10]
 simp only[oE,oS]
 by_cases h1:ZAS w 10 t p
 ·rw[if_pos (ZJ h1)]
  obtain⟨c,g1,g2,g3,g4,g5⟩:=P.YAN p hp 60 (by omega)
  have g1':F.f72 p 60=some (c:Int):=g1
  rw[g1']
  simp only[oS]
  by_cases hc:1+p.wt<=60
  ·rw[if_pos (by have:=g4 hc;omega),P.YP w hw 10 t p ht h1 hp]
   simp only[oS]
   congr 1;exact ZX ⟨fun h=>⟨h1,h,hc⟩,fun h=>h.2.1⟩
  ·rw[if_neg (by have:=g5 (by omega);omega),ZF fun h=>hc h.2.2]
 ·rw[if_neg (by rw[ZF h1];simp),ZF fun h=>h1 h.1]
def gOk (g:Guard)(vs:List VarType):Prop:=(g.op=0/\g.var=0/\g.n=0)∨((g.op=1∨g.op=2)/\0<=g.n/\g.n<=9/\(⟨g.var,⟨-1,0⟩⟩:VarType)∈vs)
theorem P.Yr (w:List Data)(g:Guard)(vs:List VarType)(hn:ZLB vs)(ht:∀x,x∈vs->Zi w x.type):F.f101 g vs=some (dec (gOk g vs)):=by
 unfold F.f101
 have key:g.op=1∨g.op=2->(if g.n<0 then some false else if 9<g.n then some false else(F.f79 vs g.var)>>=fun v21=>if 0<=v21 then(at? vs v21)>>=fun x25=>some (decide (x25.type.data=(-1)))else some false)=some (dec (gOk g vs)):=by
  intro hop
  by_cases a1:g.n<0
  ·rw[if_pos a1,ZF];rintro(h|h)<;>omega
  rw[if_neg a1]
  by_cases a2:9<g.n
  ·rw[if_pos a2,ZF];rintro(h|h)<;>omega
  rw[if_neg a2,P.YE]
  simp only[oE,oS]
  rcases ZB5 vs g.var with h|⟨j,hj,h1,h2,h3⟩
  ·rw[if_neg (by omega),ZF]
   rintro(h'|h')
   ·omega
   ·exact ZEy h _ h'.2.2.2 rfl
  ·rw[if_pos (by omega),h1,ZLp,gQ hj]
   simp only[oS]
   rw[←ZAq];congr 1
   refine ZX ⟨fun h=>.inr ⟨hop,by omega,by omega,?_⟩,fun h=> ?_⟩
   ·have hty:=ht _ (gM hj)
    have hi:vs[j].type.index=0:=by unfold Zi ZFx at hty;omega
    have:(⟨g.var,⟨-1,0⟩⟩:VarType)=vs[j]:=ZP2 (by simp[h2]) ⟨by simp[h],by simp[hi]⟩
    rw[this];exact gM hj
   ·rcases h with h|h
    ·omega
    ·obtain⟨i,hi,e⟩:=List.getElem_of_mem h.2.2.2
     have hij:i=j:=by
      rw[ZFY]at hn
      rcases Nat.lt_trichotomy i j with hlt|heq|hlt
      ·exact absurd (by rw[e,h2]) (hn i j hi hj hlt)
      ·exact heq
      ·exact absurd (by rw[e,h2]) (hn j i hj hi hlt)
     subst hij
     rw[e]
 by_cases h0:g.op=0
 ·rw[if_pos h0]
  by_cases h1:g.var=0
  ·rw[if_pos h1,←ZAq];congr 1;refine ZX ⟨fun h=>.inl ⟨h0,h1,h⟩,fun h=> ?_⟩
   rcases h with h|h
   ·exact h.2.2
   ·omega
  ·rw[if_neg h1,ZF];rintro(h|h)<;>omega
 ·rw[if_neg h0]
  by_cases h1:g.op=1
  ·rw[if_pos h1];exact key (.inl h1)
  ·rw[if_neg h1]
   by_cases h2:g.op=2
   ·rw[if_pos h2];exact key (.inr h2)
   ·rw[if_neg h2,ZF];rintro(h|h)<;>omega
def ZPw (w:List Data)(t:Ty)(c:Clause):Prop:=ZCN w t c.pat/\gOk c.guard (Zd w 10 t c.pat)
theorem P.YAL (w:List Data)(hw:ZR w)(t:Ty)(ht:Zi w t)(c:Clause)(hp:c.pat.wt<=1048576):F.f102 w t c=some (dec (ZPw w t c)):=by
 unfold F.f102
 rw[P.Yo w hw t ht _ hp]
 simp only[oE,oS]
 by_cases h:ZCN w t c.pat
 ·rw[if_pos (ZJ h),P.YA w hw 10 t c.pat [] ht h.1 (by simp;omega)]
  simp only[oS,List.nil_append]
  rw[P.Yr w _ _ (ZCQ h.1 h.2.1) (fun x hx=>(ZIc hw ht h.1 x hx).2.2)]
  simp only[oS]
  congr 1;exact ZX ⟨fun g=>⟨h,g⟩,fun g=>g.2⟩
 ·rw[if_neg (by rw[ZF h];simp),ZF fun g=>h g.1]
def ZSl (v:Int):Nat->Pattern->Prop
 |0,_=>False
 |d+1,p=>(∃i,∃h:i<p.kids.length,ZSl v d p.kids[i])∨((p.op=2∨p.op=6)/\p.var=v)
theorem ZBk (a b c d e:Int):(⟨a,b,c,d,e,[]⟩:Pattern).wt=0:=by rw[Pattern.wt_eq];rfl
theorem ZP0 (a b c d e:Int)(k:Pattern):(⟨a,b,c,d,e,[k]⟩:Pattern).wt=1+k.wt:=by rw[Pattern.wt_eq];simp
theorem ZPz (a b c d e:Int)(k l:Pattern):(⟨a,b,c,d,e,[k,l]⟩:Pattern).wt=2+k.wt+l.wt:=by rw[Pattern.wt_eq];simp;omega
theorem ZKL {α:Type}(f:α->Nat):∀(l:List α) (i:Nat) (h:i<l.length) (x:α),wtL f (l.set i x)+f l[i]=wtL f l+f x
 |a::l,0,h,x=>by simp;omega
 |a::l,i+1,h,x=>by
  have:=ZKL f l i (by simpa using h) x
  simp;omega
def hv (d:Nat)(p:Pattern):Prop:=∃v,ZSl v d p
theorem ZFc {α:Type}{l:List α}(h:l.length=2):l=[l[0]'(by omega),l[1]'(by omega)]:=by
 match l,h with
 | [x,y],_=>rfl
def ZRP (w:List Data)(t:Ty)(l:List Clause):Prop:=ZDY w t/\l.length<=8/\∀c,c∈l->ZPw w t c
theorem P.YX (w:List Data)(hw:ZBI w)(t:Ty)(l:List Clause)(hp:∀c,c∈l->c.pat.wt<=1048576):F.f104 w t l=some (dec (ZRP w t l)):=by
 unfold F.f104
 rw[P.Yd w t hw]
 simp only[oE,oS]
 by_cases h1:ZDY w t
 ·rw[if_pos (ZJ h1)]
  by_cases h2:8<l.length
  ·rw[if_pos h2,ZF fun h=>by have:=h.2.1;omega]
  ·rw[if_neg h2]
   have hl:∀k,k<=l.length->F.f103 w t l (l.length-k)=some (if dec (∀c,c∈l.drop (l.length-k)->ZPw w t c)=true then .go ()else .ret false):=by
    intro k
    induction k with
    |zero=>intro _;rw[F.f103,if_neg (by omega),if_pos (ZJ fun c hc=>by simp at hc)]
    |succ k ih=>
     intro hk
     have hi:l.length- (k+1)<l.length:=by omega
     rw[F.f103,if_pos hi,gQ hi]
     simp only[oE,oS]
     rw[P.YAL w h1.1 t h1.2 _ (hp _ (gM hi))]
     simp only[oS]
     have e1:l.length- (k+1)+1=l.length-k:=by omega
     have e2:l.drop (l.length- (k+1))=l[l.length- (k+1)]::l.drop (l.length-k):=by rw[List.drop_eq_getElem_cons hi,e1]
     by_cases hc:ZPw w t l[l.length- (k+1)]
     ·rw[if_pos (ZJ hc),e1,ih (by omega),e2]
      rw[ZX (q:=∀c,c∈l[l.length- (k+1)]::l.drop (l.length-k)->ZPw w t c) ⟨fun h c hc'=>by
       rcases List.mem_cons.1 hc' with rfl|hc'
       ·exact hc
       ·exact h c hc',fun h c hc'=>h c (List.mem_cons_of_mem _ hc')⟩]
     ·rw[if_neg (by rw[ZF hc];simp),e2,if_neg (by rw[ZF fun h=>hc (h _ (List.mem_cons_self ..))];simp)]
   have:=hl l.length (Nat.le_refl _)
   rw[Nat.sub_self,List.drop_zero]at this
   rw[this]
   simp only[oS]
   by_cases h3:∀c,c∈l->ZPw w t c
   ·rw[if_pos (ZJ h3)];simp only;rw[ZJ ⟨h1,by omega,h3⟩]
   ·rw[if_neg (by rw[ZF h3];simp)];simp only;rw[ZF fun h=>h3 h.2.2]
 ·rw[if_neg (by rw[ZF h1];simp),ZF fun h=>h1 h.1]
theorem P.Yi {w:List Data}{d e:Nat}{as:List Ty}{depth x:Int}(hd:i64.wrap (depth-1)=(d:Int))
  (ih:∀a,a∈as->∀K r,rok K r->K+e<=1099511627776->∃p r',F.f59 r w a (d:Int)=some (p,r')/\rok (K+e) r'/\p.wt+1<=e):
  ∀(k K:Nat) (z:List Int) (z32:Int) (out:List Pattern),k<=as.length->rok K ⟨z,z32⟩->K+k*e<=1099511627776->out.length+k<=67108864->
   ∃z' z32' out',F.f60 w depth x as z z32 out (as.length-k)=some (z',z32',out')/\rok (K+k*e) ⟨z',z32'⟩/\wtL Pattern.wt out'<=wtL Pattern.wt out+k*e
 |0,K,z,z32,out,hk,hr,hK,ho=>by
  rw[F.f60,if_neg (by omega)]
  exact⟨z,z32,out,rfl,hr.mono (by omega),by omega⟩
 |k+1,K,z,z32,out,hk,hr,hK,ho=>by
  have hi:as.length- (k+1)<as.length:=by omega
  rw[Nat.add_mul,Nat.one_mul]at hK
  obtain⟨p,r1,e1,h1,h2⟩:=ih _ (gM hi) K ⟨z,z32⟩ hr (by omega)
  obtain⟨z',z32',out',f1,f2,f3⟩:=P.Yi hd ih k (K+e) r1.f0 r1.f1 (out++[p]) (by omega) h1 (by omega) (by simp;omega)
  rw[F.f60,if_pos hi,gQ hi]
  simp only[oE,oS]
  rw[hd,e1]
  simp only[oS]
  rw[if_pos (by omega)]
  have ei:as.length- (k+1)+1=as.length-k:=by omega
  rw[ei]
  refine⟨z',z32',out',f1,f2.mono (by rw[Nat.add_mul];omega),?_⟩
  have:wtL Pattern.wt (out++[p])=wtL Pattern.wt out+(1+p.wt):=by simp[wtL];omega
  rw[Nat.add_mul];omega
theorem P.YAS {w:List Data}(hw:ZR w):∀(d:Nat) (t:Ty) (K:Nat) (r:ZB),Zi w t->d<=12->rok K r->K+5^d<=1099511627776->
  ∃p r',F.f59 r w t (d:Int)=some (p,r')/\rok (K+5^d) r'/\p.wt+1<=5^d
 |0,t,K,r,ht,hd,hr,hK=>by
  rw[F.f59,if_pos (by omega)]
  exact⟨_,_,rfl,hr.mono (by omega),by rw[ZBk];simp⟩
 |1,t,K,r,ht,hd,hr,hK=>by
  rw[F.f59,if_pos (by omega)]
  exact⟨_,_,rfl,hr.mono (by omega),by rw[ZBk];simp⟩
 |d+2,t,K,r,ht,hd,hr,hK=>by
  have hpos:1<=5^d:=Nat.pow_pos (show 0<5 by omega)
  have e25:5^ (d+2)=25*5^d:=by rw[Nat.pow_succ,Nat.pow_succ];omega
  have e7:5^ (d+1)=5*5^d:=by rw[Nat.pow_succ];omega
  have hwr:i64.wrap (((d+2:Nat):Int) -1)=((d+1:Nat):Int):=by rw[ZE (by omega) (by omega)];omega
  have ih:=fun(a:Ty) (ha:Zi w a) (K:Nat) (r:ZB) hr hK=>P.YAS hw (d+1) a K r ha (by omega) hr hK
  rw[e25]at hK ⊢
  rw[e7]at ih
  generalize 5^d=q at hpos hK ih ⊢
  rw[F.f59,if_neg (by omega)]
  obtain⟨v1,r1,e1,h1,a1,b1,_⟩:=P.YG hr (by omega) 4
  rw[e1]
  simp only[oE,oS]
  split
  ·exact⟨_,_,rfl,h1.mono (by omega),by rw[ZBk];omega⟩
  obtain⟨v2,r2,e2,h2,a2,b2,_⟩:=P.YG h1 (by omega) 6
  rw[e2]
  simp only[oS]
  split
  ·rw[hwr]
   obtain⟨p1,r3,e3,h3,w3⟩:=ih t ht _ r2 h2 (by omega)
   obtain⟨p2,r4,e4,h4,w4⟩:=ih t ht _ r3 h3 (by omega)
   rw[e3]
   simp only[oS]
   rw[e4]
   exact⟨_,_,rfl,h4.mono (by omega),by rw[ZPz];show 2+p1.wt+p2.wt+1<=_;omega⟩
  ·split
   ·obtain⟨v3,r3,e3,h3,a3,b3,_⟩:=P.YG h2 (by omega) 10
    obtain⟨v4,r4,e4,h4,a4,b4,_⟩:=P.YG h3 (by omega) (i64.wrap (10-v3))
    obtain⟨v5,r5,e5,h5,a5,b5,_⟩:=P.YG h4 (by omega) 2
    rw[e3]
    simp only[oS]
    rw[e4]
    simp only[oS]
    rw[e5]
    exact⟨_,_,rfl,h5.mono (by omega),by rw[ZBk];omega⟩
   ·next hn=>
    rw[P.YK w hw t (ZBl ht.1)]
    simp only[oS]
    split
    ·exact⟨_,_,rfl,h2.mono (by omega),by rw[ZBk];omega⟩
    ·next hl=>
     obtain⟨v3,r3,e3,h3,a3,b3,_⟩:=P.YG h2 (by omega) ((ZU w t).length:Int)
     have b3:=b3 (by omega)
     obtain⟨c,hc,hm⟩:=ZE5 a3 b3
     rw[e3]
     simp only[oS]
     rw[hc]
     simp only[oS]
     rw[P.YF w hw t (ZBl ht.1) c hm]
     simp only[oS]
     have hal:(ZP w t c).length<=3:=by
      have:=(Zu hw (ZBl ht.1) (Zf hm).1).2 _ (ZC2 hm).2
      unfold ZP;rw[List.length_map];exact this.2.1
     have hmul:(ZP w t c).length*(5*q)<=3*(5*q):=Nat.mul_le_mul_right _ hal
     obtain⟨z',z32',out',f1,f2,f3⟩:=P.Yi (x:=c) hwr (fun a ha K r hr hK=>ih a (ZE7 hw ht hm a ha) K r hr hK) (ZP w t c).length _ r3.f0 r3.f1 [] (Nat.le_refl _) h3 (by omega) (by simp;omega)
     rw[Nat.sub_self]at f1
     rw[f1]
     refine⟨_,_,rfl,f2.mono (by omega),?_⟩
     rw[Pattern.wt_eq]
     simp at f3
     show wtL Pattern.wt out'+1<=_
     omega
theorem P.YS {p:Pattern}{L:List Int->Int->List Pattern->Nat->Int->Option ((List Int)×Int×(List Pattern)×Int)}
  (hL:∀z z12 out i next,L z z12 out i next=if i<p.kids.length then
   (p.kids[i]?)>>=fun x=>
   (F.f61 (⟨z,z12⟩:ZB) x next)>>=fun v17=>
   if out.length+1<=67108864 then
    L v17.2.2.f0 v17.2.2.f1 (out++[v17.1]) (i+1) v17.2.1
   else none
  else
   some (z,z12,out,next))
  (ih:∀k,k∈p.kids->∀(n:Int) (K:Nat) (r:ZB),0<=n->n<=7->rok K r->K+3*(1+k.wt)<=1099511627776->k.wt<=1048576->
   ∃p' n' r',F.f61 r k n=some (p',n',r')/\rok (K+3*(1+k.wt)) r'/\0<=n'/\n'<=7/\p'.wt+1<=2*(1+k.wt)):
  ∀(k K:Nat) (z:List Int) (z12:Int) (out:List Pattern) (next:Int),k<=p.kids.length->rok K ⟨z,z12⟩->K+3*wtL Pattern.wt (p.kids.drop (p.kids.length-k))<=1099511627776->wtL Pattern.wt p.kids<=1048576->out.length+k<=67108864->0<=next->next<=7->
   ∃z' z12' out' next',L z z12 out (p.kids.length-k) next=some (z',z12',out',next')/\rok (K+3*wtL Pattern.wt (p.kids.drop (p.kids.length-k))) ⟨z',z12'⟩/\0<=next'/\next'<=7/\
    wtL Pattern.wt out'<=wtL Pattern.wt out+2*wtL Pattern.wt (p.kids.drop (p.kids.length-k))
 |0,K,z,z12,out,next,hk,hr,hK,hb,ho,n0,n7=>by
  rw[hL,if_neg (by omega)]
  exact⟨z,z12,out,next,rfl,hr.mono (by omega),n0,n7,by omega⟩
 |k+1,K,z,z12,out,next,hk,hr,hK,hb,ho,n0,n7=>by
  have hi:p.kids.length- (k+1)<p.kids.length:=by omega
  have ei:p.kids.length- (k+1)+1=p.kids.length-k:=by omega
  have hd:p.kids.drop (p.kids.length- (k+1))=p.kids[p.kids.length- (k+1)]::p.kids.drop (p.kids.length-k):=by rw[List.drop_eq_getElem_cons hi,ei]
  have hm:=ZAA Pattern.wt (gM hi)
  rw[hd,ZAW]at hK ⊢
  obtain⟨p',n',r1,e1,h1,q1,q2,q3⟩:=ih _ (gM hi) next K ⟨z,z12⟩ n0 n7 hr (by omega) (by omega)
  obtain⟨z',z12',out',next',f1,f2,f3,f4,f5⟩:=P.YS hL ih k _ r1.f0 r1.f1 (out++[p']) n' (by omega) h1 (by omega) hb (by simp;omega) q1 q2
  rw[hL,if_pos hi,gQ hi]
  simp only[oE,oS]
  rw[e1]
  simp only[oS]
  rw[if_pos (by omega),ei]
  refine⟨z',z12',out',next',f1,f2.mono (by omega),f3,f4,?_⟩
  have:wtL Pattern.wt (out++[p'])=wtL Pattern.wt out+(1+p'.wt):=by simp[wtL];omega
  omega
theorem P.YAe (p : Pattern) : ∀ (n : Int) (K : Nat) (r : ZB), 0 <= n -> n <= 7 -> rok K r -> K + 3 * (1 + p.wt) <= 1099511627776 -> p.wt <= 1048576 ->
   ∃p' n' r',F.f61 r p n=some (p',n',r')/\rok (K+3*(1+p.wt)) r'/\0<=n'/\n'<=7/\p'.wt+1<=2*(1+p.wt):=by
 induction p using Pattern.ind with
 |_ p ih=>
  intro n K r n0 n7 hr hK hb
  have hwt:=p.wt_eq
  have hlen:=ZBw Pattern.wt p.kids
  have same:p.wt+1<=2*(1+p.wt):=by omega
  rw[F.f61]
  split
  ·exact⟨_,_,_,rfl,hr.mono (by omega),n0,n7,same⟩
  split
  ·exact⟨_,_,_,rfl,hr.mono (by omega),n0,n7,same⟩
  split
  ·exact⟨_,_,_,rfl,hr.mono (by omega),n0,n7,same⟩
  have tail:∀(K':Nat) (z':List Int) (z12':Int) (out':List Pattern) (next':Int),rok K' ⟨z',z12'⟩->K'+1<=K+3*(1+p.wt)->0<=next'->next'<=7->wtL Pattern.wt out'<=2*p.wt->
    ∃p' n' r',(if next'<=5 then
     (F.f1 (⟨z',z12'⟩:ZB) 6).bind fun v24=>
     if v24.1=0 then
      some ((⟨6,0,0,0,next',[(⟨p.op,p.ctor,p.n,p.m,p.var,out'⟩:Pattern)]⟩:Pattern),i64.wrap (next'+1),v24.2)
     else
      some ((⟨p.op,p.ctor,p.n,p.m,p.var,out'⟩:Pattern),next',v24.2)
    else
     some ((⟨p.op,p.ctor,p.n,p.m,p.var,out'⟩:Pattern),next',(⟨z',z12'⟩:ZB)))=some (p',n',r')/\rok (K+3*(1+p.wt)) r'/\0<=n'/\n'<=7/\p'.wt+1<=2*(1+p.wt):=by
   intro K' z' z12' out' next' hr' hK' m0 m7 hout
   have hown:(⟨p.op,p.ctor,p.n,p.m,p.var,out'⟩:Pattern).wt=wtL Pattern.wt out':=by rw[Pattern.wt_eq]
   split
   ·obtain⟨v,r1,e1,h1,a1,b1,_⟩:=P.YG hr' (by omega) 6
    rw[e1]
    simp only[oS]
    have hwn:i64.wrap (next'+1)=next'+1:=ZE (by omega) (by omega)
    rw[hwn]
    split
    ·refine⟨_,_,_,rfl,h1.mono (by omega),by omega,by omega,?_⟩
     rw[ZP0,hown];omega
    ·refine⟨_,_,_,rfl,h1.mono (by omega),by omega,by omega,?_⟩
     rw[hown];omega
   ·refine⟨_,_,_,rfl,hr'.mono (by omega),m0,m7,?_⟩
    rw[hown];omega
  split
  ·obtain⟨v,r1,e1,h1,a1,b1,_⟩:=P.YG hr (by omega) 2
   rw[e1]
   simp only[oE,oS]
   have hwn:i64.wrap (n+1)=n+1:=ZE (by omega) (by omega)
   split
   ·rw[hwn]
    exact⟨_,_,_,rfl,h1.mono (by omega),by omega,by omega,by rw[ZBk];omega⟩
   ·obtain⟨z',z12',out',next',f1,f2,f3,f4,f5⟩:=P.YS (p:=p) (L:=F.f62 p n) (fun z z12 out i next=>by rw[F.f62]) ih p.kids.length _ r1.f0 r1.f1 [] n (Nat.le_refl _) h1 (by rw[Nat.sub_self,List.drop_zero];omega) (by omega) (by simp;omega) n0 n7
    rw[Nat.sub_self]at f1;rw[Nat.sub_self,List.drop_zero]at f2 f5
    rw[f1]
    simp only[oS]
    simp at f5
    exact tail _ z' z12' out' next' f2 (by omega) f3 f4 (by omega)
  ·obtain⟨z',z12',out',next',f1,f2,f3,f4,f5⟩:=P.YS (p:=p) (L:=F.f63 p n) (fun z z12 out i next=>by rw[F.f63]) ih p.kids.length _ r.f0 r.f1 [] n (Nat.le_refl _) hr (by rw[Nat.sub_self,List.drop_zero];omega) (by omega) (by simp;omega) n0 n7
   rw[Nat.sub_self]at f1;rw[Nat.sub_self,List.drop_zero]at f2 f5
   rw[f1]
   simp only[oE,oS]
   simp at f5
   exact tail _ z' z12' out' next' f2 (by omega) f3 f4 (by omega)
theorem ZRb (w:List Data)(t:Ty):ZCN w t ⟨1,0,0,0,0,[]⟩:=by
 have hp:ZH w t ⟨1,0,0,0,0,[]⟩=[]:=by simp[ZH]
 refine⟨⟨.inl ⟨rfl,rfl,rfl,rfl,rfl⟩,by rw[hp];rfl,fun i _ h=>by rw[hp]at h;simp at h⟩,⟨fun i _ h=>by rw[hp]at h;simp at h,?_⟩,by rw[ZBk];omega⟩
 rw[if_neg (by simp)]
 simp[ZLB,Zd]
theorem P.YAX {w:List Data}(hw:ZR w){t:Ty}(ht:Zi w t){K:Nat}{r:ZB}(hr:rok K r)(hK:K+2600<=1099511627776):∃p r',F.f86 r w t=some (p,r')/\rok (K+2600) r'/\ZCN w t p:=by
 unfold F.f86
 obtain⟨v,r1,e1,h1,hv⟩:=P.num hr (by omega) [3,2,4,1] (by simp)
 obtain⟨d,rfl,hd⟩:∃d:Nat,v=(d:Int)/\d<=4:=by
  simp at hv
  exact⟨v.toNat,by omega,by omega⟩
 have h8:5^d<=625:=Nat.le_trans (Nat.pow_le_pow_right (n:=5) (by omega) hd) (by decide)
 obtain⟨p,r2,e2,h2,hp⟩:=P.YAS hw d t _ r1 ht (by omega) h1 (by omega)
 obtain⟨q,n,r3,e3,h3,_,_,hq⟩:=P.YAe p 0 _ r2 (by omega) (by omega) h2 (by omega) (by omega)
 rw[e1]
 simp only[oE,oS]
 rw[e2]
 simp only[oS]
 rw[e3]
 simp only[oS]
 rw[P.Yo w hw t ht q (by omega)]
 simp only[oS]
 by_cases h:ZCN w t q
 ·rw[if_pos (ZJ h)]
  exact⟨_,_,rfl,h3.mono (by omega),h⟩
 ·rw[if_neg (by rw[ZF h];simp)]
  exact⟨_,_,rfl,h3.mono (by omega),ZRb w t⟩
theorem P.YAd {w:List Data}(hw:ZR w){t:Ty}(ht:Zi w t){K:Nat}{r:ZB}(hr:rok K r)(hK:K+20000<=1099511627776):∃p r',F.f86 r w t=some (p,r')/\rok (K+20000) r'/\ZCN w t p:=by
 obtain⟨p,r',e,h,hp⟩:=P.YAX hw ht hr (by omega)
 exact⟨p,r',e,h.mono (by omega),hp⟩
theorem P.YD (v:Pattern×ZB)(vs:List VarType):∀(k K:Nat) (z:List Int) (z4 z5 z6 z7:Int),k<=vs.length->rok K ⟨z,z4⟩->K+3*k<=1099511627776->
  ∃z' z4' z5' z6' z7',F.f87 v z z4 z5 z6 z7 vs (vs.length-k)=some (z',z4',z5',z6',z7')/\rok (K+3*k) ⟨z',z4'⟩
 |0,K,z,z4,z5,z6,z7,hk,hr,hK=>by
  rw[F.f87,if_neg (by omega)]
  exact⟨z,z4,z5,z6,z7,rfl,hr.mono (by omega)⟩
 |k+1,K,z,z4,z5,z6,z7,hk,hr,hK=>by
  have hi:vs.length- (k+1)<vs.length:=by omega
  have ei:vs.length- (k+1)+1=vs.length-k:=by omega
  rw[F.f87,if_pos hi,gQ hi]
  simp only[oE,oS]
  rw[ei]
  split
  ·obtain⟨v1,r1,e1,h1,_⟩:=P.YG hr (by omega) 2
   rw[e1]
   simp only[oS]
   split
   ·obtain⟨v2,r2,e2,h2,_⟩:=P.YG h1 (by omega) 2
    obtain⟨v3,r3,e3,h3,_⟩:=P.YG h2 (by omega) 10
    rw[e2]
    simp only[oS]
    rw[e3]
    simp only[oS]
    obtain⟨a,b,c,d,e,f1,f2⟩:=P.YD v vs k _ r3.f0 r3.f1 (i64.wrap (1+v2)) (vs[vs.length- (k+1)]).var v3 (by omega) h3 (by omega)
    exact⟨a,b,c,d,e,f1,f2.mono (by omega)⟩
   ·obtain⟨a,b,c,d,e,f1,f2⟩:=P.YD v vs k _ r1.f0 r1.f1 z5 z6 z7 (by omega) h1 (by omega)
    exact⟨a,b,c,d,e,f1,f2.mono (by omega)⟩
  ·obtain⟨a,b,c,d,e,f1,f2⟩:=P.YD v vs k _ z z4 z5 z6 z7 (by omega) hr (by omega)
   exact⟨a,b,c,d,e,f1,f2.mono (by omega)⟩
theorem P.YAR {w:List Data}(hw:ZR w){t:Ty}(ht:Zi w t){K:Nat}{r:ZB}(hr:rok K r)(hK:K+21000<=1099511627776):∃c r',F.f88 r w t=some (c,r')/\rok (K+21000) r'/\ZCN w t c.pat:=by
 unfold F.f88
 obtain⟨p,r1,e1,h1,hp⟩:=P.YAd hw ht hr (by omega)
 rw[e1]
 simp only[oE,oS]
 have hl:=ZDo w 10 t p
 have hb:=hp.2.2
 rw[P.YA w hw 10 t p [] ht hp.1 (by simp;omega)]
 simp only[oS,List.nil_append]
 obtain⟨a,b,c,d,e,f1,f2⟩:=P.YD (p,r1) (Zd w 10 t p) (Zd w 10 t p).length _ r1.f0 r1.f1 0 0 0 (Nat.le_refl _) h1 (by omega)
 rw[Nat.sub_self]at f1
 rw[f1]
 exact⟨_,_,rfl,f2.mono (by omega),hp⟩
theorem P.Yz {K:Nat}{r:ZB}(hr:rok K r)(hK:K+2<=1099511627776)(p:Pattern)(hp:p.wt<=1048576):∃p' r',F.f93 r p=some (p',r')/\rok (K+2) r'/\p'.wt<=p.wt+1:=by
 have hwt:=p.wt_eq
 have hlen:=ZBw Pattern.wt p.kids
 have own:∀(a b c d e:Int) (ks:List Pattern),(⟨a,b,c,d,e,ks⟩:Pattern).wt=wtL Pattern.wt ks:=fun a b c d e ks=>by rw[Pattern.wt_eq]
 unfold F.f93
 rw[if_pos (by omega)]
 obtain⟨v,r1,e1,h1,_⟩:=P.YG hr (by omega) 30
 rw[e1]
 simp only[oE,oS]
 split
 ·obtain⟨v2,r2,e2,h2,_⟩:=P.num h1 (by omega) [0,7,1,2,5] (by simp)
  rw[e2];exact⟨_,_,rfl,h2,by rw[own];omega⟩
 split
 ·obtain⟨v2,r2,e2,h2,_⟩:=P.num h1 (by omega) [6,-1,1] (by simp)
  rw[e2];exact⟨_,_,rfl,h2,by rw[own];omega⟩
 split
 ·obtain⟨v2,r2,e2,h2,_⟩:=P.num h1 (by omega) [9,-1,1] (by simp)
  rw[e2];exact⟨_,_,rfl,h2,by rw[own];omega⟩
 split
 ·rw[if_pos (by omega)]
  refine⟨_,_,rfl,h1.mono (by omega),?_⟩
  rw[own]
  have:wtL Pattern.wt (p.kids++[⟨2,0,0,0,0,[]⟩])=wtL Pattern.wt p.kids+(1+Pattern.wt ⟨2,0,0,0,0,[]⟩):=by simp[wtL];omega
  rw[this,ZBk];omega
 split
 ·split
  ·next h0=>
   rw[gQ h0]
   refine⟨_,_,rfl,h1.mono (by omega),?_⟩
   rw[own]
   have:=ZKL Pattern.wt p.kids 0 h0 ⟨2,0,0,0,0,[]⟩
   rw[ZBk]at this
   omega
  ·exact⟨_,_,rfl,h1.mono (by omega),by omega⟩
 split
 ·obtain⟨v2,r2,e2,h2,_⟩:=P.num h1 (by omega) [10,-1,5] (by simp)
  rw[e2];exact⟨_,_,rfl,h2,by rw[own];omega⟩
 ·exact⟨_,_,rfl,h1.mono (by omega),by omega⟩
def Tree.nodes :Tree->Nat
 |⟨_,_,_,_,branches,els⟩=>1+(branches.attach.map fun⟨b,_⟩=>Tree.nodes b.tree).sum+(els.attach.map fun⟨k,_⟩=>Tree.nodes k).sum
termination_by t=>SizeOf.sizeOf t
decreasing_by
 ·rename_i h
  have:=List.sizeOf_lt_of_mem h
  cases b
  simp at this ⊢
  omega
 ·rename_i h
  have:=List.sizeOf_lt_of_mem h
  simp
  omega
def ZKa :Nat->Tree->Prop
 |0,_=>False
 |n+1,x=>(0<=x.op/\x.op<=2/\x.els.length<=1/\x.branches.length<=10)/\(∀b,b∈x.branches->ZKa n b.tree)/\∀y,y∈x.els->ZKa n y
def right (x:Tree):Prop:=ZKa x.nodes x
def ZGB (w:List Data):Nat->Ty->Pattern->Prop
 |0,_,_=>False
 |d+1,t,p=>ZDp w t p/\p.op≠5/\p.kids.length=(ZH w t p).length/\∀i (h:i<(ZH w t p).length) (h':i<p.kids.length),ZGB w d (ZH w t p)[i] p.kids[i]
theorem ZDd {w:List Data}:∀{d:Nat} {t:Ty} {p:Pattern},ZGB w d t p->ZGB w (d+1) t p
 |0,_,_,h=>h.elim
 |d+1,t,p,⟨h1,h2,h3,h4⟩=>⟨h1,h2,h3,fun i h h'=>ZDd (h4 i h h')⟩
theorem ZKM :∀{a b:List Pattern},a.length=b.length->(∀i (h:i<a.length) (h':i<b.length),a[i].wt<=b[i].wt)->wtL Pattern.wt a<=wtL Pattern.wt b
 | [],[],_,_=>Nat.le_refl _
 | [],_::_,h,_=>by simp at h
 |_::_,[],h,_=>by simp at h
 |x::a,y::b,h,hh=>by
  have h0:=hh 0 (by simp) (by simp)
  have:=ZKM (a:=a) (b:=b) (by simpa using h) fun i hi hi'=>by have:=hh (i+1) (by simpa using hi) (by simpa using hi');simpa using this
  simp only[ZAW,List.getElem_cons_zero]at h0 ⊢
  omega
theorem P.YAO (p:Pattern)(l:List (List Pattern)):∀(m i:Nat) (out:List Pattern),l.length-i=m->out.length+m<=67108864->F.f109 p l out i=some (out++(l.drop i).map fun x=>⟨p.op,p.ctor,p.n,p.m,p.var,x⟩)
 |0,i,out,hm,hb=>by rw[F.f109,if_neg (by omega),List.drop_eq_nil_of_le (by omega)];simp
 |m+1,i,out,hm,hb=>by
  have hi:i<l.length:=by omega
  rw[F.f109,if_pos hi,gQ hi]
  simp only[oE,oS]
  rw[if_pos (by omega),P.YAO p l m (i+1) _ (by omega) (by simp;omega),List.drop_eq_getElem_cons hi,List.map_cons]
  simp[←List.map_drop]
def ZPg :Pattern:=⟨1,0,0,0,0,[]⟩
theorem P.YAg :F.f92=some ZPg:=rfl
theorem ZNN :ZPg.wt=0:=by rw[Pattern.wt_eq];rfl
theorem P.YAa {w:List Data}(hw:ZR w){t:Ty}(ht:Zi w t):∀(k K:Nat) (z:List Int) (z2:Int) (out:List Clause),k<=5->rok K ⟨z,z2⟩->K+k*21000<=1099511627776->out.length+k<=100->(∀c,c∈out->ZCN w t c.pat)->
  ∃z' z2' l,F.f89 w t z z2 out (k:Int)=some (z',z2',l)/\rok (K+k*21000) ⟨z',z2'⟩/\l.length=out.length+k/\∀c,c∈l->ZCN w t c.pat
 |0,K,z,z2,out,hk,hr,hK,ho,hp=>by
  rw[F.f89,if_neg (by omega)]
  exact⟨_,_,_,rfl,hr.mono (by omega),rfl,hp⟩
 |k+1,K,z,z2,out,hk,hr,hK,ho,hp=>by
  have hw1:i64.wrap (((k+1:Nat):Int) -1)=(k:Int):=by rw[ZE (by omega) (by omega)];omega
  obtain⟨c,r',e,h1,h2⟩:=P.YAR hw ht hr (by omega)
  rw[F.f89,if_pos (by omega),e,hw1]
  simp only[oE,oS]
  rw[if_pos (by omega)]
  obtain⟨z',z2',l,e2,q1,q2,q3⟩:=P.YAa hw ht k (K+21000) r'.f0 r'.f1 (out++[c]) (by omega) h1 (by omega) (by simp;omega) (fun x h=>by
   rcases List.mem_append.1 h with h|h
   ·exact hp x h
   ·rw[List.mem_singleton.1 h];exact h2)
  exact⟨z',z2',l,e2,q1.mono (by omega),by simp at q2;omega,q3⟩
theorem P.YAc {w:List Data}(hw:ZR w){t:Ty}(ht:Zi w t){K:Nat}{r:ZB}(hr:rok K r)(hK:K+106000<=1099511627776):∃l r',F.f90 r w t=some (l,r')/\rok (K+106000) r'/\l.length<=5/\∀c,c∈l->ZCN w t c.pat:=by
 unfold F.f90
 obtain⟨v,r1,e1,h1,hv⟩:=P.num hr (by omega) [3,2,4,5,1,0] (by simp)
 obtain⟨k,rfl,hk⟩:∃k:Nat,v=(k:Int)/\k<=5:=by
  simp at hv
  exact⟨v.toNat,by omega,by omega⟩
 obtain⟨z',z2',l,e2,q1,q2,q3⟩:=P.YAa hw ht k _ r1.f0 r1.f1 [] hk h1 (by omega) (by simp;omega) (by simp)
 rw[e1]
 simp only[oE,oS]
 rw[e2]
 exact⟨_,_,rfl,q1.mono (by omega),by simp at q2;simp only;omega,q3⟩
theorem P.Yf (v:Int×ZB):∀(k:Nat) (out:List Clause),out.length+k=9->(∀c,c∈out->c.pat.wt<=1000010)->∃l,F.f94 v out=some l/\l.length=9/\∀c,c∈l->c.pat.wt<=1000010
 |0,out,h,hp=>by rw[F.f94,if_neg (by omega)];exact⟨_,rfl,by omega,hp⟩
 |k+1,out,h,hp=>by
  rw[F.f94,if_pos (by omega),if_pos (by omega)]
  exact P.Yf v k (out++[⟨⟨1,0,0,0,0,[]⟩,⟨0,0,0⟩⟩]) (by simp;omega) (fun c hc=>by
   rcases List.mem_append.1 hc with hc|hc
   ·exact hp c hc
   ·rw[List.mem_singleton.1 hc];simp only;rw[ZBk];omega)
theorem P.Yg {K:Nat}{r:ZB}(hr:rok K r)(hK:K+5<=1099511627776)(l:List Clause)(hl:l.length<=8)(hp:∀c,c∈l->c.pat.wt<=1000000):∃l' r',F.f95 r l=some (l',r')/\rok (K+5) r'/\l'.length<=9/\∀c,c∈l'->c.pat.wt<=1000010:=by
 have hp':∀c,c∈l->c.pat.wt<=1000010:=fun c h=>by have:=hp c h;omega
 have setOk:∀x:Clause,x.pat.wt<=1000010->∀c,c∈l.set 0 x->c.pat.wt<=1000010:=fun x hx c hc=>by
  rcases List.mem_or_eq_of_mem_set hc with h|h
  ·exact hp' c h
  ·rw[h];exact hx
 unfold F.f95
 rw[if_pos (by omega)]
 obtain⟨v,r1,e1,h1,_⟩:=P.YG hr (by omega) 24
 rw[e1]
 simp only[oE,oS]
 split
 ·split
  ·next h0=>
   obtain⟨v2,r2,e2,h2,_⟩:=P.num h1 (by omega) [1,2,3,-1] (by simp)
   obtain⟨v3,r3,e3,h3,_⟩:=P.num h2 (by omega) [0,5,9] (by simp)
   obtain⟨v4,r4,e4,h4,_⟩:=P.num h3 (by omega) [3,10,-1] (by simp)
   rw[e2]
   simp only[oS]
   rw[e3]
   simp only[oS]
   rw[e4]
   simp only[oS]
   rw[gQ h0]
   exact⟨_,_,rfl,h4.mono (by omega),by simp;omega,setOk _ (by simpa using hp' _ (gM h0))⟩
  ·exact⟨_,_,rfl,h1.mono (by omega),by omega,hp'⟩
 split
 ·split
  ·next h0=>
   have hx:=hp _ (gM h0)
   obtain⟨p2,r2,e2,h2,w2⟩:=P.Yz h1 (by omega) l[0].pat (by omega)
   obtain⟨p3,r3,e3,h3,w3⟩:=P.Yz h2 (by omega) p2 (by omega)
   rw[gQ h0]
   simp only[oS]
   rw[e2]
   simp only[oS]
   rw[e3]
   exact⟨_,_,rfl,h3.mono (by omega),by simp;omega,setOk _ (by show p3.wt<=_;omega)⟩
  ·exact⟨_,_,rfl,h1.mono (by omega),by omega,hp'⟩
 split
 ·obtain⟨l',e2,q1,q2⟩:=P.Yf (v,r1) (9-l.length) l (by omega) hp'
  rw[e2]
  exact⟨_,_,rfl,h1.mono (by omega),by omega,q2⟩
 ·exact⟨_,_,rfl,h1.mono (by omega),by omega,hp'⟩
theorem P.YAW {K:Nat}{r:ZB}(hr:rok K r)(hK:K+107000<=1099511627776):∃w t l v r' T,F.f91 r=some (w,t,l,v,r')/\rok (K+107000) r'/\w∈ZAR/\F.f53 w=some T/\TOk w T/\Zi w t/\l.length<=5/\(∀c,c∈l->ZCN w t c.pat)/\pv w false 4 t v/\v.wt+1<=256:=by
 obtain⟨w,t,v,r1,T,e1,h1,hw,hT',hT,a1,a2,a3,_,hv,hvw,a4⟩:=P.YAT hr (by omega)
 have ht:Zi w t:=by
  refine⟨?_,a3⟩
  rcases a1 with q|⟨q1,q2,q3,q4⟩
  ·exact .inl ⟨q,a4 q⟩
  ·exact .inr ⟨q1,q2,by omega,q4⟩
 obtain⟨l,r2,e2,h2,l1,l2⟩:=P.YAc hT.wok ht h1 (by omega)
 unfold F.f91
 rw[e1]
 simp only[oE,oS]
 rw[e2]
 exact⟨w,t,l,v,r2,T,rfl,h2.mono (by omega),hw,hT',hT,ht,l1,l2,hv,hvw⟩
theorem P.YN (code:List Int)(hc:ZEJ code):∃w t l T,F.f96 code=some (w,t,l)/\w∈ZAR/\F.f53 w=some T/\TOk w T/\Zi w t/\l.length<=9/\∀c,c∈l->c.pat.wt<=1000010:=by
 have key:∀r,rok 0 r->∃w t l T,((F.f91 r)>>=fun v=>
   if 0<v.2.2.1.length then
    (F.f1 v.2.2.2.2 4)>>=fun v9=>
    if v9.1=0 then
     (F.f92)>>=fun v13=>
     if v.2.2.1.length+1<=67108864 then
      (F.f95 v9.2 (v.2.2.1++[(⟨v13,(⟨0,0,0⟩:Guard)⟩:Clause)]))>>=fun v16=>
      some (v.1,v.2.1,v16.1)
     else none
    else
     (F.f95 v9.2 v.2.2.1)>>=fun v18=>
     some (v.1,v.2.1,v18.1)
   else
    (F.f95 v.2.2.2.2 v.2.2.1)>>=fun v20=>
    some (v.1,v.2.1,v20.1))=some (w,t,l)/\w∈ZAR/\F.f53 w=some T/\TOk w T/\Zi w t/\l.length<=9/\∀c,c∈l->c.pat.wt<=1000010:=by
  intro r hr
  obtain⟨w,t,l,v,r1,T,e1,h1,hw,hT',hT,ht,l1,l2,_⟩:=P.YAW hr (by omega)
  have hlw:∀c,c∈l->c.pat.wt<=1000000:=fun c h=>by have:=(l2 c h).2.2;omega
  rw[e1]
  simp only[oE,oS]
  split
  ·obtain⟨v9,r2,e2,h2,_⟩:=P.YG h1 (by omega) 4
   rw[e2]
   simp only[oS]
   split
   ·rw[P.YAg]
    simp only[oS]
    rw[if_pos (by omega)]
    obtain⟨l',r3,e3,_,q1,q2⟩:=P.Yg h2 (by omega) (l++[⟨ZPg,⟨0,0,0⟩⟩]) (by simp;omega) (fun c h=>by
     rcases List.mem_append.1 h with h|h
     ·exact hlw c h
     ·rw[List.mem_singleton.1 h];simp only;rw[ZNN];omega)
    rw[e3]
    exact⟨_,_,_,T,rfl,hw,hT',hT,ht,q1,q2⟩
   ·obtain⟨l',r3,e3,_,q1,q2⟩:=P.Yg h2 (by omega) l (by omega) hlw
    rw[e3]
    exact⟨_,_,_,T,rfl,hw,hT',hT,ht,q1,q2⟩
  ·obtain⟨l',r3,e3,_,q1,q2⟩:=P.Yg h1 (by omega) l (by omega) hlw
   rw[e3]
   exact⟨_,_,_,T,rfl,hw,hT',hT,ht,q1,q2⟩
 unfold F.f96
 split
 ·rw[if_pos (by omega)];exact key _ (ZKZ hc)
 ·exact key _ (ZIV hc (by omega))
theorem P.YM (code:List Int)(hc:ZEJ code):∃w t l T,F.f97 code=some (w,t,l)/\w∈ZAR/\F.f53 w=some T/\TOk w T/\Zi w t/\l.length<=9/\∀c,c∈l->c.pat.wt<=1000010:=by
 obtain⟨w,t,l,T,e,hw,hT',hT,ht,l1,l2⟩:=P.YN code hc
 have key:∀r,rok 0 r->∃l',(if 0<l.length then
   if l.length<8 then
    (F.f1 r 2)>>=fun v12=>
    if v12.1=0 then
     (F.f1 v12.2 (l.length:Int))>>=fun v16=>
     (at? l v16.1)>>=fun x=>
     if l.length+1<=67108864 then
      some (w,t,l++[x])
     else none
    else
     some (w,t,l)
   else
    some (w,t,l)
  else
   some (w,t,l))=some (w,t,l')/\l'.length<=9/\∀c,c∈l'->c.pat.wt<=1000010:=by
  intro r hr
  split
  ·next h0=>
   split
   ·obtain⟨v12,r2,e2,h2,_⟩:=P.YG hr (by omega) 2
    rw[e2]
    simp only[oE,oS]
    split
    ·obtain⟨v16,r3,e3,h3,a1,a2,_⟩:=P.YG h2 (by omega) (l.length:Int)
     have a3:=a2 (by omega)
     obtain⟨k,rfl⟩:∃k:Nat,v16=(k:Int):=⟨v16.toNat,by omega⟩
     have hk:k<l.length:=by omega
     rw[e3]
     simp only[oS]
     rw[ZEL hk]
     simp only[oS]
     rw[if_pos (by omega)]
     refine⟨_,rfl,by simp;omega,fun c h=> ?_⟩
     rcases List.mem_append.1 h with h|h
     ·exact l2 c h
     ·rw[List.mem_singleton.1 h];exact l2 _ (gM hk)
    ·exact⟨_,rfl,l1,l2⟩
   ·exact⟨_,rfl,l1,l2⟩
  ·exact⟨_,rfl,l1,l2⟩
 unfold F.f97
 rw[e]
 simp only[oE,oS]
 split
 ·rw[if_pos (by omega)]
  obtain⟨l',e2,q⟩:=key _ (ZKZ hc)
  exact⟨w,t,l',T,e2,hw,hT',hT,ht,q⟩
 ·obtain⟨l',e2,q⟩:=key _ (ZIV hc (by omega))
  exact⟨w,t,l',T,e2,hw,hT',hT,ht,q⟩
def ZHV :List Nat->Nat
 | []=>1
 |a::r=>a*ZHV r
def Pattern.alts :Pattern->Nat
 |⟨op,_,_,_,_,kids⟩=>if op=5 then(kids.map fun k=>Pattern.alts k).sum else ZHV (kids.map fun k=>Pattern.alts k)
theorem ZLr (p:Pattern):p.alts=if p.op=5 then(p.kids.map Pattern.alts).sum else ZHV (p.kids.map Pattern.alts):=by
 cases p;rw[Pattern.alts]
theorem ZGK :∀{l:List Nat},(∀x,x∈l->1<=x)->1<=ZHV l
 | [],_=>Nat.le_refl _
 |a::r,h=>by
  have h1:=h a (by simp)
  have h2:=ZGK (l:=r) fun x hx=>h x (List.mem_cons_of_mem _ hx)
  exact Nat.mul_le_mul h1 h2
theorem ZI2 {w:List Data}:∀{d:Nat} {t:Ty} {p:Pattern},ZAS w d t p->1<=p.alts
 |0,_,_,h=>h.elim
 |d+1,t,p,⟨ho,hl,hk⟩=>by
  have hks:∀k,k∈p.kids->1<=k.alts:=fun k hm=>by
   obtain⟨i,hi,rfl⟩:=List.getElem_of_mem hm
   exact ZI2 (hk i (Nat.zero_le _) (by omega) (by omega) hi)
  rw[ZLr]
  split
  ·next h5=>
   have e5:=ZAL ho h5
   have h2:p.kids.length=2:=by rw[hl,e5];rfl
   have q0:=hks _ (gM (show 0<p.kids.length by omega))
   have e9:(([p.kids[0]'(by omega),p.kids[1]'(by omega)]:List Pattern).map Pattern.alts).sum=(p.kids[0]'(by omega)).alts+(p.kids[1]'(by omega)).alts:=by simp
   rw[←ZFc h2]at e9
   omega
  ·exact ZGK fun x hx=>by
    obtain⟨k,hk2,rfl⟩:=List.mem_map.1 hx
    exact hks k hk2
def ZAJ {β:Type}(op:Int)(path:List Int):Nat->List (List Int->List β)->List β
 |_,[]=>[]
 |i,f::r=>f (if op=4 then path++[(i:Int)]else path)++ZAJ op path (i+1) r
def Pattern.tst :Pattern->List Int->List Step
 |⟨op,ctor,n,m,_,kids⟩=>fun path=>(if op=3 then[(⟨1,path,-1,n,m,0,[],0⟩:Step)]else if op=4 then[⟨1,path,ctor,0,0,0,[],0⟩]else[])++ZAJ op path 0 (kids.map fun k=>Pattern.tst k)
def Pattern.bnd :Pattern->List Int->List PathBind
 |⟨op,_,_,_,var,kids⟩=>fun path=>(if op=2∨op=6 then[(⟨var,path⟩:PathBind)]else[])++ZAJ op path 0 (kids.map fun k=>Pattern.bnd k)
theorem ZIO (p:Pattern)(path:List Int):p.tst path=(if p.op=3 then[(⟨1,path,-1,p.n,p.m,0,[],0⟩:Step)]else if p.op=4 then[⟨1,path,p.ctor,0,0,0,[],0⟩]else[])++ZAJ p.op path 0 (p.kids.map Pattern.tst):=by
 cases p;rw[Pattern.tst]
theorem ZE3 (p:Pattern)(path:List Int):p.bnd path=(if p.op=2∨p.op=6 then[(⟨p.var,path⟩:PathBind)]else[])++ZAJ p.op path 0 (p.kids.map Pattern.bnd):=by
 cases p;rw[Pattern.bnd]
theorem ZCq {β:Type}(op:Int)(g:Pattern->List Int->List β)(path:List Int):∀(l:List Pattern) (h:∀k,k∈l->∀path,(g k path).length<=1+k.wt) (i:Nat),(ZAJ op path i (l.map g)).length<=wtL Pattern.wt l
 | [],h,i=>by simp[ZAJ]
 |k::r,h,i=>by
  have h1:=h k (List.mem_cons_self ..) (if op=4 then path++[(i:Int)]else path)
  have h2:=ZCq op g path r (fun k hk=>h k (List.mem_cons_of_mem _ hk)) (i+1)
  rw[List.map_cons,ZAJ,List.length_append,ZAW]
  omega
theorem ZFH (p:Pattern):∀path,(p.tst path).length<=1+p.wt:=by
 induction p using Pattern.ind with
 |_ p ih=>
  intro path
  have h1:=ZCq p.op Pattern.tst path p.kids ih 0
  rw[ZIO,List.length_append,p.wt_eq]
  have h2:(if p.op=3 then[(⟨1,path,-1,p.n,p.m,0,[],0⟩:Step)]else if p.op=4 then[⟨1,path,p.ctor,0,0,0,[],0⟩]else[]).length<=1:=by
   split
   ·simp
   ·split<;>simp
  omega
theorem ZH6 (p:Pattern):∀path,(p.bnd path).length<=1+p.wt:=by
 induction p using Pattern.ind with
 |_ p ih=>
  intro path
  have h1:=ZCq p.op Pattern.bnd path p.kids ih 0
  rw[ZE3,List.length_append,p.wt_eq]
  have h2:(if p.op=2∨p.op=6 then[(⟨p.var,path⟩:PathBind)]else[]).length<=1:=by split<;>simp
  omega
theorem ZD1 (path:List Int)(i:Int)(h:path.length+1<=67108864):F.f112 path i=some (path++[i]):=by
 unfold F.f112
 rw[if_pos (by omega),if_pos h]
theorem ZIk {p:Pattern}{path:List Int}(c4:p.op=4)(ih:∀k,k∈p.kids->∀(path:List Int) o,path.length+k.wt<=67108863->o.length+(1+k.wt)<=67108864->F.f113 o k path=some (o++k.tst path))(hp:path.length+p.wt<=67108863):
  ∀(m i:Nat) (o:List Step),p.kids.length-i=m->o.length+wtL Pattern.wt (p.kids.drop i)<=67108864->F.f114 p path o i=some (o++ZAJ p.op path i ((p.kids.drop i).map Pattern.tst))
 |0,i,o,hm,h1=>by rw[F.f114,if_neg (by omega),List.drop_eq_nil_of_le (by omega)];simp[ZAJ]
 |m+1,i,o,hm,h1=>by
  have hi:i<p.kids.length:=by omega
  have hk:1+p.kids[i].wt<=p.wt:=by rw[p.wt_eq];exact ZAA Pattern.wt (gM hi)
  have ed:p.kids.drop i=p.kids[i]::p.kids.drop (i+1):=List.drop_eq_getElem_cons hi
  rw[ed,ZAW]at h1
  rw[F.f114,if_pos hi,gQ hi]
  simp only[oE,oS]
  rw[ZD1 path i (by omega)]
  simp only[oS]
  rw[ih _ (gM hi) _ o (by simp;omega) (by omega)]
  simp only[oS]
  have t1:=ZFH p.kids[i] (path++[(i:Int)])
  rw[ZIk c4 ih hp m (i+1) _ (by omega) (by rw[List.length_append];omega),ed]
  simp only[List.map_cons,ZAJ,List.append_assoc,if_pos c4]
theorem ZML {w:List Data}{d:Nat}{t:Ty}{p:Pattern}(h:ZGB w (d+1) t p)(h4:p.op≠4)(h6:p.op≠6):p.kids=[]:=by
 obtain⟨_,h5,hl,_⟩:=h
 unfold ZH at hl
 rw[if_neg h4,if_neg h5,if_neg h6]at hl
 exact List.eq_nil_of_length_eq_zero hl
theorem P.YAJ (w:List Data):∀(d:Nat) (t:Ty) (p:Pattern),ZGB w d t p->∀(path:List Int) (o:List Step),path.length+p.wt<=67108863->o.length+(1+p.wt)<=67108864->F.f113 o p path=some (o++p.tst path)
 |0,_,_,h,_,_,_,_=>h.elim
 |d+1,t,p,hs,path,o,q1,q2=>by
  have nil:=ZML hs
  obtain⟨h1,h5,hl,hk⟩:=hs
  have hw:=p.wt_eq
  have ih:∀k,k∈p.kids->∀(path:List Int) o,path.length+k.wt<=67108863->o.length+(1+k.wt)<=67108864->F.f113 o k path=some (o++k.tst path):=fun k hk' path o r1 r2=>by
   obtain⟨i,hi,rfl⟩:=List.mem_iff_getElem.1 hk'
   exact P.YAJ w d _ _ (hk i (by omega) hi) path o r1 r2
  rw[F.f113,ZIO]
  by_cases c6:p.op=6
  ·have et:ZH w t p=[t]:=by unfold ZH;rw[if_neg (by omega),if_neg (by omega),if_pos c6]
   rw[et]at hl
   obtain⟨k,ek⟩:=List.length_eq_one_iff.1 hl
   have hwk:p.wt=1+k.wt:=by rw[hw,ek];simp[wtL]
   rw[if_pos c6,ek]
   simp only[List.getElem?_cons_zero,oE,oS]
   rw[ih k (by simp[ek]) path o (by omega) (by omega)]
   simp[c6,ZAJ]
  ·rw[if_neg c6]
   by_cases c3:p.op=3
   ·rw[if_pos c3,if_pos (by omega),if_pos (by omega),nil (by omega) c6]
    simp[c3,ZAJ]
   ·rw[if_neg c3]
    by_cases c4:p.op=4
    ·have key:=ZIk c4 ih q1 _ 0 (o++[(⟨1,path,p.ctor,0,0,0,[],0⟩:Step)]) rfl (by rw[List.drop_zero];simp;omega)
     rw[List.drop_zero]at key
     rw[if_pos c4,if_pos (by omega),if_pos (by omega),key]
     simp[c4]
    ·rw[if_neg c4,nil c4 c6]
     simp[c3,c4,ZAJ]
theorem ZIl {p:Pattern}{path:List Int}{L:List PathBind->Nat->Option (List PathBind)}
  (hL:∀o i,L o i=if i<p.kids.length then if p.op=4 then(F.f112 path (i:Int))>>=fun v=>(p.kids[i]?)>>=fun x=>(F.f115 o x v)>>=fun v15=>L v15 (i+1)
   else(p.kids[i]?)>>=fun x18=>(F.f115 o x18 path)>>=fun v20=>L v20 (i+1)else some o)
  (ih:∀k,k∈p.kids->∀(path:List Int) o,path.length+k.wt<=67108863->o.length+(1+k.wt)<=67108864->F.f115 o k path=some (o++k.bnd path)) (hp:path.length+p.wt<=67108863):
  ∀(m i:Nat) (o:List PathBind),p.kids.length-i=m->o.length+wtL Pattern.wt (p.kids.drop i)<=67108864->L o i=some (o++ZAJ p.op path i ((p.kids.drop i).map Pattern.bnd))
 |0,i,o,hm,h1=>by rw[hL,if_neg (by omega),List.drop_eq_nil_of_le (by omega)];simp[ZAJ]
 |m+1,i,o,hm,h1=>by
  have hi:i<p.kids.length:=by omega
  have hk:1+p.kids[i].wt<=p.wt:=by rw[p.wt_eq];exact ZAA Pattern.wt (gM hi)
  have ed:p.kids.drop i=p.kids[i]::p.kids.drop (i+1):=List.drop_eq_getElem_cons hi
  rw[ed,ZAW]at h1
  have e:L o i=(F.f115 o p.kids[i] (if p.op=4 then path++[(i:Int)]else path))>>=fun v15=>L v15 (i+1):=by
   rw[hL,if_pos hi,gQ hi]
   by_cases h4:p.op=4
   ·rw[if_pos h4,if_pos h4,ZD1 path i (by omega)]
    simp only[oE,oS]
   ·rw[if_neg h4,if_neg h4]
    simp only[oE,oS]
  have hpl:(if p.op=4 then path++[(i:Int)]else path).length<=path.length+1:=by split<;>simp
  rw[e,ih _ (gM hi) _ o (by omega) (by omega)]
  simp only[oE,oS]
  have t2:=ZH6 p.kids[i] (if p.op=4 then path++[(i:Int)]else path)
  rw[ZIl hL ih hp m (i+1) _ (by omega) (by rw[List.length_append];omega),ed]
  simp only[List.map_cons,ZAJ,List.append_assoc]
theorem P.YAV (p:Pattern):∀(path:List Int) (o:List PathBind),path.length+p.wt<=67108863->o.length+(1+p.wt)<=67108864->F.f115 o p path=some (o++p.bnd path):=by
 induction p using Pattern.ind with
 |_ p ih=>
  intro path o h1 h2
  have hw:=p.wt_eq
  have key:=fun(L:List PathBind->Nat->Option (List PathBind)) hL o q1=>ZIl (p:=p) (path:=path) (L:=L) hL ih h1 _ 0 o rfl q1
  simp only[List.drop_zero]at key
  rw[F.f115,ZE3]
  by_cases c2:p.op=2
  ·rw[if_pos c2,if_pos (by omega),if_pos (by omega),key (F.f118 p path) (fun o i=>by rw[F.f118]) _ (by simp;omega)]
   simp[c2]
  ·rw[if_neg c2]
   by_cases c6:p.op=6
   ·rw[if_pos c6,if_pos (by omega),if_pos (by omega),key (F.f116 p path) (fun o i=>by rw[F.f116]) _ (by simp;omega)]
    simp[c6]
   ·rw[if_neg c6,key (F.f117 p path) (fun o i=>by rw[F.f117]) _ (by omega)]
    simp[c2,c6]
theorem ZEs {w:List Data}{d:Nat}(op:Int)(path:List Int):∀(ts:List Ty) (ks:List Pattern) (j:Nat),ts.length=ks.length->(∀i (h:i<ts.length) (h':i<ks.length),∀path,(ks[i].bnd path).map PathBind.var=(Zd w d ts[i] ks[i]).map VarType.var)->
  (ZAJ op path j (ks.map Pattern.bnd)).map PathBind.var=((ts.zip ks).flatMap fun x=>Zd w d x.1 x.2).map VarType.var
 | [],[],j,_,_=>rfl
 | [],_::_,_,h,_=>by simp at h
 |_::_,[],_,h,_=>by simp at h
 |t::ts,k::ks,j,hl,h=>by
  have h0:=h 0 (by simp) (by simp) (if op=4 then path++[(j:Int)]else path)
  have h1:=ZEs op path ts ks (j+1) (by simpa using hl) fun i hi hi' path=>by have:=h (i+1) (by simpa using hi) (by simpa using hi') path;simpa using this
  rw[List.map_cons,ZAJ,List.map_append,h1,List.zip_cons_cons,List.flatMap_cons,List.map_append]
  congr 1
theorem ZIv (w:List Data):∀(d:Nat) (t:Ty) (q:Pattern),ZGB w d t q->∀path,(q.bnd path).map PathBind.var=(Zd w d t q).map VarType.var
 |0,_,_,h,_=>h.elim
 |d+1,t,q,⟨h1,h5,hl,hk⟩,path=>by
  rw[ZE3,Zd,if_neg h5,List.take_of_length_le (by simp;omega),List.map_append,List.map_append,ZEs (w:=w) (d:=d) q.op path (ZH w t q) q.kids 0 hl.symm fun i hi hi' path=>ZIv w d _ _ (hk i hi hi') path]
  congr 1
  by_cases c:q.op=2∨q.op=6
  ·rw[if_pos c,if_pos c];rfl
  ·rw[if_neg c,if_neg c];rfl
def ZBs (list v:List Pattern):List Pattern:=list.flatMap fun q=>v.map fun x=>⟨q.op,q.ctor,q.n,q.m,q.var,q.kids++[x]⟩
def Pattern.splits :Pattern->List Pattern
 |⟨op,ctor,n,m,var,kids⟩=>if op=5 then(kids.map fun k=>Pattern.splits k).flatten else(kids.map fun k=>Pattern.splits k).foldl ZBs [⟨op,ctor,n,m,var,[]⟩]
theorem ZDb (p:Pattern):p.splits=if p.op=5 then(p.kids.map Pattern.splits).flatten else(p.kids.map Pattern.splits).foldl ZBs [⟨p.op,p.ctor,p.n,p.m,p.var,[]⟩]:=by
 cases p;rw[Pattern.splits]
theorem ZJ9 (list v:List Pattern):(ZBs list v).length=list.length*v.length:=by
 unfold ZBs
 induction list with
 |nil=>simp
 |cons q r ih=>rw[List.flatMap_cons,List.length_append,ih,List.length_map,List.length_cons,Nat.add_mul,Nat.one_mul,Nat.add_comm]
theorem ZGn :∀(vs:List (List Pattern)) (list:List Pattern),(vs.foldl ZBs list).length=list.length*ZHV (vs.map List.length)
 | [],list=>by simp[ZHV]
 |v::vs,list=>by rw[List.foldl_cons,ZGn vs,ZJ9,List.map_cons,ZHV,Nat.mul_assoc]
theorem ZBZ (p:Pattern):p.splits.length=p.alts:=by
 induction p using Pattern.ind with
 |_ p ih=>
  have e:(p.kids.map Pattern.splits).map List.length=p.kids.map Pattern.alts:=by
   rw[List.map_map]
   exact List.map_congr_left ih
  rw[ZDb,ZLr]
  by_cases h5:p.op=5
  ·rw[if_pos h5,if_pos h5,List.length_flatten,e]
  ·rw[if_neg h5,if_neg h5,ZGn,e];simp
theorem ZGm {G:Nat->Pattern->Prop}{p:Pattern}:∀(vs:List (List Pattern)) (i:Nat) (list:List Pattern) (hv:∀k (h:k<vs.length) x,x∈vs[k]->G (i+k) x)
  (hl:∀q,q∈list->q=⟨p.op,p.ctor,p.n,p.m,p.var,q.kids⟩/\q.kids.length=i/\∀k (h:k<q.kids.length),G k q.kids[k]) (q:Pattern) (hq:q∈vs.foldl ZBs list),
  q=⟨p.op,p.ctor,p.n,p.m,p.var,q.kids⟩/\q.kids.length=i+vs.length/\∀k (h:k<q.kids.length),G k q.kids[k]
 | [],i,list,hv,hl,q,hq=>hl q hq
 |v::vs,i,list,hv,hl,q,hq=>by
  rw[List.foldl_cons]at hq
  have:=ZGm vs (i+1) (ZBs list v) (fun k h x hx=>by have:=hv (k+1) (by simpa using h) x (by simpa using hx);rw[show i+(k+1)=i+1+k by omega]at this;exact this) (fun q hq=>by
   obtain⟨q0,h0,hq⟩:=List.mem_flatMap.1 hq
   obtain⟨x,hx,rfl⟩:=List.mem_map.1 hq
   obtain⟨e1,e2,e3⟩:=hl q0 h0
   have f1:q0.op=p.op:=by rw[e1]
   have f2:q0.ctor=p.ctor:=by rw[e1]
   have f3:q0.n=p.n:=by rw[e1]
   have f4:q0.m=p.m:=by rw[e1]
   have f5:q0.var=p.var:=by rw[e1]
   refine⟨?_,by simp[e2],fun k hk=> ?_⟩
   ·show(⟨q0.op,q0.ctor,q0.n,q0.m,q0.var,q0.kids++[x]⟩:Pattern)=⟨p.op,p.ctor,p.n,p.m,p.var,q0.kids++[x]⟩
    rw[f1,f2,f3,f4,f5]
   ·by_cases hk':k<q0.kids.length
    ·show G k (q0.kids++[x])[k]
     rw[List.getElem_append_left hk'];exact e3 k hk'
    ·have:k=i:=by simp at hk;omega
     subst this
     show G k (q0.kids++[x])[k]
     rw[List.getElem_append_right (by omega)]
     have:=hv 0 (by simp) x (by simpa using hx)
     simpa[e2]using this) q hq
  refine⟨this.1,?_,this.2.2⟩
  rw[this.2.1,List.length_cons];omega
theorem ZIJ {f:Ty×Pattern->List VarType}:∀(ts:List Ty) (qs ks:List Pattern),qs.length=ts.length->ks.length=ts.length->(∀i (h:i<ts.length) (h1:i<qs.length) (h2:i<ks.length),((f (ts[i],qs[i])).map VarType.var).Perm ((f (ts[i],ks[i])).map VarType.var))->
  (((ts.zip qs).flatMap f).map VarType.var).Perm (((ts.zip ks).flatMap f).map VarType.var)
 | [],_,_,_,_,_=>by simp
 |t::ts,[],_,h,_,_=>by simp at h
 |t::ts,_::_,[],_,h,_=>by simp at h
 |t::ts,q::qs,k::ks,h1,h2,h=>by
  have h0:=h 0 (by simp) (by simp) (by simp)
  have hr:=ZIJ ts qs ks (by simpa using h1) (by simpa using h2) fun i a b c=>by have:=h (i+1) (by simpa using a) (by simpa using b) (by simpa using c);simpa using this
  rw[List.zip_cons_cons,List.zip_cons_cons,List.flatMap_cons,List.flatMap_cons,List.map_append,List.map_append]
  exact List.Perm.append h0 hr
theorem ZJG {a b:List VarType}(ha:ZLB a)(h:ZMJ a b):(a.map VarType.var).Perm (b.map VarType.var):=by
 obtain⟨hl,hs⟩:=h
 have sub:∀l l':List VarType,l.length=l'.length->l.Nodup->(∀x,x∈l->x∈l')->l.Perm l':=by
  intro l
  induction l with
  |nil=>intro l' h _ _;rw[List.eq_nil_of_length_eq_zero (l:=l') (by simpa using h.symm)]
  |cons x r ih=>
   intro l' h hn hs
   obtain⟨s,t,rfl⟩:=List.append_of_mem (hs x (List.mem_cons_self ..))
   rw[List.nodup_cons]at hn
   refine((ih (s++t) (by simp at h ⊢;omega) hn.2 fun y hy=> ?_).cons x).trans List.perm_middle.symm
   have:=hs y (List.mem_cons_of_mem _ hy)
   simp only[List.mem_append,List.mem_cons]at this ⊢
   rcases this with h|rfl|h
   ·exact .inl h
   ·exact absurd hy hn.1
   ·exact .inr h
 have hn:a.Nodup:=by
  unfold ZLB at ha
  exact List.Pairwise.of_map VarType.var (fun a b h e=>h (congrArg _ e)) ha
 exact(sub a b hl hn hs).map _
theorem ZNl {f g:Ty×Pattern->List VarType}:∀(ts:List Ty) (ks:List Pattern),ks.length=ts.length->(∀i (h:i<ts.length) (h2:i<ks.length),f (ts[i],ks[i])=g (ts[i],ks[i]))->(ts.zip ks).flatMap f=(ts.zip ks).flatMap g
 | [],_,_,_=>by simp
 |t::ts,[],h,_=>by simp at h
 |t::ts,k::ks,h2,h=>by
  have h0:=h 0 (by simp) (by simp)
  have hr:=ZNl ts ks (by simpa using h2) fun i a c=>by have:=h (i+1) (by simpa using a) (by simpa using c);simpa using this
  rw[List.zip_cons_cons,List.flatMap_cons,List.flatMap_cons,hr]
  congr 1
theorem ZCm {w:List Data}:∀(d:Nat) (t:Ty) (q:Pattern),ZGB w d t q->Zd w (d+1) t q=Zd w d t q
 |0,_,_,h=>h.elim
 |d+1,t,q,⟨h1,h5,hl,hk⟩=>by
  rw[Zd,Zd,if_neg h5,List.take_of_length_le (by simp;omega)]
  congr 1
  exact ZNl _ _ hl fun i h h2=>ZCm d _ _ (hk i h h2)
theorem ZCF {w:List Data}:∀(d:Nat) (t:Ty) (p:Pattern),ZAS w d t p->ZMW w d t p->∀q,q∈p.splits->ZGB w d t q/\((Zd w d t q).map VarType.var).Perm ((Zd w d t p).map VarType.var)/\q.wt<=p.wt
 |0,_,_,h,_,_,_=>h.elim
 |d+1,t,p,⟨ho,hl,hk⟩,⟨hlk,hlin⟩,q,hq=>by
  have hwk:∀i (h:i<p.kids.length),1+p.kids[i].wt<=p.wt:=fun i h=>by rw[p.wt_eq];exact ZAA Pattern.wt (gM h)
  have ih:∀i (h:i<(ZH w t p).length) (h':i<p.kids.length) q,q∈p.kids[i].splits->ZGB w d (ZH w t p)[i] q/\((Zd w d (ZH w t p)[i] q).map VarType.var).Perm ((Zd w d (ZH w t p)[i] p.kids[i]).map VarType.var)/\q.wt<=p.kids[i].wt:=
   fun i h h' q hq=>ZCF d _ _ (hk i (Nat.zero_le _) h h h') (hlk i (Nat.zero_le _) h h h') q hq
  rw[ZDb]at hq
  by_cases h5:p.op=5
  ·rw[if_pos h5]at hq hlin
   have et:=ZAL ho h5
   have h2:p.kids.length=2:=by rw[hl,et];rfl
   have ev:=ZIb (d:=d) ho h5 (by omega)
   have es2:(p.kids.map Pattern.splits).flatten=(p.kids[0]'(by omega)).splits++(p.kids[1]'(by omega)).splits:=by
    have e9:(([p.kids[0]'(by omega),p.kids[1]'(by omega)]:List Pattern).map Pattern.splits).flatten=(p.kids[0]'(by omega)).splits++(p.kids[1]'(by omega)).splits:=by simp
    rw[←ZFc h2]at e9;exact e9
   rw[es2]at hq
   have hall:∀x,x∈ZH w t p->x=t:=by rw[et];simp
   have t0:∀i (h:i<(ZH w t p).length),(ZH w t p)[i]=t:=fun i h=>hall _ (gM h)
   have i0:=ih 0 (by omega) (by omega)
   have i1:=ih 1 (by omega) (by omega)
   have s0:=hk 0 (Nat.zero_le _) (by omega) (by omega) (by omega)
   have l0:=hlk 0 (Nat.zero_le _) (by omega) (by omega) (by omega)
   have s1:=hk 1 (Nat.zero_le _) (by omega) (by omega) (by omega)
   have l1:=hlk 1 (Nat.zero_le _) (by omega) (by omega) (by omega)
   rw[t0]at i0 i1 s0 l0 s1 l1
   have w0:=hwk 0 (by omega)
   have w1:=hwk 1 (by omega)
   rcases List.mem_append.1 hq with hq|hq
   ·obtain⟨a1,a2,a3⟩:=i0 q hq
    exact⟨ZDd a1,by rw[ZCm d t q a1,ev];exact a2,by omega⟩
   ·obtain⟨a1,a2,a3⟩:=i1 q hq
    refine⟨ZDd a1,?_,by omega⟩
    rw[ZCm d t q a1,ev]
    exact a2.trans (ZJG (ZCQ s0 l0) (hlin (by omega) (by omega))).symm
  ·rw[if_neg h5]at hq
   obtain⟨e1,e2,e3⟩:=ZGm (G:=fun k x=>∀h:k<p.kids.length,x∈p.kids[k].splits) (p:=p) _ 0 _ (fun k h x hx h'=>by
    have e:(0+k)=k:=Nat.zero_add k
    simp only[List.getElem_map]at hx
    simpa only[e]using hx) (fun q hq=>by rw[List.mem_singleton.1 hq];exact⟨rfl,rfl,fun k h=>absurd h (by simp)⟩) q hq
   rw[List.length_map,Nat.zero_add]at e2
   have eo:q.op=p.op:=by rw[e1]
   have ec:q.ctor=p.ctor:=by rw[e1]
   have en:q.n=p.n:=by rw[e1]
   have em:q.m=p.m:=by rw[e1]
   have ew:q.var=p.var:=by rw[e1]
   have ety:ZH w t q=ZH w t p:=by unfold ZH;rw[eo,ec]
   have eow:ZDp w t q:=by unfold ZDp at ho ⊢;rw[eo,ec,en,em,ew];exact ho
   have ihq:∀i (h:i<(ZH w t p).length) (h1:i<q.kids.length) (h':i<p.kids.length),ZGB w d (ZH w t p)[i] q.kids[i]/\((Zd w d (ZH w t p)[i] q.kids[i]).map VarType.var).Perm ((Zd w d (ZH w t p)[i] p.kids[i]).map VarType.var)/\q.kids[i].wt<=p.kids[i].wt:=
    fun i h h1 h'=>ih i h h' _ (e3 i h1 h')
   refine⟨⟨eow,by omega,by rw[ety];omega,fun i h h'=> ?_⟩,?_,?_⟩
   ·have:=(ihq i (by rw[←ety];exact h) h' (by omega)).1
    simpa only[ety]using this
   ·have vp:Zd w (d+1) t p=(if p.op=2∨p.op=6 then[⟨p.var,t⟩]else[])++((ZH w t p).zip p.kids).flatMap fun x=>Zd w d x.1 x.2:=by
     rw[Zd,if_neg h5,List.take_of_length_le (by rw[List.length_zip];omega)]
    have vq:Zd w (d+1) t q=(if p.op=2∨p.op=6 then[⟨p.var,t⟩]else[])++((ZH w t p).zip q.kids).flatMap fun x=>Zd w d x.1 x.2:=by
     rw[Zd,if_neg (show ¬q.op=5 by omega),List.take_of_length_le (by rw[List.length_zip];omega),ety,eo,ew]
    rw[vp,vq,List.map_append,List.map_append]
    exact(ZIJ _ _ _ (by omega) hl fun i h h1 h2=>(ihq i h h1 h2).2.1).append_left _
   ·rw[q.wt_eq,p.wt_eq]
    exact ZKM (by omega) fun i h h'=>(ihq i (by omega) h h').2.2
theorem ZF9 {w:List Data}{d:Nat}{t:Ty}{p:Pattern}(h1:ZAS w d t p)(h2:ZMW w d t p){q:Pattern}(hq:q∈p.splits)(path:List Int):((q.bnd path).map PathBind.var).Nodup:=by
 obtain⟨s1,s2,_⟩:=ZCF d t p h1 h2 q hq
 rw[ZIv w d t q s1 path]
 exact s2.nodup_iff.2 (ZCQ h1 h2)
/-! The reference cuts a pattern's choices off at 401. -/
theorem ZBD {α:Type}(n:Nat)(a b:List α):((a.take n)++b).take n=(a++b).take n:=by
 rw[List.take_append,List.take_append,List.take_take,Nat.min_self]
 by_cases h:a.length<=n
 ·rw[List.take_of_length_le h]
 ·rw[List.length_take]
  rw[show n-min n a.length=0 by omega,show n-a.length=0 by omega]
theorem P.YAG {lists:List (List Pattern)}{i:Nat}(hi:i<lists.length){out:List (List Pattern)}{k:Nat}(hk:k<out.length)(hR:out[k].length<=1048576)(hx:lists[i].length<=401):
  ∀(m j:Nat) (next:List (List Pattern)),lists[i].length-j=m->next.length<=401->F.f105 lists out i k next j=some ((next++(lists[i].drop j).map fun x=>out[k]++[x]).take 401)
 |m,j,next,hm,hn=>by
  rw[F.f105,gQ hi]
  simp only[oE,oS]
  by_cases hj:j<lists[i].length
  ·rw[if_pos hj]
   by_cases h4:next.length<=400
   ·rw[if_pos h4,gQ hk]
    simp only[oS]
    rw[if_pos (by omega),gQ hj]
    simp only[oS]
    rw[if_pos (by omega),if_pos (by omega),if_pos (by omega)]
    match m,hm with
    |0,hm=>omega
    |m+1,hm=>
     rw[P.YAG hi hk hR hx m (j+1) _ (by omega) (by simp;omega),List.drop_eq_getElem_cons hj,List.map_cons,List.append_assoc]
     rfl
   ·rw[if_neg h4,List.take_append_of_le_length (by omega),List.take_of_length_le (by omega)]
  ·rw[if_neg hj,List.drop_eq_nil_of_le (by omega),List.map_nil,List.append_nil,List.take_of_length_le (by omega)]
def addT (out:List (List Pattern))(v:List Pattern):List (List Pattern):=out.flatMap fun x=>v.map fun y=>x++[y]
theorem P.YAH {lists:List (List Pattern)}{i:Nat}(hi:i<lists.length){out:List (List Pattern)}(ho:out.length<=401)(hR:∀x,x∈out->x.length<=1048576)(hx:lists[i].length<=401):
  ∀(m k:Nat) (next:List (List Pattern)),out.length-k=m->next.length<=401->F.f106 lists out i next k=some ((next++addT (out.drop k) lists[i]).take 401)
 |m,k,next,hm,hn=>by
  rw[F.f106]
  by_cases hk:k<out.length
  ·rw[if_pos hk]
   by_cases h4:next.length<=400
   ·rw[if_pos h4,P.YAG hi hk (hR _ (gM hk)) hx _ 0 next rfl hn]
    simp only[oE,oS]
    rw[if_pos (by omega)]
    match m,hm with
    |0,hm=>omega
    |m+1,hm=>
     rw[P.YAH hi ho hR hx m (k+1) _ (by omega) (by rw[List.length_take];omega),ZBD,List.drop_zero,List.drop_eq_getElem_cons hk]
     simp only[addT,List.flatMap_cons,List.append_assoc]
   ·rw[if_neg h4,List.take_append_of_le_length (by omega),List.take_of_length_le (by omega)]
  ·rw[if_neg hk,List.drop_eq_nil_of_le (by omega)]
   simp only[addT,List.flatMap_nil,List.append_nil]
   rw[List.take_of_length_le (by omega)]
theorem ZF5 {α β:Type}{f:α->List β}(hf:∀x,f x≠[])(n:Nat):∀l:List α,((l.take n).flatMap f).take n=(l.flatMap f).take n:=by
 have key:∀(l:List α) (n m:Nat),m<=n->((l.take n).flatMap f).take m=(l.flatMap f).take m:=by
  intro l
  induction l with
  |nil=>intro n m _;simp
  |cons x r ih=>
   intro n m hm
   cases n with
   |zero=>
    have:m=0:=by omega
    subst this;simp
   |succ n=>
    rw[List.take_succ_cons,List.flatMap_cons,List.flatMap_cons,List.take_append,List.take_append,ih n (m- (f x).length) (by have:=List.length_pos_iff.2 (hf x);omega)]
 exact fun l=>key l n n (Nat.le_refl _)
theorem ZEd {α β γ:Type}(g:α->β->γ)(n:Nat)(v:List β):∀(l:List α) (m:Nat),m<=n->(l.flatMap fun x=>(v.take n).map (g x)).take m=(l.flatMap fun x=>v.map (g x)).take m
 | [],m,_=>by simp
 |x::r,m,hm=>by
  rw[List.flatMap_cons,List.flatMap_cons,List.take_append,List.take_append,List.length_map,List.length_map,List.length_take,←List.map_take,←List.map_take,List.take_take,Nat.min_eq_left hm]
  by_cases h:v.length<=n
  ·rw[Nat.min_eq_right h,ZEd g n v r _ (by omega)]
  ·rw[show m-min n v.length=0 by omega,show m-v.length=0 by omega]
   simp
theorem ZLu {v:List Pattern}(hv:v≠[])(out:List (List Pattern)):(addT (out.take 401) (v.take 401)).take 401=(addT out v).take 401:=by
 unfold addT
 rw[ZEd (fun(x:List Pattern) y=>x++[y]) 401 v _ 401 (Nat.le_refl _),ZF5 (fun x h=>hv (List.map_eq_nil_iff.1 h))]
theorem P.YAI {Ls:List (List Pattern)}(hb:Ls.length<=1048576)(hne:∀L,L∈Ls->L≠[]):
  ∀(m i:Nat) (out:List (List Pattern)),Ls.length-i=m->(∀x,x∈out->x.length=i)->i<=Ls.length->F.f107 (Ls.map fun L=>L.take 401) (out.take 401) i=some (((Ls.drop i).foldl addT out).take 401)
 |m,i,out,hm,hR,hi=>by
  rw[F.f107]
  by_cases h:i<Ls.length
  ·have h':i<(Ls.map fun L=>L.take 401).length:=by simpa using h
   have ei:(Ls.map fun L=>L.take 401)[i]=Ls[i].take 401:=List.getElem_map ..
   rw[if_pos h',P.YAH h' (by rw[List.length_take];omega) (fun x hx=>by rw[hR x (List.mem_of_mem_take hx)];omega) (by rw[ei,List.length_take];omega) _ 0 [] rfl (by simp)]
   simp only[oE,oS,List.nil_append,List.drop_zero]
   rw[if_pos (by omega),ei,ZLu (hne _ (gM h))]
   match m,hm with
   |0,hm=>omega
   |m+1,hm=>
    rw[P.YAI hb hne m (i+1) _ (by omega) (fun x hx=>by
     obtain⟨y,hy,hx⟩:=List.mem_flatMap.1 hx
     obtain⟨z,_,rfl⟩:=List.mem_map.1 hx
     simp[hR y hy]) (by omega),List.drop_eq_getElem_cons h,List.foldl_cons]
  ·rw[if_neg (by simpa using h),List.drop_eq_nil_of_le (by omega)]
   rfl
theorem ZEw (mk:List Pattern->Pattern)(hmk:∀q,mk q=⟨(mk q).op,(mk q).ctor,(mk q).n,(mk q).m,(mk q).var,q⟩)(hmk2:∀a b,(⟨(mk a).op,(mk a).ctor,(mk a).n,(mk a).m,(mk a).var,b⟩:Pattern)=mk b)(hk:∀a,(mk a).kids=a):
  ∀(Ls:List (List Pattern)) (out:List (List Pattern)),Ls.foldl ZBs (out.map mk)=(Ls.foldl addT out).map mk
 | [],out=>rfl
 |L::Ls,out=>by
  have e:ZBs (out.map mk) L=(addT out L).map mk:=by
   unfold ZBs addT
   rw[List.flatMap_map,List.map_flatMap]
   refine congrArg (fun f=>out.flatMap f) (funext fun x=> ?_)
   rw[List.map_map]
   refine List.map_congr_left fun y _=> ?_
   show(⟨(mk x).op,(mk x).ctor,(mk x).n,(mk x).m,(mk x).var,(mk x).kids++[y]⟩:Pattern)=mk (x++[y])
   rw[hk,hmk2]
  rw[List.foldl_cons,List.foldl_cons,e,ZEw mk hmk hmk2 hk Ls]
theorem P.Yn (p:Pattern)(h:∀i (h:i<p.kids.length),F.f110 p.kids[i]=some (p.kids[i].splits.take 401))(hk:p.kids.length<=67108863):
  ∀(m i:Nat) (out:List (List Pattern)),p.kids.length-i=m->out.length=i->F.f111 p out i=some (out++(p.kids.drop i).map fun k=>k.splits.take 401)
 |0,i,out,hm,ho=>by rw[F.f111,if_neg (by omega),List.drop_eq_nil_of_le (by omega)];simp
 |m+1,i,out,hm,ho=>by
  have hi':i<p.kids.length:=by omega
  rw[F.f111,if_pos hi',gQ hi']
  simp only[oE,oS]
  rw[h i hi']
  simp only[oS]
  rw[if_pos (by omega),P.Yn p h hk m (i+1) _ (by omega) (by simp[ho]),List.drop_eq_getElem_cons hi',List.map_cons,List.append_assoc]
  rfl
theorem P.Yh (w:List Data):∀(d:Nat) (t:Ty) (p:Pattern),ZAS w d t p->p.wt<=1048576->F.f110 p=some (p.splits.take 401)
 |0,_,_,h,_=>h.elim
 |d+1,t,p,⟨h1,h2,h3⟩,hw=>by
  have hwk:∀i (h:i<p.kids.length),1+p.kids[i].wt<=p.wt:=fun i h=>by rw[p.wt_eq];exact ZAA Pattern.wt (gM h)
  have hkl:p.kids.length<=p.wt:=by rw[p.wt_eq];exact ZBw Pattern.wt p.kids
  have hsh:∀i (h:i<p.kids.length),∃u,ZAS w d u p.kids[i]:=fun i h=>⟨_,h3 i (Nat.zero_le _) (by omega) (by omega) h⟩
  have ih:∀i (h':i<p.kids.length),F.f110 p.kids[i]=some (p.kids[i].splits.take 401):=fun i h'=>by
   obtain⟨u,hu⟩:=hsh i h'
   exact P.Yh w d _ _ hu (by have:=hwk i h';omega)
  rw[F.f110,ZDb]
  by_cases h5:p.op=5
  ·have ht:ZH w t p=[t,t]:=ZAL h1 h5
   have k2:p.kids.length=2:=by rw[h2,ht];rfl
   have es2:(p.kids.map Pattern.splits).flatten=(p.kids[0]'(by omega)).splits++(p.kids[1]'(by omega)).splits:=by
    have e9:(([p.kids[0]'(by omega),p.kids[1]'(by omega)]:List Pattern).map Pattern.splits).flatten=(p.kids[0]'(by omega)).splits++(p.kids[1]'(by omega)).splits:=by simp
    rw[←ZFc k2]at e9;exact e9
   rw[if_pos h5,if_pos h5,es2,gQ (by omega),gQ (by omega)]
   simp only[oE,oS]
   rw[ih 0 (by omega),ih 1 (by omega)]
   simp only[oS]
   generalize(p.kids[0]'(by omega)).splits=a
   generalize(p.kids[1]'(by omega)).splits=b
   have e:((a.take 401)++(b.take 401)).take 401=(a++b).take 401:=by
    rw[ZBD,List.take_append,List.take_append,List.take_take]
    congr 1
    rw[Nat.min_eq_left (by omega)]
   have l1:(a.take 401).length<=401:=by rw[List.length_take];omega
   have l2:(b.take 401).length<=401:=by rw[List.length_take];omega
   rw[if_pos (by omega)]
   by_cases hc:401<(a.take 401++b.take 401).length
   ·rw[if_pos hc,if_pos (by omega),e]
   ·have e2:(a.take 401++b.take 401).take 401=a.take 401++b.take 401:=List.take_of_length_le (by omega)
    rw[if_neg hc,←e,e2]
  ·have key:=P.Yn p ih (by omega) _ 0 [] rfl rfl
   rw[List.drop_zero,List.nil_append]at key
   have hne:∀L,L∈p.kids.map Pattern.splits->L≠[]:=fun L hL hn=>by
    obtain⟨k,hk,rfl⟩:=List.mem_map.1 hL
    obtain⟨i,hi,rfl⟩:=List.mem_iff_getElem.1 hk
    obtain⟨u,hu⟩:=hsh i hi
    have l1:=ZBZ p.kids[i]
    have l2:=ZI2 hu
    rw[hn]at l1
    simp at l1;omega
   have t1:=P.YAI (Ls:=p.kids.map Pattern.splits) (by simp;omega) hne _ 0 [[]] rfl (by simp) (Nat.zero_le _)
   rw[List.map_map,List.drop_zero]at t1
   rw[if_neg h5,if_neg h5,key]
   simp only[oE,oS]
   unfold F.f108
   rw[show F.f107 (p.kids.map fun k=>k.splits.take 401) [[]] 0=some (((p.kids.map Pattern.splits).foldl addT [[]]).take 401)from t1]
   simp only[oE,oS]
   rw[P.YAO p _ _ 0 [] rfl (by rw[List.length_take,List.length_nil];omega),List.drop_zero,List.nil_append]
   have e:=ZEw (fun ks=>⟨p.op,p.ctor,p.n,p.m,p.var,ks⟩) (fun q=>rfl) (fun a b=>rfl) (fun a=>rfl) (p.kids.map Pattern.splits) [[]]
   rw[show([⟨p.op,p.ctor,p.n,p.m,p.var,[]⟩]:List Pattern)=[([]:List Pattern)].map (fun ks=>(⟨p.op,p.ctor,p.n,p.m,p.var,ks⟩:Pattern))from rfl,e,List.map_take]
   rfl
/-! The code of clauses. -/
theorem ZFL {α:Type}{f:α->α}{L:List α->Nat->Option (List α)}{n:Nat}(hL:∀out k,out.length=n->L out k=if h:k<out.length then L (out.set k (f out[k])) (k+1)else some out):
  ∀(m k:Nat) (out:List α),out.length=n->out.length-k=m->k<=out.length->L out k=some (out.take k++(out.drop k).map f)
 |0,k,out,hn,hm,hk=>by
  rw[hL out k hn,dif_neg (by omega),List.drop_eq_nil_of_le (by omega),List.take_of_length_le (by omega)]
  simp
 |m+1,k,out,hn,hm,hk=>by
  have hk':k<out.length:=by omega
  rw[hL out k hn,dif_pos hk',ZFL hL m (k+1) _ (by simpa using hn) (by simp;omega) (by simp;omega)]
  have e1:(out.set k (f out[k])).take (k+1)=out.take k++[f out[k]]:=by
   rw[List.take_succ_eq_append_getElem (by simpa using hk'),List.take_set_of_le (Nat.le_refl _)]
   simp
  have e2:(out.set k (f out[k])).drop (k+1)=out.drop (k+1):=List.drop_set_of_lt (by omega)
  rw[e1,e2,List.drop_eq_getElem_cons hk',List.map_cons]
  simp
def ZMH (i:Nat)(q:Pattern)(e:Int):Step:=⟨2,[],0,0,0,(i:Int),ZBx (fun x=>x.var) (q.bnd []),e⟩
def toS (e:Int)(s:Step):Step:=⟨s.op,s.path,s.ctor,s.n,s.m,s.clause,s.binds,e⟩
def Zg (g:Nat->Int)(i:Nat):Nat->List Pattern->List Step
 |_,[]=>[]
 |n,q::r=>((q.tst []).map (toS ((n+(q.tst []).length+1:Nat):Int))++[ZMH i q (g (n+(q.tst []).length+1))])++Zg g i (n+(q.tst []).length+1) r
theorem ZEm (g g':Nat->Int)(i:Nat):∀(qs:List Pattern) (n:Nat),(Zg g i n qs).length=(Zg g' i n qs).length
 | [],n=>rfl
 |q::r,n=>by simp only[Zg,List.length_append,ZEm g g' i r];simp
theorem ZGa {β:Type}{R:β->Prop}(op:Int)(g:Pattern->List Int->List β)(path:List Int):∀(l:List Pattern) (h:∀k,k∈l->∀path s,s∈g k path->R s) (i:Nat) (s:β),s∈ZAJ op path i (l.map g)->R s
 | [],h,i,s,hs=>by simp[ZAJ]at hs
 |k::r,h,i,s,hs=>by
  rw[List.map_cons,ZAJ,List.mem_append]at hs
  rcases hs with hs|hs
  ·exact h k (List.mem_cons_self ..) _ s hs
  ·exact ZGa op g path r (fun k hk=>h k (List.mem_cons_of_mem _ hk)) (i+1) s hs
theorem ZP5 (p:Pattern):∀path s,s∈p.tst path->s.op=1:=by
 induction p using Pattern.ind with
 |_ p ih=>
  intro path s hs
  rw[ZIO,List.mem_append]at hs
  rcases hs with hs|hs
  ·split at hs
   ·rw[List.mem_singleton.1 hs]
   ·split at hs
    ·rw[List.mem_singleton.1 hs]
    ·cases hs
  ·exact ZGa p.op Pattern.tst path p.kids ih 0 s hs
theorem ZEp {α:Type}:∀l l':List α,l.Nodup->l'.Nodup->(∀x,x∈l↔x∈l')->l.Perm l'
 | [],l',_,_,h=>by
  cases l' with
  |nil=>exact .refl _
  |cons a r=>exact absurd ((h a).2 (List.mem_cons_self ..)) (by simp)
 |x::r,l',hn,hn',h=>by
  obtain⟨s,t,rfl⟩:=List.append_of_mem ((h x).1 (List.mem_cons_self ..))
  rw[List.nodup_cons]at hn
  have hp:(s++x::t).Perm (x::(s++t)):=List.perm_middle
  have hn2:=hp.nodup_iff.1 hn'
  rw[List.nodup_cons]at hn2
  refine((ZEp r (s++t) hn.2 hn2.2 fun y=> ?_).cons x).trans hp.symm
  have hy:=h y
  rw[hp.mem_iff,List.mem_cons,List.mem_cons]at hy
  refine⟨fun hr=> ?_,fun hr=> ?_⟩
  ·rcases hy.1 (.inr hr)with rfl|h
   ·exact absurd hr hn.1
   ·exact h
  ·rcases hy.2 (.inr hr)with rfl|h
   ·exact absurd hr hn2.1
   ·exact h
def ZEK (l:List PathBind)(n m:Nat):List PathBind:=(List.range' n m).flatMap fun(k:Nat)=>l.filter fun b=>decide (b.var=(k:Int))
theorem ZG4 {l:List PathBind}{n m:Nat}{x:PathBind}:x∈ZEK l n m↔x∈l/\(n:Int)<=x.var/\x.var<(n+m:Nat):=by
 unfold ZEK
 simp only[List.mem_flatMap,List.mem_filter,decide_eq_true_eq,List.mem_range'_1]
 constructor
 ·rintro⟨k,hk,hx,e⟩
  exact⟨hx,by omega,by omega⟩
 ·rintro⟨hx,h1,h2⟩
  exact⟨x.var.toNat,by omega,hx,by omega⟩
theorem ZM8 {l:List PathBind}(h:(l.map PathBind.var).Nodup)(n:Int):(l.filter fun b=>decide (b.var=n)).Pairwise fun x y=>x.var<y.var:=by
 induction l with
 |nil=>simp
 |cons b r ih=>
  rw[List.map_cons,List.nodup_cons]at h
  by_cases e:b.var=n
  ·have:(r.filter fun b=>decide (b.var=n))=[]:=by
    rw[List.filter_eq_nil_iff]
    intro a ha
    have:a.var≠n:=fun h'=>h.1 (by rw[e,←h'];exact List.mem_map_of_mem ha)
    simpa using this
   rw[List.filter_cons,if_pos (by simpa using e),this]
   simp
  ·rw[List.filter_cons,if_neg (by simpa using e)]
   exact ih h.2
theorem ZFv {l:List PathBind}(h:(l.map PathBind.var).Nodup):∀m n,(ZEK l n m).Pairwise fun x y=>x.var<y.var
 |0,n=>by simp[ZEK]
 |m+1,n=>by
  have ih:=ZFv h m (n+1)
  have e:ZEK l n (m+1)=(l.filter fun b=>decide (b.var=(n:Int)))++ZEK l (n+1) m:=by
   unfold ZEK;rw[List.range'_succ,List.flatMap_cons]
  rw[e,List.pairwise_append]
  refine⟨ZM8 h _,ih,fun a ha b hb=> ?_⟩
  have h1:=(List.mem_filter.1 ha).2
  have h2:=(ZG4.1 hb).2.1
  simp only[decide_eq_true_eq]at h1
  omega
theorem ZJ2 {l:List PathBind}(h:(l.map PathBind.var).Nodup)(hv:∀b,b∈l->0<=b.var/\b.var<=5):ZEK l 0 6=ZBx (fun x=>x.var) l:=by
 have nd:∀l:List PathBind,l.Pairwise (fun x y=>x.var<y.var)->l.Nodup:=fun l h=>h.imp fun{a b} hab e=>by subst e;omega
 refine ZLD (key:=fun x=>x.var) _ _ (ZEp _ _ (nd _ (ZFv h 6 0)) (nd _ (ZFJ l h)) fun x=> ?_) (ZFv h 6 0) (ZFJ l h)
 rw[ZG4,ZDc]
 exact⟨fun h=>h.1,fun hx=>⟨hx,by have:=hv x hx;omega,by have:=hv x hx;omega⟩⟩
theorem P.YAb (list:List PathBind)(n:Nat)(hp:∀b,b∈list->b.path.length<=67108864):∀(m i:Nat) (out:List PathBind),list.length-i=m->out.length+m<=67108864->F.f119 list n out i=some (out++(list.drop i).filter fun b=>decide (b.var=(n:Int)))
 |0,i,out,hm,hb=>by rw[F.f119,if_neg (by omega),List.drop_eq_nil_of_le (by omega)];simp
 |m+1,i,out,hm,hb=>by
  have hi:i<list.length:=by omega
  rw[F.f119,if_pos hi,gQ hi,List.drop_eq_getElem_cons hi,List.filter_cons]
  simp only[oE,oS]
  by_cases e:list[i].var=(n:Int)
  ·rw[if_pos e,if_pos (hp _ (gM hi)),if_pos (by omega),if_pos (by simpa using e),P.YAb list n hp m (i+1) _ (by omega) (by simp;omega),←e,List.append_assoc]
   rfl
  ·rw[if_neg e,if_neg (by simpa using e),P.YAb list n hp m (i+1) _ (by omega) (by omega)]
theorem P.YAf (list:List PathBind)(hp:∀b,b∈list->b.path.length<=67108864)(hl:list.length<=1048576):∀(m n:Nat) (out:List PathBind),6-n=m->n<=6->out.length+m*1048576<=67108864->F.f120 list out n=some (out++ZEK list n m)
 |0,n,out,hm,hn,hb=>by rw[F.f120,if_neg (by omega)];simp[ZEK]
 |m+1,n,out,hm,hn,hb=>by
  have hf:(list.filter fun b=>decide (b.var=(n:Int))).length<=list.length:=List.length_filter_le ..
  rw[F.f120,if_pos (by omega),P.YAb list n hp _ 0 out rfl (by omega)]
  simp only[oE,oS,List.drop_zero]
  rw[if_pos (by omega),P.YAf list hp hl m (n+1) _ (by omega) (by omega) (by rw[List.length_append];omega)]
  unfold ZEK
  rw[List.range'_succ,List.flatMap_cons,List.append_assoc]
theorem P.YAF (list:List PathBind)(hp:∀b,b∈list->b.path.length<=67108864)(hl:list.length<=1048576)(h:(list.map PathBind.var).Nodup)(hv:∀b,b∈list->0<=b.var/\b.var<=5):F.f121 list=some (ZBx (fun x=>x.var) list):=by
 unfold F.f121
 rw[P.YAf list hp hl 6 0 [] rfl (by omega) (by simp),ZJ2 h hv]
 rfl
theorem ZD2 {β:Type}(op:Int)(g:Pattern->List Int->List β)(path:List Int):∀(l:List Pattern) (i:Nat) (s:β),s∈ZAJ op path i (l.map g)->∃k,k∈l/\∃path',path'.length<=path.length+1/\s∈g k path'
 | [],i,s,hs=>by simp[ZAJ]at hs
 |k::r,i,s,hs=>by
  rw[List.map_cons,ZAJ,List.mem_append]at hs
  rcases hs with hs|hs
  ·exact⟨k,List.mem_cons_self ..,_,by split<;>simp,hs⟩
  ·obtain⟨k',h1,h2⟩:=ZD2 op g path r (i+1) s hs
   exact⟨k',List.mem_cons_of_mem _ h1,h2⟩
theorem ZIw (p:Pattern):∀path b,b∈p.bnd path->b.path.length<=path.length+p.wt:=by
 induction p using Pattern.ind with
 |_ p ih=>
  intro path b hb
  rw[ZE3,List.mem_append]at hb
  rcases hb with hb|hb
  ·split at hb
   ·rw[List.mem_singleton.1 hb];exact Nat.le_add_right _ _
   ·cases hb
  ·obtain⟨k,hk,path',hp,hb⟩:=ZD2 p.op Pattern.bnd path p.kids 0 b hb
   have h1:=ih k hk path' b hb
   have h2:1+k.wt<=p.wt:=by rw[p.wt_eq];exact ZAA Pattern.wt hk
   omega
theorem ZH5 {w:List Data}:∀(d:Nat) (t:Ty) (p:Pattern),ZGB w d t p->∀path b,b∈p.bnd path->0<=b.var/\b.var<=5
 |0,_,_,h,_,_,_=>h.elim
 |d+1,t,p,⟨h1,h5,hl,hk⟩,path,b,hb=>by
  rw[ZE3,List.mem_append]at hb
  rcases hb with hb|hb
  ·split at hb
   ·next h26=>
    rw[List.mem_singleton.1 hb]
    show 0<=p.var/\p.var<=5
    unfold ZDp at h1
    omega
   ·cases hb
  ·obtain⟨k,hm,path',hp,hb⟩:=ZD2 p.op Pattern.bnd path p.kids 0 b hb
   obtain⟨i,hi,rfl⟩:=List.mem_iff_getElem.1 hm
   exact ZH5 d _ _ (hk i (by omega) hi) path' b hb
theorem P.YAQ (w:List Data)(list:List Clause)(out:List Step)(i:Nat)(x:List Pattern)(hx:∀q,q∈x->q.wt<=900/\((q.bnd []).map PathBind.var).Nodup/\∃d t,ZGB w d t q)(hxl:x.length<=1000):
  ∀(m j:Nat) (o:List Step),x.length-j=m->o.length+m*1000<=67108000->F.f123 list out i x o j=some (o++Zg (fun n=>(n:Int)) i o.length (x.drop j))
 |0,j,o,hm,hb=>by
  rw[F.f123,if_neg (by omega),List.drop_eq_nil_of_le (by omega)]
  simp[Zg]
 |m+1,j,o,hm,hb=>by
  have hj:j<x.length:=by omega
  obtain⟨w1,n1,d,t,s1⟩:=hx _ (gM hj)
  have t1:=ZFH x[j] []
  have b1:=ZH6 x[j] []
  rw[F.f123,if_pos hj,gQ hj]
  simp only[oE,oS]
  rw[P.YAJ w d t x[j] s1 [] o (by simp;omega) (by omega)]
  simp only[oS]
  rw[P.YAV x[j] [] [] (by simp;omega) (by simp;omega),List.nil_append]
  simp only[oS]
  rw[P.YAF _ (fun b hb=>by have:=ZIw x[j] [] b hb;simp at this;omega) (by omega) n1 (ZH5 d t x[j] s1 [])]
  simp only[oS]
  have hl:(o++x[j].tst []++[(⟨2,[],0,0,0,(i:Int),ZBx (fun x=>x.var) (x[j].bnd []),0⟩:Step)]).length=o.length+(x[j].tst []).length+1:=by simp;omega
  have key:=ZFL (f:=toS ((o.length+(x[j].tst []).length+1:Nat):Int)) (n:=o.length+(x[j].tst []).length+1) (L:=fun a k=>F.f122 list out i x j a k)
   (fun a k ha=>by
    show F.f122 list out i x j a k=_
    rw[F.f122]
    by_cases hk:k<a.length
    ·rw[if_pos hk,dif_pos hk,gQ hk]
     simp only[oE,oS]
     rw[ha]
     rfl
    ·rw[if_neg hk,dif_neg hk]) _ o.length _ hl rfl (by omega)
  rw[if_pos (by rw[List.length_append];omega),key,List.append_assoc,List.take_left,List.drop_left]
  simp only[oS]
  rw[if_pos (by omega),P.YAQ w list out i x hx hxl m (j+1) _ (by omega) (by simp;omega),List.drop_eq_getElem_cons hj]
  have el:(o++(x[j].tst []++[(⟨2,[],0,0,0,(i:Int),ZBx (fun x=>x.var) (x[j].bnd []),0⟩:Step)]).map (toS ((o.length+(x[j].tst []).length+1:Nat):Int))).length=o.length+(x[j].tst []).length+1:=by simp;omega
  rw[el,Zg,List.map_append]
  simp only[ZMH,List.append_assoc]
  rfl
def ZPE (e:Int)(s:Step):Step:=if s.op=2 then toS e s else s
theorem ZEn (g:Nat->Int)(e:Int)(i:Nat):∀(qs:List Pattern) (n:Nat),(Zg g i n qs).map (ZPE e)=Zg (fun _=>e) i n qs
 | [],n=>rfl
 |q::r,n=>by
  simp only[Zg,List.map_append,ZEn g e i r,List.map_map,List.map_cons,List.map_nil]
  congr 2
  refine List.map_congr_left fun s hs=> ?_
  have:=ZP5 q [] s hs
  show ZPE e (toS _ s)=toS _ s
  unfold ZPE
  rw[if_neg (by show ¬s.op=2;omega)]
theorem ZCO (g:Nat->Int)(i:Nat):∀(qs:List Pattern) (n:Nat),(∀q,q∈qs->q.wt<=900)->(Zg g i n qs).length<=qs.length*1000
 | [],n,_=>by simp[Zg]
 |q::r,n,h=>by
  have h1:=ZCO g i r (n+(q.tst []).length+1) fun q hq=>h q (List.mem_cons_of_mem _ hq)
  have h2:=ZFH q []
  have h3:=h q (List.mem_cons_self ..)
  simp only[Zg,List.length_append,List.length_map,List.length_cons,List.length_nil]at h1 ⊢
  omega
def clS (i:Nat)(o:List Step)(x:List Pattern):List Step:=o++Zg (fun _=>((o.length+(Zg (fun _=>0) i o.length x).length:Nat):Int)) i o.length x
def ZDN :Nat->List Step->List (List Pattern)->List Step
 |_,o,[]=>o
 |i,o,x::r=>ZDN (i+1) (clS i o x) r
def ZNr (q:Pattern):Prop:=q.wt<=900/\((q.bnd []).map PathBind.var).Nodup
theorem ZM7 {L:List Step->Nat->Option (List Step)}(hL:∀o k,L o k=if k<o.length then(o[k]?)>>=fun x=>if x.op=2 then L (o.set k (⟨x.op,x.path,x.ctor,x.n,x.m,x.clause,x.binds,(o.length:Int)⟩:Step)) (k+1)else L o (k+1)else some o)
  (o:List Step) (k:Nat) (hk:k<=o.length):L o k=some (o.take k++(o.drop k).map (ZPE (o.length:Int))):=by
 refine ZFL (f:=ZPE (o.length:Int)) (n:=o.length) (L:=L) (fun a k ha=> ?_) _ k o rfl rfl hk
 rw[hL]
 by_cases h:k<a.length
 ·rw[if_pos h,dif_pos h,gQ h]
  simp only[oE,oS]
  unfold ZPE
  by_cases h2:a[k].op=2
  ·rw[if_pos h2,if_pos h2,ha];rfl
  ·rw[if_neg h2,if_neg h2,List.set_getElem_self]
 ·rw[if_neg h,dif_neg h]
theorem ZPb (g:Nat->Int)(i:Nat)(o:List Step)(x:List Pattern):(o++Zg g i o.length x).take o.length++((o++Zg g i o.length x).drop o.length).map (ZPE ((o++Zg g i o.length x).length:Int))=clS i o x:=by
 rw[List.take_left,List.drop_left,ZEn,List.length_append,ZEm g (fun _=>0)]
 rfl
theorem ZH3 {i:Nat}{o:List Step}{x:List Pattern}(h:∀q,q∈x->q.wt<=900):(clS i o x).length<=o.length+x.length*1000:=by
 unfold clS
 rw[List.length_append]
 have:=ZCO (fun _=>((o.length+(Zg (fun _=>0) i o.length x).length:Nat):Int)) i x o.length h
 omega
theorem P.Yp (w:List Data)(list:List Clause)(hv:∀c,c∈list->F.f110 c.pat=some c.pat.splits/\c.pat.splits.length<=40/\∀q,q∈c.pat.splits->ZNr q/\∃d t,ZGB w d t q)(hl:list.length<=1000):
  ∀(m i:Nat) (o:List Step),list.length-i=m->o.length+m*40000<=67000000->F.f125 list o i=some (ZDN i o ((list.map fun c=>c.pat.splits).drop i))
 |0,i,o,hm,hb=>by
  rw[F.f125,if_neg (by omega),List.drop_eq_nil_of_le (by simp;omega)]
  rfl
 |m+1,i,o,hm,hb=>by
  have hi:i<list.length:=by omega
  obtain⟨e,h40,hq⟩:=hv _ (gM hi)
  have hw:∀q,q∈list[i].pat.splits->q.wt<=900:=fun q h=>(hq q h).1.1
  have cl:=ZH3 (i:=i) (o:=o) hw
  rw[F.f125,if_pos hi,gQ hi]
  simp only[oE,oS]
  rw[e]
  simp only[oS]
  rw[P.YAQ w list o i _ (fun q h=>⟨(hq q h).1.1,(hq q h).1.2,(hq q h).2⟩) (by omega) _ 0 o rfl (by omega),List.drop_zero]
  simp only[oS]
  rw[ZM7 (L:=F.f124 list i) (fun o k=>by rw[F.f124]) _ _ (by rw[List.length_append];omega),ZPb]
  simp only[oS]
  rw[if_pos (by omega),P.Yp w list hv hl m (i+1) _ (by omega) (by omega),List.drop_eq_getElem_cons (show i<(list.map fun c=>c.pat.splits).length by simpa using hi),List.getElem_map]
  rfl
theorem P.YO (l:List Clause)(hv:∀c,c∈l->F.f110 c.pat=some (c.pat.splits.take 401)):
  ∀(m i:Nat),l.length-i=m->F.f127 l i=some (if ∀c,c∈l.drop i->c.pat.alts<=40 then .go ()else .ret ([],false))
 |0,i,hm=>by rw[F.f127,if_neg (by omega),List.drop_eq_nil_of_le (by omega),if_pos (by simp)]
 |m+1,i,hm=>by
  have hi:i<l.length:=by omega
  rw[F.f127,if_pos hi,gQ hi,List.drop_eq_getElem_cons hi]
  simp only[oE,oS]
  rw[hv _ (gM hi)]
  simp only[oS]
  have hl:(l[i].pat.splits.take 401).length=min 401 l[i].pat.alts:=by rw[List.length_take,ZBZ]
  by_cases h:l[i].pat.alts<=40
  ·rw[if_neg (by omega),P.YO l hv m (i+1) (by omega)]
   congr 1
   by_cases h2:∀c,c∈l.drop (i+1)->c.pat.alts<=40
   ·rw[if_pos h2,if_pos (fun c hc=>(List.mem_cons.1 hc).elim (fun e=>e▸h) (h2 c))]
   ·rw[if_neg h2,if_neg (fun h3=>h2 fun c hc=>h3 c (List.mem_cons_of_mem _ hc))]
  ·rw[if_pos (by omega),if_neg (fun h3=>h (h3 _ (List.mem_cons_self ..)))]
theorem ZGy :∀(vs:List (List Pattern)) (i:Nat) (o:List Step),(∀x,x∈vs->x.length<=40/\∀q,q∈x->q.wt<=900)->(ZDN i o vs).length<=o.length+vs.length*40000
 | [],i,o,_=>by simp[ZDN]
 |x::r,i,o,h=>by
  obtain⟨h1,h2⟩:=h x (List.mem_cons_self ..)
  have h3:=ZH3 (i:=i) (o:=o) h2
  have h4:=ZGy r (i+1) (clS i o x) fun y hy=>h y (List.mem_cons_of_mem _ hy)
  rw[ZDN,List.length_cons]
  omega
def ZJq :Step:=⟨3,[],0,0,0,0,[],0⟩
noncomputable def ZIs (n:Nat):ByteArray:=⟨(Lib.decDigits n).toArray⟩
theorem ZGx (n:Nat)(h:n<10):ZDB [IntKind.u8.wrap (i64.wrap (48+(n:Int)))]=⟨#[UInt8.ofNat (48+n)]⟩:=by
 have e1:IntKind.u8.wrap (i64.wrap (48+(n:Int)))=48+(n:Int):=by rw[ZN9,ZF3];omega
 have e2:(48+(n:Int)).toNat=48+n:=by omega
 refine ZCZ ?_
 simp[ZDB,e1,e2]
theorem ZFm {n:Nat}(h:n<10):ZIs n=⟨#[UInt8.ofNat (48+n)]⟩:=by unfold ZIs;rw[Lib.decDigits,dif_pos h]
theorem ZLg {n:Nat}(h:¬n<10):ZIs n=ZIs (n/10)++⟨#[UInt8.ofNat (48+n%10)]⟩:=by
 refine ZCZ ?_
 rw[ZBp]
 unfold ZIs
 rw[Lib.decDigits,dif_neg h]
theorem ZED :∀(f n:Nat),n<10^ (f+1)->(ZIs n).size<=f+1
 |0,n,h=>by rw[ZFm (by omega)];exact Nat.le_refl _
 |f+1,n,h=>by
  by_cases h9:n<10
  ·rw[ZFm h9];show 1<=_;omega
  ·rw[ZLg h9,ZL]
   have:=ZED f (n/10) (by rw[Nat.pow_succ]at h;omega)
   show _+1<=_
   omega
end Go.Vl
