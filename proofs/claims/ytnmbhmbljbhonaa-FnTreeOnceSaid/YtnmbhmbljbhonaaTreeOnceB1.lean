/- Plain laws that this one rests on (printed by gen_l.py). -/
import Derived.Test.YtnmbhmbljbhonaaVlQ
import Derived.Test.YtnmbhmbljbhonaaTreeOnceE
set_option linter.all false
set_option maxRecDepth 100000
namespace Go.Vl
open Go Go.RowKit
noncomputable def ZIP {α:Type}(p:α→Prop):Nat→List α→Option Nat
 |_,[]=>none
 |k,x::r=>if dec (p x)=true then some k else ZIP p (k+1) r
theorem ZDh {α:Type}{p:α→Prop}:∀{l:List α} {k j:Nat},ZIP p k l=some j→k≤j∧∃h:j-k<l.length,p l[j-k]∧∀i (hi:i<l.length),i<j-k→¬p l[i]
 |x::r,k,j,h=>by
  simp only[ZIP]at h
  split at h
  ·next hp=>
   obtain rfl:=Option.some.inj h
   refine⟨Nat.le_refl _,by simp,?_,fun i _ hi=>by omega⟩
   simpa using ZE2.1 hp
  ·next hp=>
   obtain⟨h1,h2,h3,h4⟩:=ZDh h
   have e:j-k=(j- (k+1))+1:=by omega
   refine⟨by omega,by simp;omega,?_,fun i hi hlt=> ?_⟩
   ·simp only[e,List.getElem_cons_succ];exact h3
   ·cases i with
    |zero=>exact fun hq=>hp (ZL hq)
    |succ i=>exact h4 i (by simpa using hi) (by omega)
theorem ZDi {α:Type}{p:α→Prop}:∀{l:List α} {k:Nat},ZIP p k l=none→∀x,x∈l→¬p x
 | [],_,_=>fun x hx=>by cases hx
 |x::r,k,h=>by
  simp only[ZIP]at h
  split at h
  ·cases h
  ·next hp=>
   intro y hy
   rcases List.mem_cons.1 hy with rfl|hy
   ·exact fun hq=>hp (ZL hq)
   ·exact ZDi h y hy
theorem ZP0 {α:Type}{a:List α}{p:α→Prop}{L:Nat→Option (Lo Int Unit)}(h0:∀k,a.length≤k→L k=some (.go ()))(h1:∀k (h:k<a.length),¬p a[k]→L k=L (k+1))
  (h2:∀k (h:k<a.length),p a[k]→L k=some (.ret (k:Int))):∀(m k:Nat),a.length-k=m→L k=some (match ZIP p k (a.drop k)with|some j=>.ret (j:Int)|none=>.go ()):=by
 intro m
 induction m with
 |zero=>intro k hm;rw[h0 k (by omega),List.drop_eq_nil_of_le (by omega)];rfl
 |succ m ih=>
  intro k hm
  have hk:k<a.length:=by omega
  rw[List.drop_eq_getElem_cons hk]
  by_cases hp:p a[k]
  ·rw[h2 k hk hp];simp only[ZIP];rw[if_pos (ZL hp)]
  ·rw[h1 k hk hp,ih (k+1) (by omega)];simp only[ZIP];rw[if_neg (by rw[ZH hp];simp)]
def ZPF (c:Nat):Prop:=65≤c∧c≤90
def ZE3 (s:ByteArray):Prop:=s.size=1∧ZPF (byteAt s 0)∧s≠⟨#[73]⟩
def ZJY (s:ByteArray):Prop:=1≤s.size∧s.size≤5∧ZPF (byteAt s 0)∧∀i,1≤i→i<s.size→97≤byteAt s i∧byteAt s i≤122
def ZE9 (n:Nat)(t:Ty):Prop:=(t.data= -1∧t.index=0)∨(0≤t.data∧t.data<n∧-1≤t.index∧t.index≤3)
def ZHV (n:Nat)(c:Ctor):Prop:=ZJY c.name∧c.args.length≤3∧0≤c.index∧c.index≤3∧∀j,0≤j→(h:j<c.args.length)→ZE9 n c.args[j]
theorem P.YX (c:Nat):F.f11 c=some (dec (ZPF c)):=by
 unfold F.f11
 by_cases h:65≤(c:Int)
 ·rw[if_pos h];congr 1;rw[←ZAp];exact ZY ⟨fun h'=>⟨by omega,by omega⟩,fun h'=>by have:=h'.2;omega⟩
 ·rw[if_neg h,ZH fun h'=>h (by have:=h'.1;omega)]
theorem P.Ys (s:ByteArray):F.f12 s=some (dec (ZE3 s)):=by
 unfold F.f12
 by_cases h:s.size=1
 ·rw[if_pos h,if_pos (by omega),P.YX]
  simp only[Option.bind_eq_bind,Option.bind_some]
  by_cases hb:ZPF (byteAt s 0)
  ·rw[if_pos (ZL hb)];congr 1;rw[←ZAp];exact ZY ⟨fun h'=>⟨h,hb,fun e=>h' (by rw[e])⟩,fun h' e=>h'.2.2 (ZAr.1 e)⟩
  ·rw[if_neg (by rw[ZH hb];simp),ZH fun h'=>hb h'.2.1]
 ·rw[if_neg h,ZH fun h'=>h h'.1]
theorem P.Yk (s:ByteArray)(hs:s.size≤1048576):F.f13 s 1=some (if dec (∀i,1≤i→i<s.size→97≤byteAt s i∧byteAt s i≤122)=true then .go ()else .ret false):=by
 refine ZIm (L:=F.f13 s) (fun k hk=> ?_) (fun k hk hq=> ?_) (fun k hk hq=> ?_) _ 1 rfl
 ·rw[F.f13,if_neg (by omega)]
 ·rw[F.f13,if_pos hk,if_neg (by omega),if_neg (by omega),if_pos (by omega)]
 ·rw[F.f13,if_pos hk]
  by_cases h:byteAt s k<97
  ·rw[if_pos h]
  ·rw[if_neg h,if_pos (by omega)]
theorem P.YZ (s:ByteArray)(hs:s.size≤1048576):F.f14 s=some (dec (ZJY s)):=by
 unfold F.f14
 by_cases h0:s.size=0
 ·rw[if_pos h0,ZH fun h=>by have:=h.1;omega]
 by_cases h5:5<s.size
 ·rw[if_neg h0,if_pos h5,ZH fun h=>by have:=h.2.1;omega]
 rw[if_neg h0,if_neg h5,if_pos (by omega),P.YX]
 simp only[Option.bind_eq_bind,Option.bind_some]
 by_cases hb:ZPF (byteAt s 0)
 ·rw[if_pos (ZL hb),P.Yk s hs]
  simp only[Option.bind_some]
  by_cases hall:∀i,1≤i→i<s.size→97≤byteAt s i∧byteAt s i≤122
  ·rw[if_pos (ZL hall),ZL ⟨by omega,by omega,hb,hall⟩]
  ·rw[if_neg (by rw[ZH hall];simp),ZH fun h=>hall h.2.2.2]
 ·rw[if_neg (by rw[ZH hb];simp),ZH fun h=>hb h.2.2.1]
theorem P.YO (n:Nat)(t:Ty):F.f15 n t=some (dec (ZE9 n t)):=by
 unfold F.f15
 by_cases h:t.data= -1
 ·rw[if_pos h];congr 1;rw[←ZAp];exact ZY ⟨fun h'=>.inl ⟨h,h'⟩,fun h'=>h'.elim (·.2) (fun h'=>by have:=h'.1;omega)⟩
 rw[if_neg h]
 by_cases h1:0≤t.data
 ·by_cases h2:t.data<n
  ·by_cases h3: -1≤t.index
   ·rw[if_pos h1,if_pos h2,if_pos h3];congr 1;rw[←ZAp];exact ZY ⟨fun h'=>.inr ⟨h1,h2,h3,h'⟩,fun h'=>h'.elim (fun h'=>absurd h'.1 h) (fun h'=>h'.2.2.2)⟩
   ·rw[if_pos h1,if_pos h2,if_neg h3,ZH fun h'=>h'.elim (fun h'=>h h'.1) (fun h'=>h3 h'.2.2.1)]
  ·rw[if_pos h1,if_neg h2,ZH fun h'=>h'.elim (fun h'=>h h'.1) (fun h'=>h2 h'.2.1)]
 ·rw[if_neg h1,ZH fun h'=>h'.elim (fun h'=>h h'.1) (fun h'=>h1 h'.1)]
theorem P.YT (n:Nat)(c:Ctor)(hs:c.name.size≤1048576):F.f17 n c=some (dec (ZHV n c)):=by
 unfold F.f17
 rw[P.YZ _ hs]
 simp only[Option.bind_eq_bind,Option.bind_some]
 by_cases h1:ZJY c.name
 ·rw[if_pos (ZL h1)]
  by_cases h2:3<c.args.length
  ·rw[if_pos h2,ZH fun h=>by have:=h.2.1;omega]
  by_cases h3:c.index<0
  ·rw[if_neg h2,if_pos h3,ZH fun h=>by have:=h.2.2.1;omega]
  by_cases h4:3<c.index
  ·rw[if_neg h2,if_neg h3,if_pos h4,ZH fun h=>by have:=h.2.2.2.1;omega]
  rw[if_neg h2,if_neg h3,if_neg h4]
  have key:F.f16 n c 0=some (if dec (∀j,0≤j→j<c.args.length→∀h:j<c.args.length,ZE9 n c.args[j])=true then .go ()else .ret false):=by
   refine ZIm (n:=c.args.length) (Q:=fun j=>∀h:j<c.args.length,ZE9 n c.args[j]) (L:=F.f16 n c) (fun k hk=> ?_) (fun k hk hq=> ?_) (fun k hk hq=> ?_) _ 0 rfl
   ·rw[F.f16,if_neg (by omega)]
   ·rw[F.f16,if_pos hk,List.getElem?_eq_getElem hk]
    simp only[Option.bind_eq_bind,Option.bind_some]
    rw[P.YO]
    simp only[Option.bind_some]
    rw[if_pos (ZL (hq hk))]
   ·rw[F.f16,if_pos hk,List.getElem?_eq_getElem hk]
    simp only[Option.bind_eq_bind,Option.bind_some]
    rw[P.YO]
    simp only[Option.bind_some]
    rw[if_neg (by rw[ZH fun h=>hq fun _=>h];simp)]
  rw[key]
  simp only[Option.bind_some]
  by_cases hall:∀j,0≤j→j<c.args.length→∀h:j<c.args.length,ZE9 n c.args[j]
  ·rw[if_pos (ZL hall),ZL ⟨h1,by omega,by omega,by omega,fun j h0 hj=>hall j h0 hj hj⟩]
  ·rw[if_neg (by rw[ZH hall];simp),ZH fun h=>hall fun j h0 _ hj=>h.2.2.2.2 j h0 hj]
 ·rw[if_neg (by rw[ZH h1];simp),ZH fun h=>h1 h.1]
abbrev ZL0 (d:Data):List ByteArray:=d.ctors.map (·.name)
structure ctorAt (w:List Data)(i:Nat)(d:Data)(k:Nat)(c:Ctor):Prop where
 ok:ZHV w.length c
 new:c.name∉(w.take i).flatMap ZL0++(d.ctors.take k).map (·.name)
structure dataAt (w:List Data)(i:Nat)(d:Data):Prop where
 name:ZE3 d.name
 new:d.name∉(w.take i).map (·.name)
 some:1≤d.ctors.length
 few:d.ctors.length≤4
 ctors:∀k,0≤k→k<d.ctors.length→∀h:k<d.ctors.length,ctorAt w i d k d.ctors[k]
def ZT (w:List Data):Prop:=w.length≤4∧∀i,0≤i→i<w.length→∀h:i<w.length,dataAt w i w[i]
def ZBE (w:List Data):Prop:=w.length≤1048576∧∀d,d∈w→∀c,c∈d.ctors→c.name.size≤1048576
theorem P.Yq (w:List Data)(hw:ZBE w)(d k i:Nat)(hd:d<w.length)(hk:k<w[d].ctors.length)(hi:i<d)(hl:w[d].ctors.length≤4)(hli:w[i].ctors.length≤4):F.f18 w d k i 0=
  some (if dec (∀j,0≤j→j<w[i].ctors.length→∀h:j<w[i].ctors.length,w[i].ctors[j].name≠w[d].ctors[k].name)=true then .go ()else .ret true):=by
 have hi':i<w.length:=by omega
 refine ZIm (n:=w[i].ctors.length) (r:=true) (Q:=fun j=>∀h:j<w[i].ctors.length,w[i].ctors[j].name≠w[d].ctors[k].name) (L:=F.f18 w d k i) (fun j hj=> ?_) (fun j hj hq=> ?_) (fun j hj hq=> ?_) _ 0 rfl
 ·rw[F.f18,List.getElem?_eq_getElem hi']
  simp only[Option.bind_eq_bind,Option.bind_some]
  rw[if_neg (by omega)]
 ·rw[F.f18,List.getElem?_eq_getElem hi']
  simp only[Option.bind_eq_bind,Option.bind_some]
  rw[if_pos hj,if_pos (by omega),ZAZ hd]
  simp only[Option.bind_some]
  rw[if_pos (by omega),List.getElem?_eq_getElem hj,ZAZ hk]
  simp only[Option.bind_some]
  rw[if_neg (fun h=>hq hj (ZAr.1 h)),if_pos (by omega)]
 ·rw[F.f18,List.getElem?_eq_getElem hi']
  simp only[Option.bind_eq_bind,Option.bind_some]
  rw[if_pos hj,if_pos (by omega),ZAZ hd]
  simp only[Option.bind_some]
  rw[if_pos (by omega),List.getElem?_eq_getElem hj,ZAZ hk]
  simp only[Option.bind_some]
  rw[if_pos (ZAr.2 (Classical.byContradiction fun h=>hq fun _=>h))]
theorem P.Yp (w:List Data)(hw:ZBE w)(d k:Nat)(hd:d<w.length)(hk:k<w[d].ctors.length)(hl:w[d].ctors.length≤4):F.f19 w d k d 0=
  some (if dec (∀j,0≤j→j<k→∀h:j<w[d].ctors.length,w[d].ctors[j].name≠w[d].ctors[k].name)=true then .go ()else .ret true):=by
 refine ZIm (n:=k) (r:=true) (Q:=fun j=>∀h:j<w[d].ctors.length,w[d].ctors[j].name≠w[d].ctors[k].name) (L:=F.f19 w d k d) (fun j hj=> ?_) (fun j hj hq=> ?_) (fun j hj hq=> ?_) _ 0 rfl
 ·rw[F.f19,List.getElem?_eq_getElem hd]
  simp only[Option.bind_eq_bind,Option.bind_some]
  rcases Nat.lt_or_ge j w[d].ctors.length with h|h
  ·rw[if_pos h,if_neg (by omega),if_neg (by omega)]
  ·rw[if_neg (by omega)]
 ·have hj':j<w[d].ctors.length:=Nat.lt_trans hj hk
  rw[F.f19,List.getElem?_eq_getElem hd]
  simp only[Option.bind_eq_bind,Option.bind_some]
  rw[if_pos hj',if_neg (by omega),if_pos (by omega),ZAZ hd]
  simp only[Option.bind_some]
  rw[if_pos (by omega),List.getElem?_eq_getElem hj',ZAZ hk]
  simp only[Option.bind_some]
  rw[if_neg (fun h=>hq hj' (ZAr.1 h)),if_pos (by omega)]
 ·have hj':j<w[d].ctors.length:=Nat.lt_trans hj hk
  rw[F.f19,List.getElem?_eq_getElem hd]
  simp only[Option.bind_eq_bind,Option.bind_some]
  rw[if_pos hj',if_neg (by omega),if_pos (by omega),ZAZ hd]
  simp only[Option.bind_some]
  rw[if_pos (by omega),List.getElem?_eq_getElem hj',ZAZ hk]
  simp only[Option.bind_some]
  rw[if_pos (ZAr.2 (Classical.byContradiction fun h=>hq fun _=>h))]
structure fresh (w:List Data)(d k i:Nat)(hd:d<w.length)(hk:k<w[d].ctors.length):Prop where
 data:i<d→∀h:i<w.length,w[i].name≠w[d].name
 ctor:i<d→∀h:i<w.length,∀j,0≤j→j<w[i].ctors.length→∀h:j<w[i].ctors.length,w[i].ctors[j].name≠w[d].ctors[k].name
 own:i=d→∀j,0≤j→j<k→∀h:j<w[d].ctors.length,w[d].ctors[j].name≠w[d].ctors[k].name
theorem P.YQ (w:List Data)(hw:ZBE w)(d k:Nat)(hd:d<w.length)(hk:k<w[d].ctors.length)(hw4:w.length≤4)(hl:∀i,i≤d→∀h:i<w.length,w[i].ctors.length≤4):F.f21 w d k=some (!dec (∀i,0≤i→i<d+1→fresh w d k i hd hk)):=by
 unfold F.f21
 have key:F.f20 w d k 0=some (if dec (∀i,0≤i→i<d+1→fresh w d k i hd hk)=true then .go ()else .ret true):=by
  refine ZIm (n:=d+1) (r:=true) (Q:=fun i=>fresh w d k i hd hk) (L:=F.f20 w d k) (fun i hi=> ?_) (fun i hi hq=> ?_) (fun i hi hq=> ?_) _ 0 rfl
  ·rw[F.f20,if_neg (by omega)]
  ·rw[F.f20,if_pos (by omega)]
   by_cases h:i<d
   ·have hi':i<w.length:=by omega
    rw[if_pos (by omega),List.getElem?_eq_getElem hi',ZAZ hd]
    simp only[Option.bind_eq_bind,Option.bind_some]
    rw[if_neg (fun e=>hq.data h hi' (ZAr.1 e)),P.Yq w hw d k i hd hk h (hl d (Nat.le_refl _) hd) (hl i (by omega) hi'),if_pos (ZL (hq.ctor h hi'))]
    simp only[Option.bind_some]
    rw[if_pos (by omega)]
   ·obtain rfl:i=d:=by omega
    rw[if_neg (by omega),P.Yp w hw i k hd hk (hl i (Nat.le_refl _) hd),if_pos (ZL (hq.own rfl))]
    simp only[Option.bind_eq_bind,Option.bind_some]
    rw[if_pos (by omega)]
  ·rw[F.f20,if_pos (by omega)]
   by_cases h:i<d
   ·have hi':i<w.length:=by omega
    rw[if_pos (by omega),List.getElem?_eq_getElem hi',ZAZ hd]
    simp only[Option.bind_eq_bind,Option.bind_some]
    by_cases hn:w[i].name=w[d].name
    ·rw[if_pos (ZAr.2 hn)]
    ·rw[if_neg (fun e=>hn (ZAr.1 e)),P.Yq w hw d k i hd hk h (hl d (Nat.le_refl _) hd) (hl i (by omega) hi'),if_neg (by rw[ZH fun hh=>hq ⟨fun _ _=>hn,fun _ _=>hh,fun e=>by omega⟩];simp)]
     rfl
   ·obtain rfl:i=d:=by omega
    rw[if_neg (by omega),P.Yp w hw i k hd hk (hl i (Nat.le_refl _) hd),if_neg (by rw[ZH fun hh=>hq ⟨fun e=>by omega,fun e=>by omega,fun _=>hh⟩];simp)]
    rfl
 rw[key]
 simp only[Option.bind_eq_bind,Option.bind_some]
 by_cases hall:∀i,0≤i→i<d+1→fresh w d k i hd hk
 ·rw[if_pos (ZL hall),ZL hall];rfl
 ·rw[if_neg (by rw[ZH hall];simp),ZH hall];rfl
theorem ZDg (w:List Data)(d k:Nat)(hd:d<w.length)(hk:k<w[d].ctors.length):(∀i,0≤i→i<d+1→fresh w d k i hd hk)↔w[d].name∉(w.take d).map (·.name)∧w[d].ctors[k].name∉(w.take d).flatMap ZL0++(w[d].ctors.take k).map (·.name):=by
 constructor
 ·intro h
  refine⟨fun hm=> ?_,fun hm=> ?_⟩
  ·obtain⟨x,hx,e⟩:=List.mem_map.1 hm
   obtain⟨i,hi,rfl⟩:=List.mem_take_iff_getElem.1 hx
   exact(h i (by omega) (by omega)).data (by omega) (by omega) e
  ·rcases List.mem_append.1 hm with hm|hm
   ·obtain⟨x,hx,hc⟩:=List.mem_flatMap.1 hm
    obtain⟨i,hi,rfl⟩:=List.mem_take_iff_getElem.1 hx
    obtain⟨c,hc,e⟩:=List.mem_map.1 hc
    obtain⟨j,hj,rfl⟩:=List.getElem_of_mem hc
    exact(h i (by omega) (by omega)).ctor (by omega) (by omega) j (by omega) hj hj e
   ·obtain⟨c,hc,e⟩:=List.mem_map.1 hm
    obtain⟨j,hj,rfl⟩:=List.mem_take_iff_getElem.1 hc
    exact(h d (by omega) (by omega)).own rfl j (by omega) (by omega) (by omega) e
 ·rintro⟨h1,h2⟩ i _ hi
  refine⟨fun hid hiw e=>h1 (List.mem_map.2 ⟨w[i],List.mem_take_iff_getElem.2 ⟨i,by omega,rfl⟩,e⟩),fun hid hiw j _ hj hj' e=>h2 (List.mem_append_left _ (List.mem_flatMap.2 ⟨w[i],List.mem_take_iff_getElem.2 ⟨i,by omega,rfl⟩,List.mem_map.2 ⟨_,List.getElem_mem hj,e⟩⟩)),fun e j _ hj hj' e=>h2 (List.mem_append_right _ (List.mem_map.2 ⟨_,List.mem_take_iff_getElem.2 ⟨j,by omega,rfl⟩,e⟩))⟩
theorem P.Ye (w:List Data)(hw:ZBE w)(d:Nat)(hd:d<w.length)(hw4:w.length≤4)(hl:∀i,i≤d→∀h:i<w.length,w[i].ctors.length≤4):F.f22 w d 0=
  some (if dec (∀k,0≤k→k<w[d].ctors.length→∀h:k<w[d].ctors.length,w[d].name∉(w.take d).map (·.name)∧ctorAt w d w[d] k w[d].ctors[k])=true then .go ()else .ret false):=by
 have hl0:=hl d (Nat.le_refl _) hd
 refine ZIm (n:=w[d].ctors.length) (r:=false) (Q:=fun k=>∀h:k<w[d].ctors.length,w[d].name∉(w.take d).map (·.name)∧ctorAt w d w[d] k w[d].ctors[k]) (L:=F.f22 w d) (fun k hk=> ?_) (fun k hk hq=> ?_) (fun k hk hq=> ?_) _ 0 rfl
 ·rw[F.f22,List.getElem?_eq_getElem hd]
  simp only[Option.bind_eq_bind,Option.bind_some]
  rw[if_neg (by omega)]
 ·obtain⟨h1,h2⟩:=hq hk
  rw[F.f22,List.getElem?_eq_getElem hd]
  simp only[Option.bind_eq_bind,Option.bind_some]
  rw[if_pos hk,List.getElem?_eq_getElem hk]
  simp only[Option.bind_some]
  rw[P.YT _ _ (hw.2 _ (List.getElem_mem hd) _ (List.getElem_mem hk))]
  simp only[Option.bind_some]
  rw[if_pos (ZL h2.ok),P.YQ w hw d k hd hk hw4 hl]
  simp only[Option.bind_some]
  rw[ZL ((ZDg w d k hd hk).2 ⟨h1,h2.new⟩),if_neg (by simp),if_pos (by omega)]
 ·rw[F.f22,List.getElem?_eq_getElem hd]
  simp only[Option.bind_eq_bind,Option.bind_some]
  rw[if_pos hk,List.getElem?_eq_getElem hk]
  simp only[Option.bind_some]
  rw[P.YT _ _ (hw.2 _ (List.getElem_mem hd) _ (List.getElem_mem hk))]
  simp only[Option.bind_some]
  by_cases h1:ZHV w.length w[d].ctors[k]
  ·rw[if_pos (ZL h1),P.YQ w hw d k hd hk hw4 hl]
   simp only[Option.bind_some]
   rw[ZH fun hh=>hq fun _=>⟨((ZDg w d k hd hk).1 hh).1,⟨h1,((ZDg w d k hd hk).1 hh).2⟩⟩,if_pos (by simp)]
  ·rw[if_neg (by rw[ZH h1];simp)]
theorem P.YJ (w:List Data)(hw:ZBE w):F.f24 w=some (dec (ZT w)):=by
 unfold F.f24
 by_cases h4:4<w.length
 ·rw[if_pos h4,ZH fun hh=>by have:=hh.1;omega]
 rw[if_neg h4]
 -- the loop runs only on over types that are right
 have key:∀(m d:Nat),w.length-d=m→(∀i,i<d→∀h:i<w.length,w[i].ctors.length≤4)→F.f23 w d=some (if dec (∀i,d≤i→i<w.length→∀h:i<w.length,dataAt w i w[i])=true then .go ()else .ret false):=by
  intro m
  induction m with
  |zero=>
   intro d hm hl
   rw[F.f23,if_neg (by omega),if_pos (ZL fun i h1 h2=>by omega)]
  |succ m ih=>
   intro d hm hl
   have hd:d<w.length:=by omega
   rw[F.f23,if_pos hd,List.getElem?_eq_getElem hd]
   simp only[Option.bind_eq_bind,Option.bind_some]
   rw[P.Ys]
   simp only[Option.bind_some]
   have no:¬dataAt w d w[d]→¬∀i,d≤i→i<w.length→∀h:i<w.length,dataAt w i w[i]:=fun h hh=>h (hh d (Nat.le_refl _) hd hd)
   by_cases h1:ZE3 w[d].name
   ·rw[if_pos (ZL h1)]
    by_cases h2:w[d].ctors.length=0
    ·rw[if_pos h2,if_neg (by rw[ZH (no fun h=>by have:=h.some;omega)];simp)]
    by_cases h3:4<w[d].ctors.length
    ·rw[if_neg h2,if_pos h3,if_neg (by rw[ZH (no fun h=>by have:=h.few;omega)];simp)]
    have hl':∀i,i≤d→∀h:i<w.length,w[i].ctors.length≤4:=fun i hi h=>by
     by_cases e:i=d
     ·subst e;omega
     ·exact hl i (by omega) h
    rw[if_neg h2,if_neg h3,P.Ye w hw d hd (by omega) hl']
    simp only[Option.bind_some]
    by_cases hq:∀k,0≤k→k<w[d].ctors.length→∀h:k<w[d].ctors.length,w[d].name∉(w.take d).map (·.name)∧ctorAt w d w[d] k w[d].ctors[k]
    ·have hda:dataAt w d w[d]:=⟨h1,(hq 0 (by omega) (by omega) (by omega)).1,by omega,by omega,fun k a b c=>(hq k a b c).2⟩
     rw[if_pos (ZL hq)]
     simp only
     rw[if_pos (by omega),ih (d+1) (by omega) fun i hi h=>hl' i (by omega) h]
     by_cases hall:∀i,d+1≤i→i<w.length→∀h:i<w.length,dataAt w i w[i]
     ·rw[if_pos (ZL hall),if_pos (ZL fun i a b c=> ?_)]
      by_cases e:i=d
      ·subst e;exact hda
      ·exact hall i (by omega) b c
     ·rw[if_neg (by rw[ZH hall];simp),if_neg (by rw[ZH fun hh=>hall fun i a b c=>hh i (by omega) b c];simp)]
    ·rw[if_neg (by rw[ZH hq];simp)]
     simp only
     rw[if_neg (by rw[ZH (no fun h=>hq fun k a b c=>⟨h.new,h.ctors k a b c⟩)];simp)]
   ·rw[if_neg (by rw[ZH h1];simp),if_neg (by rw[ZH (no fun h=>h1 h.name)];simp)]
 rw[key _ 0 rfl fun i hi=>by omega]
 simp only[Option.bind_eq_bind,Option.bind_some]
 by_cases hall:∀i,0≤i→i<w.length→∀h:i<w.length,dataAt w i w[i]
 ·rw[if_pos (ZL hall),ZL ⟨by omega,hall⟩]
 ·rw[if_neg (by rw[ZH hall];simp),ZH fun hh=>hall hh.2]
def Za (w:List Data)(t:Ty):Prop:=ZE9 w.length t∧0≤t.index
theorem P.YAK (w:List Data)(t:Ty):F.f100 w t=some (dec (Za w t)):=by
 unfold F.f100
 rw[P.YO]
 simp only[Option.bind_eq_bind,Option.bind_some]
 by_cases h:ZE9 w.length t
 ·rw[if_pos (ZL h),←ZAp];congr 1;exact ZY ⟨fun h'=>⟨h,h'⟩,fun h'=>h'.2⟩
 ·rw[if_neg (by rw[ZH h];simp),ZH fun h'=>h h'.1]
def ZDC (w:List Data)(t:Ty):Prop:=ZT w∧Za w t
theorem P.YY (w:List Data)(t:Ty)(hw:ZBE w):F.f101 w t=some (dec (ZDC w t)):=by
 unfold F.f101
 rw[P.YJ w hw]
 simp only[Option.bind_eq_bind,Option.bind_some]
 by_cases h:ZT w
 ·rw[if_pos (ZL h),P.YAK]
  simp only[Option.bind_some]
  congr 1;exact ZY ⟨fun h'=>⟨h,h'⟩,fun h'=>h'.2⟩
 ·rw[if_neg (by rw[ZH h];simp),ZH fun h'=>h h'.1]
theorem ZIw {w:List Data}(h:wtL Data.wt w≤1048576):ZBE w:=by
 refine⟨by have:=ZCU Data.wt w;omega,fun d hd c hc=> ?_⟩
 have h1:=ZAE Data.wt hd
 have h2:=ZAE Ctor.wt hc
 have e1:d.wt=d.name.size+wtL Ctor.wt d.ctors:=rfl
 have e2:c.wt=c.name.size+wtL Ty.wt c.args:=rfl
 omega
def tOk (w:List Data)(t:Ty):Prop:=t.data= -1∨(0≤t.data∧t.data<w.length)
theorem ZAP {w:List Data}{t:Ty}(h:ZE9 w.length t):tOk w t:=h.elim (fun h=>.inl h.1) (fun h=>.inr ⟨h.1,h.2.1⟩)
def ZNe (i:Int)(c:Ctor):Prop:=i=0∨c.index=0∨c.index=i
noncomputable def ZHG (i:Int):Nat→List Ctor→List Int
 |_,[]=>[]
 |k,c::r=>(if dec (ZNe i c)=true then[(k:Int)]else[])++ZHG i (k+1) r
theorem ZEe (i:Int):∀(k:Nat) (l:List Ctor),(ZHG i k l).length≤l.length
 |_,[]=>by simp[ZHG]
 |k,c::r=>by
  have:=ZEe i (k+1) r
  unfold ZHG
  split<;>simp<;>omega
theorem ZHF (i:Int){x:Int}:∀{k:Nat} {l:List Ctor},x∈ZHG i k l→(k:Int)≤x∧x<k+l.length
 |_,[],h=>by simp[ZHG]at h
 |k,c::r,h=>by
  unfold ZHG at h
  rcases List.mem_append.1 h with h|h
  ·split at h
   ·simp at h;subst h;simp;omega
   ·simp at h
  ·have:=ZHF i h
   simp;omega
def Zq (w:List Data)(t:Ty):Data:=w.getD t.data.toNat Data.z
noncomputable def ZO (w:List Data)(t:Ty):List Int:=if t.data= -1 then[]else ZHG t.index 0 (Zq w t).ctors
def ZAC (w:List Data)(t:Ty)(c:Int):Ctor:=(Zq w t).ctors.getD c.toNat Ctor.z
def ZG4 (t:Ty)(c:Ctor)(a:Ty):Ty:=if a.index= -1 then⟨a.data,if c.index=0 then t.index else c.index⟩else a
def ZQ (w:List Data)(t:Ty)(c:Int):List Ty:=(ZAC w t c).args.map (ZG4 t (ZAC w t c))
theorem ZE8 {w:List Data}{t:Ty}(h:tOk w t)(hn:t.data≠-1):at? w t.data=some (Zq w t)∧Zq w t∈w∧∃h:t.data.toNat<w.length,Zq w t=w[t.data.toNat]:=by
 obtain⟨h1,h2⟩:=h.resolve_left hn
 have hlt:t.data.toNat<w.length:=by omega
 unfold at? Zq
 rw[if_pos h1,List.getElem?_eq_getElem hlt,List.getD_eq_getElem?_getD,List.getElem?_eq_getElem hlt]
 exact⟨rfl,List.getElem_mem hlt,hlt,rfl⟩
theorem Zu {w:List Data}(hw:ZT w){t:Ty}(h:tOk w t)(hn:t.data≠-1):(Zq w t).ctors.length≤4∧∀c,c∈(Zq w t).ctors→ZHV w.length c:=by
 obtain⟨_,_,hlt,e⟩:=ZE8 h hn
 have hd:=hw.2 t.data.toNat (by omega) hlt hlt
 rw[e]
 refine⟨hd.few,fun c hc=> ?_⟩
 obtain⟨k,hk,rfl⟩:=List.getElem_of_mem hc
 exact(hd.ctors k (by omega) hk hk).ok
theorem P.Yf (w:List Data)(hw:ZT w)(t:Ty)(h:tOk w t)(hn:t.data≠-1):∀(m k:Nat) (out:List Int),(Zq w t).ctors.length-k=m→out.length≤k→k≤(Zq w t).ctors.length→
  F.f41 w t out k=some (out++ZHG t.index k ((Zq w t).ctors.drop k)):=by
 have h4:=(Zu hw h hn).1
 intro m
 induction m with
 |zero=>
  intro k out hm ho hk
  rw[F.f41,(ZE8 h hn).1]
  simp only[Option.bind_eq_bind,Option.bind_some]
  rw[if_neg (by omega),List.drop_eq_nil_of_le (by omega)];simp[ZHG]
 |succ m ih=>
  intro k out hm ho hk
  have hlt:k<(Zq w t).ctors.length:=by omega
  rw[F.f41,(ZE8 h hn).1]
  simp only[Option.bind_eq_bind,Option.bind_some]
  rw[if_pos hlt,List.getElem?_eq_getElem hlt,List.drop_eq_getElem_cons hlt]
  simp only[Option.bind_some,ZHG]
  have hf:F.f40 (Zq w t).ctors[k] t.index=some (dec (ZNe t.index (Zq w t).ctors[k])):=by
   unfold F.f40
   by_cases h1:(Zq w t).ctors[k].index=0
   ·rw[if_pos h1,ZL (.inr (.inl h1))]
   ·by_cases h2:t.index=0
    ·rw[if_neg h1,if_pos h2,ZL (.inl h2)]
    ·rw[if_neg h1,if_neg h2,←ZAp];congr 1;exact ZY ⟨fun h=>.inr (.inr h),fun h=>h.elim (fun h=>absurd h h2) (fun h=>h.elim (fun h=>absurd h h1) id)⟩
  rw[hf]
  simp only[Option.bind_some]
  by_cases hfit:ZNe t.index (Zq w t).ctors[k]
  ·rw[if_pos (ZL hfit),if_pos (by omega),if_pos (by omega),ih (k+1) _ (by omega) (by simp;omega) (by omega),if_pos (ZL hfit)];simp
  ·rw[if_neg (by rw[ZH hfit];simp),if_pos (by omega),ih (k+1) _ (by omega) (by omega) (by omega),if_neg (by rw[ZH hfit];simp)];simp
theorem P.YD (w:List Data)(hw:ZT w)(t:Ty)(h:tOk w t):F.f42 w t=some (ZO w t):=by
 unfold F.f42 ZO
 by_cases hn:t.data= -1
 ·rw[if_pos hn,if_pos hn]
 ·rw[if_neg hn,if_neg hn,P.Yf w hw t h hn _ 0 [] rfl (by simp) (by omega)];simp
theorem Zc {w:List Data}{t:Ty}{c:Int}(h:c∈ZO w t):t.data≠-1∧0≤c∧c<(Zq w t).ctors.length:=by
 unfold ZO at h
 split at h
 ·cases h
 ·next hn=>
  have:=ZHF t.index h
  exact⟨hn,by omega,by omega⟩
theorem ZCo {w:List Data}{t:Ty}{c:Int}(h:c∈ZO w t):at? (Zq w t).ctors c=some (ZAC w t c)∧ZAC w t c∈(Zq w t).ctors:=by
 obtain⟨_,h1,h2⟩:=Zc h
 have hlt:c.toNat<(Zq w t).ctors.length:=by omega
 unfold at? ZAC
 rw[if_pos h1,List.getElem?_eq_getElem hlt,List.getD_eq_getElem?_getD,List.getElem?_eq_getElem hlt]
 exact⟨rfl,List.getElem_mem hlt⟩
theorem ZG3 {w:List Data}(hw:ZT w){t:Ty}(ht:tOk w t){c:Int}(h:c∈ZO w t):(ZQ w t c).length≤3∧∀a,a∈ZQ w t c→tOk w a:=by
 have hc:=(Zu hw ht (Zc h).1).2 _ (ZCo h).2
 refine⟨by unfold ZQ;rw[List.length_map];exact hc.2.1,fun a ha=> ?_⟩
 obtain⟨b,hb,rfl⟩:=List.mem_map.1 ha
 obtain⟨j,hj,rfl⟩:=List.getElem_of_mem hb
 have:=ZAP (hc.2.2.2.2 j (by omega) hj)
 unfold ZG4
 split
 ·exact this
 ·exact this
theorem P.YA (w:List Data)(hw:ZT w)(t:Ty)(ht:tOk w t)(c:Int)(h:c∈ZO w t):F.f45 w t c=some (ZQ w t c):=by
 have hc:=(Zu hw ht (Zc h).1).2 _ (ZCo h).2
 unfold F.f45
 rw[(ZE8 ht (Zc h).1).1]
 simp only[Option.bind_eq_bind,Option.bind_some]
 rw[(ZCo h).1]
 simp only[Option.bind_some]
 rw[ZJ6 (L:=F.f44 t (ZAC w t c)) (a:=(ZAC w t c).args) (g:=ZG4 t (ZAC w t c)) (f:=fun a=>some (ZG4 t (ZAC w t c) a)) (fun out i=> ?_) (fun _ _=>rfl) _ 0 [] rfl (by have:=hc.2.1;simp;omega)]
 ·simp[ZQ]
 ·rw[F.f44]
  split
  ·cases(ZAC w t c).args[i]? with
   |none=>rfl
   |some a=>
    simp only[Option.bind_eq_bind,Option.bind_some,F.f43,ZG4]
    split
    ·split<;>simp
    ·simp
  ·rfl
theorem P.Yz (l:List Int)(n:Int):F.f65 l n=some (dec (n∈l)):=by
 unfold F.f65
 rw[ZIm (n:=l.length) (r:=true) (Q:=fun j=>∀h:j<l.length,l[j]≠n) (L:=F.f64 l n) (fun k hk=>by rw[F.f64,if_neg (by omega)])
  (fun k hk hq=>by
   rw[F.f64,if_pos hk,List.getElem?_eq_getElem hk]
   simp only[Option.bind_eq_bind,Option.bind_some]
   rw[if_neg (hq hk)])
  (fun k hk hq=>by
   rw[F.f64,if_pos hk,List.getElem?_eq_getElem hk]
   simp only[Option.bind_eq_bind,Option.bind_some]
   rw[if_pos (Classical.byContradiction fun h=>hq fun _=>h)]) _ 0 rfl]
 simp only[Option.bind_eq_bind,Option.bind_some]
 by_cases hm:n∈l
 ·obtain⟨j,hj,e⟩:=List.getElem_of_mem hm
  rw[if_neg (by rw[ZH fun hh=>hh j (by omega) hj hj e];simp),ZL hm]
 ·rw[if_pos (ZL fun j _ hj h e=>hm (by rw[←e];exact List.getElem_mem h)),ZH hm]
def pv (w:List Data)(holes:Bool):Nat→Ty→Value→Prop
 |0,_,_=>False
 |d+1,t,v=>(holes=true∧v.ctor= -2∧v.n=0∧v.kids.length=0)∨(¬(holes=true∧v.ctor= -2)∧
   ((t.data= -1∧v.ctor= -1∧0≤v.n∧v.n≤9∧v.kids.length=0)∨
   (t.data≠-1∧v.n=0∧v.ctor∈ZO w t∧v.kids.length=(ZQ w t v.ctor).length∧
    ∀i,0≤i→i<(ZQ w t v.ctor).length→∀(h:i<(ZQ w t v.ctor).length) (h':i<v.kids.length),pv w holes d (ZQ w t v.ctor)[i] v.kids[i])))
theorem ZL3 (v:Value):v.wt=((v.kids.drop 0).map fun k=>1+k.wt).sum:=by
 rw[List.drop_zero,v.wt_eq]
 have:∀l:List Value,(l.map fun k=>1+k.wt).sum=wtL Value.wt l:=by
  intro l
  induction l with
  |nil=>rfl
  |cons a r ih=>simp[ih]
 exact(this _).symm
def rok (K:Nat)(r:ZE):Prop:=r.f0.length≤2000∧(∀x,x∈r.f0→0≤x∧x≤255)∧0≤r.f1∧r.f1≤(K:Int)
theorem rok.mono {K L:Nat}{r:ZE}(h:rok K r)(hl:K≤L):rok L r:=⟨h.1,h.2.1,h.2.2.1,by have:=h.2.2.2;omega⟩
theorem ZL2 {a b:Int}(ha:0≤a)(hb:0≤b)(ha':a<4611686018427387904)(hb':b<4611686018427387904):0≤ZNh .i64 a b:=by
 unfold ZNh
 obtain⟨m,rfl⟩:=Int.eq_ofNat_of_zero_le ha
 obtain⟨n,rfl⟩:=Int.eq_ofNat_of_zero_le hb
 have hm:m<2^62:=by omega
 have hn:n<2^62:=by omega
 have h:(BitVec.ofInt IntKind.i64.bits (m:Int)^^^BitVec.ofInt IntKind.i64.bits (n:Int)).toNat<2^62:=by
  rw[BitVec.toNat_xor]
  refine Nat.xor_lt_two_pow ?_ ?_
  ·show(BitVec.ofInt 64 (m:Int)).toNat<2^62
   rw[BitVec.toNat_ofInt];omega
  ·show(BitVec.ofInt 64 (n:Int)).toNat<2^62
   rw[BitVec.toNat_ofInt];omega
 rw[ZG (by omega) (by omega)]
 exact Int.natCast_nonneg _
theorem ZET {α:Type}{xs:List α}{i:Int}(h0:0≤i)(h1:i<xs.length):∃x,at? xs i=some x∧x∈xs:=by
 have hi:i.toNat<xs.length:=by omega
 refine⟨xs[i.toNat],?_,List.getElem_mem hi⟩
 unfold at?
 rw[if_pos h0,List.getElem?_eq_getElem hi]
theorem P.YG {K:Nat}{r:ZE}(h:rok K r)(hK:K≤1099511627776)(n:Int):∃v r',F.f1 r n=some (v,r')∧rok (K+1) r'∧0≤v∧(1≤n→v<n)∧(n<1→v=0):=by
 obtain⟨h1,h2,h3,h4⟩:=h
 unfold F.f1
 have e1:IntKind.i64.wrap (r.f1+1)=r.f1+1:=ZG (by omega) (by omega)
 have e2:IntKind.i64.wrap (r.f1+1-1)=r.f1:=by rw[ZG (by omega) (by omega)];omega
 have hr':rok (K+1) ⟨r.f0,r.f1+1⟩:=⟨h1,h2,by show 0≤r.f1+1;omega,by show r.f1+1≤((K+1:Nat):Int);omega⟩
 rw[e1,e2]
 by_cases hn:n<1
 ·rw[if_pos hn];exact⟨0,_,rfl,hr',by omega,by omega,fun _=>rfl⟩
 rw[if_neg hn]
 by_cases hl:r.f0.length=0
 ·rw[if_pos hl];exact⟨0,_,rfl,hr',by omega,by omega,fun _=>rfl⟩
 rw[if_neg hl]
 have tm:∀x:Int,0≤x→0≤x.tmod n∧x.tmod n<n:=fun x hx=>⟨Int.tmod_nonneg n hx,Int.tmod_lt_of_pos x (by omega)⟩
 have tl:∀x:Int,0≤x→0≤x.tmod (r.f0.length:Int)∧x.tmod (r.f0.length:Int)<r.f0.length:=fun x hx=>⟨Int.tmod_nonneg _ hx,Int.tmod_lt_of_pos x (by omega)⟩
 by_cases hk:r.f1<(r.f0.length:Int)
 ·rw[if_pos hk]
  obtain⟨x,hx,hm⟩:=ZET h3 hk
  have hb:=h2 x hm
  rw[hx]
  simp only[Option.bind_eq_bind,Option.bind_some]
  rw[if_pos (by omega),ZG (by omega) (by omega)]
  have:=tm x hb.1
  exact⟨_,_,rfl,hr',this.1,fun _=>this.2,fun h=>by omega⟩
 ·rw[if_neg hk,if_pos (by omega)]
  have e7:IntKind.i64.wrap (r.f1*7)=r.f1*7:=ZG (by omega) (by omega)
  have e73:IntKind.i64.wrap (r.f1*7+3)=r.f1*7+3:=ZG (by omega) (by omega)
  rw[e7,e73]
  have t1:=tl r.f1 h3
  have t2:=tl (r.f1*7+3) (by omega)
  obtain⟨x,hx,hm⟩:=ZET t1.1 t1.2
  obtain⟨y,hy,hm'⟩:=ZET t2.1 t2.2
  have hb:=h2 x hm
  have hb':=h2 y hm'
  have hq0:0≤r.f1.tdiv (r.f0.length:Int):=Int.tdiv_nonneg h3 (by omega)
  have hq1:r.f1.tdiv (r.f0.length:Int)≤r.f1:=Int.tdiv_le_self _ h3
  rw[hx,hy]
  simp only[Option.bind_eq_bind,Option.bind_some]
  rw[if_pos (by omega)]
  generalize r.f1.tdiv (r.f0.length:Int)=q at hq0 hq1 ⊢
  rw[ZG (n:=x) (by omega) (by omega),ZG (n:=y) (by omega) (by omega),ZG (n:=q) (by omega) (by omega),ZG (n:=x*131) (by omega) (by omega),ZG (n:=y*1117) (by omega) (by omega),
   ZG (n:=r.f1*29) (by omega) (by omega),ZG (n:=q*53) (by omega) (by omega),ZG (n:=x*131+y*1117) (by omega) (by omega),ZG (n:=x*131+y*1117+r.f1*29) (by omega) (by omega),
   ZG (n:=x*131+y*1117+r.f1*29+q*53) (by omega) (by omega)]
  have hz0:0≤x*131+y*1117+r.f1*29+q*53:=by omega
  have hz1:x*131+y*1117+r.f1*29+q*53<4611686018427387904:=by omega
  generalize x*131+y*1117+r.f1*29+q*53=z at hz0 hz1 ⊢
  have hd0:0≤z.tdiv 64:=Int.tdiv_nonneg hz0 (by omega)
  have hd1:z.tdiv 64≤z:=Int.tdiv_le_self _ hz0
  rw[ZG (n:=z.tdiv 64) (by omega) (by omega)]
  have:=tm _ (ZL2 hz0 hd0 hz1 (by omega))
  exact⟨_,_,rfl,hr',this.1,fun _=>this.2,fun h=>by omega⟩
theorem P.num {K:Nat}{r:ZE}(h:rok K r)(hK:K≤1099511627776)(l:List Int)(hl:l≠[]):∃v r',F.f54 r l=some (v,r')∧rok (K+1) r'∧v∈l:=by
 unfold F.f54
 obtain⟨v,r',e,h1,h2,h3,_⟩:=P.YG h hK (l.length:Int)
 have:0<l.length:=List.length_pos_iff.2 hl
 obtain⟨x,hx,hm⟩:=ZET h2 (h3 (by omega))
 rw[e]
 simp only[Option.bind_eq_bind,Option.bind_some]
 rw[hx]
 exact⟨x,r',rfl,h1,hm⟩
def W0 :List Data:=[⟨⟨#[76]⟩,[⟨⟨#[78,105,108]⟩,[],0⟩,⟨⟨#[67,111,110,115]⟩,[⟨-1,0⟩,⟨0,0⟩],0⟩]⟩]
theorem ZLj :F.f38 ⟨#[76,61,78,105,108,124,67,111,110,115,40,73,44,76,41]⟩=some (W0,true):=E.f38_le 100 _ _ (by kernel_rfl)
theorem ZLi :F.f53 W0=some [1,1,1,1]:=E.f53_le 100 _ _ (by kernel_rfl)
def W1 :List Data:=[⟨⟨#[66]⟩,[⟨⟨#[84,114,117]⟩,[],0⟩,⟨⟨#[70,108,115]⟩,[],0⟩]⟩,⟨⟨#[84]⟩,[⟨⟨#[76,101,97,102]⟩,[],0⟩,⟨⟨#[78,111,100,101]⟩,[⟨1,0⟩,⟨0,0⟩,⟨1,0⟩],0⟩]⟩]
theorem ZLh :F.f38 ⟨#[66,61,84,114,117,124,70,108,115,59,84,61,76,101,97,102,124,78,111,100,101,40,84,44,66,44,84,41]⟩=some (W1,true):=E.f38_le 100 _ _ (by kernel_rfl)
theorem ZLg :F.f53 W1=some [1,1,1,1,1,1,1,1]:=E.f53_le 100 _ _ (by kernel_rfl)
def W2 :List Data:=[⟨⟨#[69]⟩,[⟨⟨#[78,117,109]⟩,[⟨-1,0⟩],1⟩,⟨⟨#[66,111,108]⟩,[⟨1,0⟩],2⟩,⟨⟨#[65,100,100]⟩,[⟨0,1⟩,⟨0,1⟩],1⟩,⟨⟨#[73,102]⟩,[⟨0,2⟩,⟨0,-1⟩,⟨0,-1⟩],0⟩]⟩,⟨⟨#[66]⟩,[⟨⟨#[84,114,117]⟩,[],0⟩,⟨⟨#[70,108,115]⟩,[],0⟩]⟩]
theorem ZLf :F.f38 ⟨#[69,61,78,117,109,40,73,41,58,49,124,66,111,108,40,66,41,58,50,124,65,100,100,40,69,49,44,69,49,41,58,49,124,73,102,40,69,50,44,69,42,44,69,42,41,59,66,61,84,114,117,124,70,108,115]⟩=some (W2,true):=E.f38_le 100 _ _ (by kernel_rfl)
theorem ZLe :F.f53 W2=some [2,2,2,0,1,1,1,1]:=E.f53_le 100 _ _ (by kernel_rfl)
def W3 :List Data:=[⟨⟨#[79]⟩,[⟨⟨#[78,111,110]⟩,[],0⟩,⟨⟨#[83,111,109]⟩,[⟨-1,0⟩],0⟩]⟩,⟨⟨#[80]⟩,[⟨⟨#[80,97,105,114]⟩,[⟨0,0⟩,⟨0,0⟩],0⟩]⟩]
theorem ZLd :F.f38 ⟨#[79,61,78,111,110,124,83,111,109,40,73,41,59,80,61,80,97,105,114,40,79,44,79,41]⟩=some (W3,true):=E.f38_le 100 _ _ (by kernel_rfl)
theorem ZLc :F.f53 W3=some [1,1,1,1,2,2,2,2]:=E.f53_le 100 _ _ (by kernel_rfl)
def W4 :List Data:=[⟨⟨#[86]⟩,[⟨⟨#[69,110,100]⟩,[],1⟩,⟨⟨#[83,111,109,101]⟩,[⟨-1,0⟩,⟨0,1⟩],2⟩,⟨⟨#[84,119,111]⟩,[⟨0,-1⟩],0⟩]⟩]
theorem ZLb :F.f38 ⟨#[86,61,69,110,100,58,49,124,83,111,109,101,40,73,44,86,49,41,58,50,124,84,119,111,40,86,42,41]⟩=some (W4,true):=E.f38_le 100 _ _ (by kernel_rfl)
theorem ZLa :F.f53 W4=some [1,1,2,0]:=E.f53_le 100 _ _ (by kernel_rfl)
def W5 :List Data:=[⟨⟨#[78]⟩,[⟨⟨#[78,101,118,101,114]⟩,[⟨0,0⟩],0⟩]⟩,⟨⟨#[66]⟩,[⟨⟨#[84,114,117]⟩,[],0⟩,⟨⟨#[70,108,115]⟩,[],0⟩,⟨⟨#[77,97,121]⟩,[⟨0,0⟩],0⟩]⟩]
theorem ZLZ :F.f38 ⟨#[78,61,78,101,118,101,114,40,78,41,59,66,61,84,114,117,124,70,108,115,124,77,97,121,40,78,41]⟩=some (W5,true):=E.f38_le 100 _ _ (by kernel_rfl)
theorem ZLY :F.f53 W5=some [0,0,0,0,1,1,1,1]:=E.f53_le 100 _ _ (by kernel_rfl)
def W6 :List Data:=[⟨⟨#[83]⟩,[⟨⟨#[82,101,100]⟩,[],0⟩,⟨⟨#[71,114,101,101,110]⟩,[],0⟩,⟨⟨#[66,108,117,101]⟩,[],0⟩,⟨⟨#[77,105,120]⟩,[⟨0,0⟩,⟨0,0⟩],0⟩]⟩]
theorem ZLX :F.f38 ⟨#[83,61,82,101,100,124,71,114,101,101,110,124,66,108,117,101,124,77,105,120,40,83,44,83,41]⟩=some (W6,true):=E.f38_le 100 _ _ (by kernel_rfl)
theorem ZLW :F.f53 W6=some [1,1,1,1]:=E.f53_le 100 _ _ (by kernel_rfl)
def ZEc :List ByteArray:=[⟨#[76,61,78,105,108,124,67,111,110,115,40,73,44,76,41]⟩,⟨#[66,61,84,114,117,124,70,108,115,59,84,61,76,101,97,102,124,78,111,100,101,40,84,44,66,44,84,41]⟩,⟨#[69,61,78,117,109,40,73,41,58,49,124,66,111,108,40,66,41,58,50,124,65,100,100,40,69,49,44,69,49,41,58,49,124,73,102,40,69,50,44,69,42,44,69,42,41,59,66,61,84,114,117,124,70,108,115]⟩,⟨#[79,61,78,111,110,124,83,111,109,40,73,41,59,80,61,80,97,105,114,40,79,44,79,41]⟩,⟨#[86,61,69,110,100,58,49,124,83,111,109,101,40,73,44,86,49,41,58,50,124,84,119,111,40,86,42,41]⟩,⟨#[78,61,78,101,118,101,114,40,78,41,59,66,61,84,114,117,124,70,108,115,124,77,97,121,40,78,41]⟩,⟨#[83,61,82,101,100,124,71,114,101,101,110,124,66,108,117,101,124,77,105,120,40,83,44,83,41]⟩,ByteArray.empty]
theorem P.YAh :F.f0=some ZEc:=rfl
def ZAK :List (List Data):=[W0,W1,W2,W3,W4,W5,W6]
theorem P.YAg {K:Nat}{r:ZE}(h:rok K r)(hK:K≤1099511627776):∃w r',F.f39 r=some (w,r')∧rok (K+1) r'∧w∈ZAK:=by
 unfold F.f39
 rw[P.YAh]
 simp only[Option.bind_eq_bind,Option.bind_some]
 obtain⟨v,r',e,h1,h2,h3,_⟩:=P.YG h hK 7
 have e7:IntKind.i64.wrap (((8:Nat):Int) -1)=7:=by rw[ZG (by omega) (by omega)];rfl
 have e8:ZEc.length=8:=rfl
 rw[e8,e7,e]
 simp only[Option.bind_some]
 have h3:=h3 (by omega)
 have hv:v=0∨v=1∨v=2∨v=3∨v=4∨v=5∨v=6:=by omega
 rcases hv with rfl|rfl|rfl|rfl|rfl|rfl|rfl
 ·have:at? ZEc 0=some (⟨#[76,61,78,105,108,124,67,111,110,115,40,73,44,76,41]⟩:ByteArray):=rfl
  rw[this];simp only[Option.bind_some]
  rw[ZLj]
  exact⟨W0,r',rfl,h1,by simp[ZAK]⟩
 ·have:at? ZEc 1=some (⟨#[66,61,84,114,117,124,70,108,115,59,84,61,76,101,97,102,124,78,111,100,101,40,84,44,66,44,84,41]⟩:ByteArray):=rfl
  rw[this];simp only[Option.bind_some]
  rw[ZLh]
  exact⟨W1,r',rfl,h1,by simp[ZAK]⟩
 ·have:at? ZEc 2=some (⟨#[69,61,78,117,109,40,73,41,58,49,124,66,111,108,40,66,41,58,50,124,65,100,100,40,69,49,44,69,49,41,58,49,124,73,102,40,69,50,44,69,42,44,69,42,41,59,66,61,84,114,117,124,70,108,115]⟩:ByteArray):=rfl
  rw[this];simp only[Option.bind_some]
  rw[ZLf]
  exact⟨W2,r',rfl,h1,by simp[ZAK]⟩
 ·have:at? ZEc 3=some (⟨#[79,61,78,111,110,124,83,111,109,40,73,41,59,80,61,80,97,105,114,40,79,44,79,41]⟩:ByteArray):=rfl
  rw[this];simp only[Option.bind_some]
  rw[ZLd]
  exact⟨W3,r',rfl,h1,by simp[ZAK]⟩
 ·have:at? ZEc 4=some (⟨#[86,61,69,110,100,58,49,124,83,111,109,101,40,73,44,86,49,41,58,50,124,84,119,111,40,86,42,41]⟩:ByteArray):=rfl
  rw[this];simp only[Option.bind_some]
  rw[ZLb]
  exact⟨W4,r',rfl,h1,by simp[ZAK]⟩
 ·have:at? ZEc 5=some (⟨#[78,61,78,101,118,101,114,40,78,41,59,66,61,84,114,117,124,70,108,115,124,77,97,121,40,78,41]⟩:ByteArray):=rfl
  rw[this];simp only[Option.bind_some]
  rw[ZLZ]
  exact⟨W5,r',rfl,h1,by simp[ZAK]⟩
 ·have:at? ZEc 6=some (⟨#[83,61,82,101,100,124,71,114,101,101,110,124,66,108,117,101,124,77,105,120,40,83,44,83,41]⟩:ByteArray):=rfl
  rw[this];simp only[Option.bind_some]
  rw[ZLX]
  exact⟨W6,r',rfl,h1,by simp[ZAK]⟩
def row (T G:Nat):Nat:=Nat.mod (Nat.div T (Nat.pow 1024 (Nat.mul 64 (Nat.add (Nat.mul 3 (Nat.mod G 64)) (Nat.mod (Nat.sub 3 (Nat.mod (Nat.xor G (Nat.div G 64)) 3)) 3))))) (Nat.pow 1024 64)
def ZBP (code:List Int):Prop:=code.length≤maxLen∧∀x,x∈code→0≤x∧x≤255
theorem ZEh {code:List Int}(h:ZBP code)(hl:code.length≤2000):rok 0 ⟨code,0⟩:=⟨hl,h.2,Int.le_refl 0,Int.le_refl 0⟩
theorem ZGJ {code:List Int}(h:ZBP code):rok 0 ⟨(code.drop 0).take (2000-0),0⟩:=⟨by simp;omega,fun x hx=>h.2 x (List.mem_of_mem_drop (List.mem_of_mem_take hx)),Int.le_refl 0,Int.le_refl 0⟩
theorem ZCt {w:List Data}(h:w∈ZAK):ZBE w:=by
 simp only[ZAK,List.mem_cons,List.not_mem_nil,or_false]at h
 rcases h with rfl|rfl|rfl|rfl|rfl|rfl|rfl<;>exact ZIw (by decide)
def tIx (w:List Data)(t:Ty):Prop:=t.data= -1∨(0≤t.data∧t.data<w.length∧0≤t.index∧t.index≤3)
theorem tIx.tOk {w:List Data}{t:Ty}(h:tIx w t):tOk w t:=h.imp id fun h=>⟨h.1,h.2.1⟩
def ZB0 (T:List Int)(t:Ty):Int:=if t.data= -1 then 1 else T.getD (t.data*4+t.index).toNat 0
def ZBs (T:List Int):Int→List Ty→Int
 |m,[]=>m+1
 |m,a::r=>if ZB0 T a=0 then 0 else ZBs T (if m<ZB0 T a then ZB0 T a else m) r
def ZCc (w:List Data)(T:List Int)(t:Ty)(c:Int):Int:=ZBs T 0 (ZQ w t c)
def ZPz (i:Int)(c:Ctor):Bool:=decide (i=0)||decide (c.index=0)||decide (c.index=i)
def ZNo (w:List Data)(T:List Int):Bool:=decide (T.length=w.length*4)&& T.all (fun x=>decide (0≤x)&& decide (x≤2))&&
 (List.range w.length).all fun d=>(List.range 4).all fun i=>decide (T.getD (d*4+i) 0=0)||
  (List.range (w.getD d Data.z).ctors.length).any fun k=>ZPz i ((w.getD d Data.z).ctors.getD k Ctor.z)&& decide (ZCc w T ⟨d,i⟩ k=T.getD (d*4+i) 0)
theorem ZLD {i:Int}{c:Ctor}(h:ZPz i c=true):ZNe i c:=by
 simp only[ZPz,Bool.or_eq_true,decide_eq_true_eq]at h
 rcases h with(h|h)|h
 ·exact .inl h
 ·exact .inr (.inl h)
 ·exact .inr (.inr h)
theorem ZIy {i:Int}:∀{k:Nat} {l:List Ctor} {j:Nat} (hj:j<l.length),ZNe i l[j]→((k+j:Nat):Int)∈ZHG i k l
 |k,c::r,0,hj,h=>by simp only[ZHG];rw[if_pos (ZL (show ZNe i c from h))];exact List.mem_append_left _ (by simp)
 |k,c::r,j+1,hj,h=>by
  simp only[ZHG]
  refine List.mem_append_right _ ?_
  have:=ZIy (k:=k+1) (l:=r) (j:=j) (by simpa using hj) h
  have e:k+1+j=k+(j+1):=by omega
  rwa[e]at this
structure TOk (w:List Data)(T:List Int):Prop where
 wok:ZT w
 len:T.length=w.length*4
 rng:∀k,0≤T.getD k 0∧T.getD k 0≤2
 has:∀t,tIx w t→t.data≠-1→ZB0 T t≠0→∃c,c∈ZO w t∧ZCc w T t c=ZB0 T t
theorem TOk.of {w:List Data}{T:List Int}(hw:ZT w)(h:ZNo w T=true):TOk w T:=by
 simp only[ZNo,Bool.and_eq_true,decide_eq_true_eq]at h
 obtain⟨⟨h1,h2⟩,h3⟩:=h
 refine⟨hw,h1,fun k=> ?_,fun t ht hn hd=> ?_⟩
 ·by_cases hk:k<T.length
  ·rw[List.getD_eq_getElem?_getD,List.getElem?_eq_getElem hk]
   have:=List.all_eq_true.1 h2 _ (List.getElem_mem hk)
   simpa using this
  ·rw[List.getD_eq_getElem?_getD,List.getElem?_eq_none (by omega)];simp
 ·obtain⟨q1,q2,q3,q4⟩:=ht.resolve_left hn
  have a1:=List.all_eq_true.1 h3 t.data.toNat (by simp;omega)
  have a2:=List.all_eq_true.1 a1 t.index.toNat (by simp;omega)
  simp only[Bool.or_eq_true,decide_eq_true_eq]at a2
  have e:(t.data*4+t.index).toNat=t.data.toNat*4+t.index.toNat:=by omega
  have ed:ZB0 T t=T.getD (t.data.toNat*4+t.index.toNat) 0:=by unfold ZB0;rw[if_neg hn,e]
  have a3:=a2.resolve_left (by rw[←ed];exact hd)
  obtain⟨k,hk,hkk⟩:=List.any_eq_true.1 a3
  simp only[Bool.and_eq_true,decide_eq_true_eq]at hkk
  have et:(⟨(t.data.toNat:Int),(t.index.toNat:Int)⟩:Ty)=t:=by
   obtain⟨d,i⟩:=t
   simp only at q1 q3 ⊢
   rw[Int.toNat_of_nonneg q1,Int.toNat_of_nonneg q3]
  rw[et]at hkk
  have hk':k<(Zq w t).ctors.length:=by simpa[Zq]using hk
  refine⟨(k:Int),?_,by rw[hkk.2,ed]⟩
  unfold ZO
  rw[if_neg hn]
  have hf:=ZLD hkk.1
  rw[Int.toNat_of_nonneg q3]at hf
  have hg:(w.getD t.data.toNat Data.z).ctors.getD k Ctor.z=(Zq w t).ctors[k]:=by
   unfold Zq at hk' ⊢
   rw[List.getD_eq_getElem?_getD,List.getElem?_eq_getElem hk'];rfl
  rw[hg]at hf
  have:=ZIy (k:=0) hk' hf
  rwa[Nat.zero_add]at this
theorem TOk.dep {w:List Data}{T:List Int}(h:TOk w T)(t:Ty):0≤ZB0 T t∧ZB0 T t≤2:=by
 unfold ZB0;split
 ·omega
 ·exact h.rng _
theorem P.YC {w:List Data}{T:List Int}(h:TOk w T){t:Ty}(ht:tIx w t):F.f47 T t=some (ZB0 T t):=by
 unfold F.f47 F.f46 ZB0
 by_cases hn:t.data= -1
 ·rw[if_pos hn,if_pos hn]
 ·obtain⟨q1,q2,q3,q4⟩:=ht.resolve_left hn
  have hw:=h.wok.1
  rw[if_neg hn,if_neg hn,ZG (n:=t.data*4) (by omega) (by omega),ZG (by omega) (by omega)]
  simp only[Option.bind_eq_bind,Option.bind_some]
  have hl:(t.data*4+t.index).toNat<T.length:=by rw[h.len];omega
  unfold at?
  rw[if_pos (by omega),List.getElem?_eq_getElem hl,List.getD_eq_getElem?_getD,List.getElem?_eq_getElem hl]
  rfl
theorem ZJ5 {w:List Data}(hw:ZT w){t:Ty}(ht:tIx w t){c:Int}(h:c∈ZO w t):∀a,a∈ZQ w t c→tIx w a:=by
 have hc:=(Zu hw ht.tOk (Zc h).1).2 _ (ZCo h).2
 have hn:=(Zc h).1
 intro a ha
 obtain⟨b,hb,rfl⟩:=List.mem_map.1 ha
 obtain⟨j,hj,rfl⟩:=List.getElem_of_mem hb
 have:=hc.2.2.2.2 j (by omega) hj
 obtain⟨q1,q2,q3,q4⟩:=ht.resolve_left hn
 unfold ZG4
 rcases this with⟨p1,p2⟩|⟨p1,p2,p3,p4⟩
 ·rw[if_neg (by omega)];exact .inl p1
 ·split
  ·next e=>
   refine .inr ⟨p1,p2,?_,?_⟩
   ·show 0≤(if(ZAC w t c).index=0 then t.index else(ZAC w t c).index)
    split
    ·exact q3
    ·exact hc.2.2.1
   ·show(if(ZAC w t c).index=0 then t.index else(ZAC w t c).index)≤3
    split
    ·exact q4
    ·exact hc.2.2.2.1
  ·next e=>exact .inr ⟨p1,p2,by omega,p4⟩
theorem ZEt {w:List Data}{T:List Int}(h:TOk w T):∀(l:List Ty) (m:Int),0≤m→m≤2→0≤ZBs T m l∧ZBs T m l≤3∧(ZBs T m l≠0→m+1≤ZBs T m l∧∀a,a∈l→ZB0 T a≠0∧ZB0 T a+1≤ZBs T m l)
 | [],m,h0,h2=>⟨by simp only[ZBs];omega,by simp only[ZBs];omega,fun _=>⟨by simp only[ZBs];omega,fun a ha=>by cases ha⟩⟩
 |a::r,m,h0,h2=>by
  have hd:=h.dep a
  simp only[ZBs]
  by_cases ha:ZB0 T a=0
  ·rw[if_pos ha];exact⟨by omega,by omega,fun h=>absurd rfl h⟩
  ·rw[if_neg ha]
   have hm:∃m',(if m<ZB0 T a then ZB0 T a else m)=m'∧0≤m'∧m'≤2∧m≤m'∧ZB0 T a≤m':=by
    split
    ·exact⟨_,rfl,by omega,by omega,by omega,by omega⟩
    ·exact⟨_,rfl,by omega,by omega,by omega,by omega⟩
   obtain⟨m',e,k0,k2,k3,k4⟩:=hm
   rw[e]
   obtain⟨i1,i2,i3⟩:=ZEt h r m' k0 k2
   refine⟨i1,i2,fun hne=> ?_⟩
   obtain⟨j1,j2⟩:=i3 hne
   refine⟨by omega,fun b hb=> ?_⟩
   rcases List.mem_cons.1 hb with rfl|hb
   ·exact⟨ha,by omega⟩
   ·exact j2 b hb
def mR (n:Int):Lo Int Int:=if n=0 then .ret 0 else .go (n-1)
theorem P.YW {w:List Data}{T:List Int}(h:TOk w T)(l:List Ty)(hl:∀a,a∈l→tIx w a):∀(n k:Nat) (m:Int),l.length-k=n→0≤m→m≤2→
  F.f48 T l m k=some (mR (ZBs T m (l.drop k))):=by
 intro n
 induction n with
 |zero=>
  intro k m hn h0 h2
  rw[F.f48,if_neg (by omega),List.drop_eq_nil_of_le (by omega)]
  show some (Lo.go m)=some (mR (m+1))
  unfold mR
  rw[if_neg (by omega)];congr 2;omega
 |succ n ih=>
  intro k m hn h0 h2
  have hk:k<l.length:=by omega
  have hd:=h.dep l[k]
  rw[F.f48,if_pos hk,List.getElem?_eq_getElem hk]
  simp only[Option.bind_eq_bind,Option.bind_some]
  rw[P.YC h (hl _ (List.getElem_mem hk)),List.drop_eq_getElem_cons hk]
  simp only[Option.bind_some,ZBs]
  by_cases ha:ZB0 T l[k]=0
  ·rw[if_pos ha,if_pos ha];rfl
  ·rw[if_neg ha,if_neg ha]
   by_cases hm:m<ZB0 T l[k]
   ·rw[if_pos hm,if_pos hm,ih _ _ (by omega) (by omega) (by omega)]
   ·rw[if_neg hm,if_neg hm,ih _ _ (by omega) (by omega) (by omega)]
theorem P.Yr {w:List Data}{T:List Int}(h:TOk w T){t:Ty}(ht:tIx w t){c:Int}(hc:c∈ZO w t):F.f49 w T t c=some (ZCc w T t c):=by
 unfold F.f49
 rw[P.YA w h.wok t ht.tOk c hc]
 simp only[Option.bind_eq_bind,Option.bind_some]
 rw[P.YW h _ (ZJ5 h.wok ht hc) _ 0 0 rfl (by omega) (by omega),List.drop_zero]
 simp only[Option.bind_some]
 have:=ZEt h (ZQ w t c) 0 (by omega) (by omega)
 unfold ZCc
 unfold mR
 by_cases h0:ZBs T 0 (ZQ w t c)=0
 ·rw[if_pos h0,h0]
 ·rw[if_neg h0]
  show some (IntKind.i64.wrap (ZBs T 0 (ZQ w t c) -1+1))=_
  rw[ZG (by omega) (by omega)];congr 1;omega
def ZCj (w:List Data)(T:List Int)(t:Ty)(depth:Int)(c:Int):Bool:=decide (0<ZCc w T t c)&& (decide (ZCc w T t c≤depth)||decide (ZCc w T t c=ZB0 T t))
theorem P.YV {w:List Data}{T:List Int}(h:TOk w T){t:Ty}(ht:tIx w t)(r:ZE)(depth:Int)(l:List Int)(hl:∀c,c∈l→c∈ZO w t)(h8:l.length≤4):∀(n k:Nat) (out:List Int),l.length-k=n→out.length≤k→
  F.f55 r w T t depth l out k=some (out++(l.drop k).filter (ZCj w T t depth)):=by
 intro n
 induction n with
 |zero=>intro k out hn ho;rw[F.f55,if_neg (by omega),List.drop_eq_nil_of_le (by omega)];simp
 |succ n ih=>
  intro k out hn ho
  have hk:k<l.length:=by omega
  rw[F.f55,if_pos hk,List.getElem?_eq_getElem hk]
  simp only[Option.bind_eq_bind,Option.bind_some]
  rw[P.Yr h ht (hl _ (List.getElem_mem hk)),List.drop_eq_getElem_cons hk,P.YC h ht]
  simp only[Option.bind_some]
  have yes:ZCj w T t depth l[k]=true→F.f55 r w T t depth l (out++[l[k]]) (k+1)=some (out++(l[k]::l.drop (k+1)).filter (ZCj w T t depth)):=fun hf=>by
   rw[ih (k+1) _ (by omega) (by simp;omega),List.filter_cons_of_pos hf];simp
  have no:ZCj w T t depth l[k]=false→F.f55 r w T t depth l out (k+1)=some (out++(l[k]::l.drop (k+1)).filter (ZCj w T t depth)):=fun hf=>by
   rw[ih (k+1) _ (by omega) (by omega),List.filter_cons_of_neg (by simp[hf])]
  by_cases h1:0<ZCc w T t l[k]
  ·rw[if_pos h1]
   by_cases h2:ZCc w T t l[k]≤depth
   ·rw[if_pos h2,if_pos (by omega)];exact yes (by simp[ZCj,h1,h2])
   ·rw[if_neg h2]
    by_cases h3:ZCc w T t l[k]=ZB0 T t
    ·rw[if_pos h3,if_pos (by omega)];exact yes (by simp only[ZCj,h1,h3];simp[←h3,h1])
    ·rw[if_neg h3];exact no (by simp[ZCj,h2,h3])
  ·rw[if_neg h1];exact no (by simp[ZCj,h1])
theorem ZIz {w:List Data}(hw:ZT w){t:Ty}(ht:tOk w t):(ZO w t).length≤4:=by
 unfold ZO
 split
 ·simp
 ·next hn=>exact Nat.le_trans (ZEe _ _ _) (Zu hw ht hn).1
theorem ZNk (c n:Int)(ks:List Value):(⟨c,n,ks⟩:Value).wt=((ks.map fun k=>1+k.wt).sum):=by
 have:=ZL3 ⟨c,n,ks⟩
 simpa using this
theorem P.YAH {w:List Data}{T:List Int}(h:TOk w T):∀(n:Nat) (t:Ty) (depth:Int) (K:Nat) (r:ZE),tIx w t→ZB0 T t≠0→ZB0 T t≤n→depth≤n→-1000000+n≤depth→n≤12→rok K r→K+4^n≤1099511627776→
  ∃v r',F.f56 r w T t depth=some (v,r')∧rok (K+4^n) r'∧pv w false n t v∧v.wt+1≤4^n∧(t.data≠-1→∀a,a∈ZQ w t v.ctor→ZB0 T a≠0)
 |0,t,depth,K,r,ht,hd,hdn,_,_,_,_,_=>by have:=h.dep t;omega
 |n+1,t,depth,K,r,ht,hd,hdn,hde,hlo,h12,hr,hK=>by
  have p4:1≤4^n:=Nat.one_le_pow _ _ (by omega)
  have p4':4^ (n+1)=4*4^n:=by rw[Nat.pow_succ];omega
  rw[F.f56]
  by_cases hn:t.data= -1
  ·rw[if_pos hn]
   obtain⟨v,r',e,h1,h2,h3,_⟩:=P.YG hr (by omega) 10
   have h3:=h3 (by omega)
   rw[e]
   refine⟨_,_,rfl,h1.mono (by omega),?_,?_,fun h=>absurd hn h⟩
   ·exact .inr ⟨by simp,.inl ⟨hn,rfl,h2,by show v≤9;omega,rfl⟩⟩
   ·rw[ZNk];simp;omega
  ·rw[if_neg hn,P.YD w h.wok t ht.tOk]
   simp only[Option.bind_eq_bind,Option.bind_some]
   rw[P.YV h ht r depth _ (fun c hc=>hc) (ZIz h.wok ht.tOk) _ 0 [] rfl (by simp),List.drop_zero,List.nil_append]
   simp only[Option.bind_some]
   obtain⟨c0,hc0,hm0⟩:=h.has t ht hn hd
   have hdt:=h.dep t
   have hf0:c0∈(ZO w t).filter (ZCj w T t depth):=List.mem_filter.2 ⟨hc0,by simp only[ZCj,hm0];simp;omega⟩
   have hpos:=List.length_pos_of_mem hf0
   obtain⟨v,r1,e,h1,h2,h3,_⟩:=P.YG hr (by omega) (((ZO w t).filter (ZCj w T t depth)).length:Int)
   obtain⟨c,hcx,hcm⟩:=ZET h2 (h3 (by omega))
   rw[e];simp only[Option.bind_some]
   rw[hcx];simp only[Option.bind_some]
   obtain⟨hcl,hcf⟩:=List.mem_filter.1 hcm
   simp only[ZCj,Bool.and_eq_true,Bool.or_eq_true,decide_eq_true_eq]at hcf
   rw[P.YA w h.wok t ht.tOk c hcl]
   simp only[Option.bind_some]
   obtain⟨g1,g2,g3⟩:=ZEt h (ZQ w t c) 0 (by omega) (by omega)
   have g3:=g3 (by unfold ZCc at hcf;omega)
   have hal:=(ZG3 h.wok ht.tOk hcl).1
   have hax:=ZJ5 h.wok ht hcl
   have hmn:ZCc w T t c≤(n:Int)+1:=by rcases hcf.2 with q|q<;>omega
   have kid:∀a,a∈ZQ w t c→∀K r,rok K r→K+4^n≤1099511627776→∃v r',F.f56 r w T a (IntKind.i64.wrap (depth-1))=some (v,r')∧rok (K+4^n) r'∧pv w false n a v∧v.wt+1≤4^n:=by
    intro a ha K r hr hK
    rw[ZG (by omega) (by omega)]
    obtain⟨q1,q2⟩:=g3.2 a ha
    obtain⟨v,r',e,k1,k2,k3,_⟩:=P.YAH h n a (depth-1) K r (hax a ha) q1 (by unfold ZCc at hmn;omega) (by omega) (by omega) (by omega) hr hK
    exact⟨v,r',e,k1,k2,k3⟩
   have loop:∀(m k:Nat) (z:List Int) (z33:Int) (out:List Value) (K:Nat),(ZQ w t c).length-k=m→out.length=k→rok K ⟨z,z33⟩→K+m*4^n≤1099511627776→
     (∀i (hi:i<out.length) (hi':i<(ZQ w t c).length),pv w false n (ZQ w t c)[i] out[i])→((out.map fun k=>1+k.wt).sum)≤k*4^n→k≤(ZQ w t c).length→
     ∃z' z33' out',F.f57 w T depth c (ZQ w t c) z z33 out k=some (z',z33',out')∧rok (K+m*4^n) ⟨z',z33'⟩∧out'.length=(ZQ w t c).length∧
      (∀i (hi:i<out'.length) (hi':i<(ZQ w t c).length),pv w false n (ZQ w t c)[i] out'[i])∧((out'.map fun k=>1+k.wt).sum)≤(ZQ w t c).length*4^n:=by
    intro m
    induction m with
    |zero=>
     intro k z z33 out K hm ho hr hK hp hs hk
     rw[F.f57,if_neg (by omega)]
     have:k=(ZQ w t c).length:=by omega
     subst this
     exact⟨z,z33,out,rfl,by simpa using hr,ho,hp,hs⟩
    |succ m ih=>
     intro k z z33 out K hm ho hr hK hp hs hkl
     have hk:k<(ZQ w t c).length:=by omega
     rw[F.f57,if_pos hk,List.getElem?_eq_getElem hk]
     simp only[Option.bind_eq_bind,Option.bind_some]
     have e1:(m+1)*4^n=m*4^n+4^n:=by rw[Nat.succ_mul]
     obtain⟨v,r',e,k1,k2,k3⟩:=kid _ (List.getElem_mem hk) K ⟨z,z33⟩ hr (by omega)
     rw[e];simp only[Option.bind_some]
     rw[if_pos (by omega)]
     have e2:(k+1)*4^n=k*4^n+4^n:=by rw[Nat.succ_mul]
     have key:=fun p1 p2=>ih (k+1) r'.f0 r'.f1 (out++[v]) (K+4^n) (by omega) (by simp[ho]) k1 (by omega) p1 p2 hk
     obtain⟨z',z33',out',q1,q2,q3⟩:=key (by
      intro i hi hi'
      by_cases hik:i<out.length
      ·rw[List.getElem_append_left hik];exact hp i hik hi'
      ·have:i=k:=by simp at hi;omega
       subst this
       rw[List.getElem_append_right (by omega)]
       simpa using k2) (by
      simp only[List.map_append,List.sum_append,List.map_cons,List.map_nil,List.sum_cons,List.sum_nil];omega)
     exact⟨z',z33',out',q1,q2.mono (by omega),q3⟩
   have m3:(ZQ w t c).length*4^n≤3*4^n:=Nat.mul_le_mul_right _ hal
   obtain⟨z',z33',out',q1,q2,q3,q4,q5⟩:=loop _ 0 r1.f0 r1.f1 [] (K+1) rfl rfl h1 (by simp only[Nat.sub_zero];omega) (fun i hi=>by simp at hi) (by simp) (by omega)
   rw[q1];simp only[Option.bind_some]
   refine⟨_,_,rfl,q2.mono (by simp only[Nat.sub_zero];omega),?_,?_,fun _ a ha=>(g3.2 a ha).1⟩
   ·refine .inr ⟨by simp,.inr ⟨hn,rfl,hcl,q3,fun i _ _ hi hi'=>q4 i hi' hi⟩⟩
   ·rw[ZNk];omega
theorem P.YAW {w:List Data}{T:List Int}(h:TOk w T)(n:Nat)(t:Ty)(depth:Int)(K:Nat)(r:ZE)(a1:tIx w t)(a2:ZB0 T t≠0)(a3:ZB0 T t≤n)(a4:depth≤n)(a5: -1000000+n≤depth)(a6:n≤12)(a7:rok K r)(a8:K+4^n≤1099511627776):
  ∃v r',F.f56 r w T t depth=some (v,r')∧rok (K+4^n) r'∧pv w false n t v∧v.wt+1≤4^n:=by
 obtain⟨v,r',e,k1,k2,k3,_⟩:=P.YAH h n t depth K r a1 a2 a3 a4 a5 a6 a7 a8
 exact⟨v,r',e,k1,k2,k3⟩
theorem ZKM {w:List Data}(hw:w∈ZAK):ZT w∧1≤w.length∧w.length≤2∧ZBE w∧∃T,F.f53 w=some T∧TOk w T:=by
 have hs:=ZCt hw
 have wok:F.f24 w=some true→ZT w:=fun h=>by rw[P.YJ w hs]at h;exact ZE2.1 (Option.some.inj h)
 simp only[ZAK,List.mem_cons,List.not_mem_nil,or_false]at hw
 rcases hw with rfl|rfl|rfl|rfl|rfl|rfl|rfl
 ·have:=wok (E.f24_le 100 _ _ (by kernel_rfl));exact⟨this,by decide,by decide,hs,_,ZLi,TOk.of this (by decide)⟩
 ·have:=wok (E.f24_le 100 _ _ (by kernel_rfl));exact⟨this,by decide,by decide,hs,_,ZLg,TOk.of this (by decide)⟩
 ·have:=wok (E.f24_le 100 _ _ (by kernel_rfl));exact⟨this,by decide,by decide,hs,_,ZLe,TOk.of this (by decide)⟩
 ·have:=wok (E.f24_le 100 _ _ (by kernel_rfl));exact⟨this,by decide,by decide,hs,_,ZLc,TOk.of this (by decide)⟩
 ·have:=wok (E.f24_le 100 _ _ (by kernel_rfl));exact⟨this,by decide,by decide,hs,_,ZLa,TOk.of this (by decide)⟩
 ·have:=wok (E.f24_le 100 _ _ (by kernel_rfl));exact⟨this,by decide,by decide,hs,_,ZLY,TOk.of this (by decide)⟩
 ·have:=wok (E.f24_le 100 _ _ (by kernel_rfl));exact⟨this,by decide,by decide,hs,_,ZLW,TOk.of this (by decide)⟩
theorem P.YAV {K:Nat}{r:ZE}(h:rok K r)(hK:K+300≤1099511627776):∃w t v r' T,F.f58 r=some (w,t,v,r')∧rok (K+300) r'∧w∈ZAK∧F.f53 w=some T∧TOk w T∧tIx w t∧t.index≤2∧0≤t.index∧ZB0 T t≠0∧pv w false 4 t v∧v.wt+1≤256∧(t.data= -1→t.index=0):=by
 unfold F.f58
 obtain⟨w,r1,e1,h1,hw⟩:=P.YAg h (by omega)
 obtain⟨hwo,hl1,hl2,hs,T,hT,hTo⟩:=ZKM hw
 obtain⟨p,r2,e2,h2,p0,p1,_⟩:=P.YG h1 (by omega) (w.length:Int)
 obtain⟨i,r3,e3,h3,hi⟩:=P.num h2 (by omega) [0,0,1,2] (by simp)
 obtain⟨d,r4,e4,h4,hd⟩:=P.num h3 (by omega) [3,2,4,1] (by simp)
 have hi:0≤i∧i≤2:=by simp at hi;omega
 have hd:1≤d∧d≤4:=by simp at hd;omega
 have p1:=p1 (by omega)
 have ht:tIx w ⟨p,i⟩:=.inr ⟨p0,p1,hi.1,by show i≤3;omega⟩
 rw[e1];simp only[Option.bind_eq_bind,Option.bind_some]
 rw[hT];simp only[Option.bind_some]
 rw[e2];simp only[Option.bind_some]
 rw[e3];simp only[Option.bind_some]
 rw[P.YC hTo ht,e4];simp only[Option.bind_some]
 split
 ·obtain⟨v,r',e,k1,k2,k3⟩:=P.YAW hTo 4 ⟨-1,0⟩ d _ r4 (.inl rfl) (by simp[ZB0]) (by simp[ZB0]) (by omega) (by omega) (by omega) h4 (by omega)
  rw[e]
  exact⟨w,⟨-1,0⟩,v,r',T,rfl,k1.mono (by omega),hw,hT,hTo,.inl rfl,by simp,by simp,by simp[ZB0],k2,k3,fun _=>rfl⟩
 ·next hne=>
  have:=hTo.dep ⟨p,i⟩
  obtain⟨v,r',e,k1,k2,k3⟩:=P.YAW hTo 4 ⟨p,i⟩ d _ r4 ht hne (by omega) (by omega) (by omega) (by omega) h4 (by omega)
  rw[e]
  exact⟨w,⟨p,i⟩,v,r',T,rfl,k1.mono (by omega),hw,hT,hTo,ht,hi.2,hi.1,hne,k2,k3,fun hh=>by have:p= -1:=hh;omega⟩
theorem ZNF {a b:List Int}{L:Nat→Option (Lo Bool Unit)}(hl:a.length=b.length)(hL:∀i,L i=if i<a.length then a[i]? >>=fun x=>b[i]? >>=fun y=>if x=y then L (i+1)else some (.ret false)else some (.go ())):
  L 0=some (if dec (a=b)=true then .go ()else .ret false):=by
 rw[ZIm (n:=a.length) (r:=false) (Q:=fun i=>∀(h:i<a.length) (h':i<b.length),a[i]=b[i]) (L:=L)
  (fun k hk=>by rw[hL,if_neg (by omega)])
  (fun k hk hq=>by
   rw[hL,if_pos hk,List.getElem?_eq_getElem hk,List.getElem?_eq_getElem (show k<b.length by omega)]
   simp only[Option.bind_eq_bind,Option.bind_some]
   rw[if_pos (hq hk (by omega))])
  (fun k hk hq=>by
   rw[hL,if_pos hk,List.getElem?_eq_getElem hk,List.getElem?_eq_getElem (show k<b.length by omega)]
   simp only[Option.bind_eq_bind,Option.bind_some]
   rw[if_neg fun h=>hq fun _ _=>h]) _ 0 rfl]
 have:(∀j,0≤j→j<a.length→∀(h:j<a.length) (h':j<b.length),a[j]=b[j])↔a=b:=
  ⟨fun h=>List.ext_getElem hl fun i hi hi'=>h i (by omega) hi hi hi',fun e=>by subst e;exact fun _ _ _ _ _=>rfl⟩
 rw[ZY this]
noncomputable def ZD1 (l:List VarType)(n:Int):Int:=match ZIP (fun x=>x.var=n) 0 l with
 |some j=>(j:Int)
 |none=> -1
theorem P.YF (l:List VarType)(n:Int):F.f79 l n=some (ZD1 l n):=by
 unfold F.f79 ZD1
 rw[ZP0 (a:=l) (p:=fun x=>x.var=n) (L:=F.f78 l n) (fun k hk=>by rw[F.f78,if_neg (by omega)])
  (fun k hk hp=>by rw[F.f78,if_pos hk,List.getElem?_eq_getElem hk];simp only[Option.bind_eq_bind,Option.bind_some];rw[if_neg hp])
  (fun k hk hp=>by rw[F.f78,if_pos hk,List.getElem?_eq_getElem hk];simp only[Option.bind_eq_bind,Option.bind_some];rw[if_pos hp]) _ 0 rfl,List.drop_zero]
 cases ZIP (fun x=>x.var=n) 0 l<;>rfl
theorem ZBy (l:List VarType)(n:Int):ZD1 l n= -1∨∃(j:Nat) (h:j<l.length),ZD1 l n=(j:Int)∧l[j].var=n∧∀i (hi:i<l.length),i<j→l[i].var≠n:=by
 unfold ZD1
 cases h:ZIP (fun x:VarType=>x.var=n) 0 l with
 |none=>exact .inl rfl
 |some j=>
  obtain⟨_,h2,h3,h4⟩:=ZDh h
  exact .inr ⟨j,h2,rfl,h3,h4⟩
theorem ZEM (l:List VarType)(j:Nat)(hj:j<l.length):ZD1 l l[j].var=(j:Int)↔∀i (hi:i<l.length),i<j→l[i].var≠l[j].var:=by
 constructor
 ·intro h
  rcases ZBy l l[j].var with q|⟨k,hk,q1,q2,q3⟩
  ·omega
  ·have:k=j:=by omega
   subst this;exact q3
 ·intro h
  unfold ZD1
  cases hf:ZIP (fun x:VarType=>x.var=l[j].var) 0 l with
  |none=>exact absurd rfl (ZDi hf l[j] (List.getElem_mem hj))
  |some k=>
   obtain⟨_,h2,h3,h4⟩:=ZDh hf
   show(k:Int)=j
   have:¬k<j:=fun hlt=>h k h2 hlt h3
   have:¬j<k:=fun hlt=>h4 j hj (by omega) rfl
   omega
theorem ZBa {w:List Data}(hw:ZT w){t:Ty}(ht:Za w t){c:Int}(h:c∈ZO w t):∀a,a∈ZQ w t c→Za w a:=by
 have hc:=(Zu hw (ZAP ht.1) (Zc h).1).2 _ (ZCo h).2
 have hn:=(Zc h).1
 intro a ha
 obtain⟨b,hb,rfl⟩:=List.mem_map.1 ha
 obtain⟨j,hj,rfl⟩:=List.getElem_of_mem hb
 have:=hc.2.2.2.2 j (by omega) hj
 have ht2:=ht.2
 rcases ht.1 with q|⟨q1,q2,q3,q4⟩
 ·exact absurd q.1 hn
 unfold ZG4
 rcases this with⟨p1,p2⟩|⟨p1,p2,p3,p4⟩
 ·rw[if_neg (by omega)];exact⟨.inl ⟨p1,p2⟩,by omega⟩
 ·split
  ·next e=>
   have hx:0≤(if(ZAC w t c).index=0 then t.index else(ZAC w t c).index)∧(if(ZAC w t c).index=0 then t.index else(ZAC w t c).index)≤3:=by
    split
    ·exact⟨ht2,q4⟩
    ·exact⟨hc.2.2.1,hc.2.2.2.1⟩
   exact⟨.inr ⟨p1,p2,by show -1≤(if(ZAC w t c).index=0 then t.index else(ZAC w t c).index);omega,hx.2⟩,hx.1⟩
  ·next e=>exact⟨.inr ⟨p1,p2,p3,p4⟩,by omega⟩
def ZEF (w:List Data)(t:Ty)(p:Pattern):Prop:=
 (p.op=1∧p.var=0∧p.n=0∧p.m=0∧p.ctor=0)∨
 (p.op=2∧0≤p.var∧p.var≤5∧p.n=0∧p.m=0∧p.ctor=0)∨
 (p.op=3∧p.var=0∧p.ctor=0∧t.data= -1∧0≤p.n∧p.n≤p.m∧p.m≤9)∨
 (p.op=4∧p.var=0∧p.n=0∧p.m=0∧p.ctor∈ZO w t)∨
 (p.op=5∧p.var=0∧p.n=0∧p.m=0∧p.ctor=0)∨
 (p.op=6∧0≤p.var∧p.var≤5∧p.n=0∧p.m=0∧p.ctor=0)
noncomputable def ZK (w:List Data)(t:Ty)(p:Pattern):List Ty:=if p.op=4 then ZQ w t p.ctor else if p.op=5 then[t,t]else if p.op=6 then[t]else[]
theorem P.Yy (w:List Data)(hw:ZT w)(t:Ty)(ht:tOk w t)(p:Pattern):F.f66 w t p=some (dec (ZEF w t p)):=by
 unfold F.f66
 rw[P.YD w hw t ht]
 simp only[Option.bind_eq_bind,Option.bind_some,P.Yz]
 have yes:ZEF w t p→some true=some (dec (ZEF w t p)):=fun h=>by rw[ZL h]
 have no:¬ZEF w t p→some false=some (dec (ZEF w t p)):=fun h=>by rw[ZH h]
 repeat' split
 all_goals first
  |(refine no fun h=> ?_;unfold ZEF at h;omega)
  |(refine yes ?_;unfold ZEF;omega)
  |skip
 ·rw[←ZAp];congr 1;refine ZY ?_;unfold ZEF;omega
 ·congr 1;refine ZY ⟨fun h=>.inr (.inr (.inr (.inl ⟨by assumption,by assumption,by assumption,by assumption,h⟩))),fun h=> ?_⟩
  unfold ZEF at h
  rcases h with h|h|h|h|h|h
  ·omega
  ·omega
  ·omega
  ·exact h.2.2.2.2
  ·omega
  ·omega
theorem P.YH (w:List Data)(hw:ZT w)(t:Ty)(ht:tOk w t)(p:Pattern)(h:ZEF w t p):F.f69 w t p=some (ZK w t p):=by
 unfold F.f69 ZK
 by_cases h4:p.op=4
 ·rw[if_pos h4,if_pos h4]
  have hc:p.ctor∈ZO w t:=by
   unfold ZEF at h
   rcases h with h|h|h|h|h|h
   ·omega
   ·omega
   ·omega
   ·exact h.2.2.2.2
   ·omega
   ·omega
  rw[P.YA w hw t ht _ hc];rfl
 ·rw[if_neg h4,if_neg h4]
  have k:F.f67 p.op=some (if p.op=5 then 2 else if p.op=6 then 1 else 0):=by
   unfold F.f67;split
   ·rfl
   ·split
    ·rfl
    ·rfl
  by_cases h5:p.op=5
  ·rw[if_pos h5]
   rw[if_pos h5]at k
   rw[F.f68,k]
   simp only[Option.bind_eq_bind,Option.bind_some]
   rw[if_pos (by omega),if_pos (by simp),if_pos (by omega),F.f68,k]
   simp only[Option.bind_eq_bind,Option.bind_some]
   rw[if_pos (by omega),if_pos (by simp),if_pos (by omega),F.f68,k]
   simp only[Option.bind_eq_bind,Option.bind_some]
   rw[if_neg (by omega)];simp
  ·rw[if_neg h5]
   rw[if_neg h5]at k
   by_cases h6:p.op=6
   ·rw[if_pos h6]
    rw[if_pos h6]at k
    rw[F.f68,k]
    simp only[Option.bind_eq_bind,Option.bind_some]
    rw[if_pos (by omega),if_pos (by simp),if_pos (by omega),F.f68,k]
    simp only[Option.bind_eq_bind,Option.bind_some]
    rw[if_neg (by omega)];simp
   ·rw[if_neg h6]
    rw[if_neg h6]at k
    rw[F.f68,k]
    simp only[Option.bind_eq_bind,Option.bind_some]
    rw[if_neg (by omega)];simp
theorem ZBY {w:List Data}(hw:ZT w){t:Ty}(ht:Za w t){p:Pattern}(h:ZEF w t p):∀a,a∈ZK w t p→Za w a:=by
 unfold ZK
 intro a ha
 split at ha
 ·next h4=>
  have hc:p.ctor∈ZO w t:=by
   unfold ZEF at h
   rcases h with h|h|h|h|h|h
   ·omega
   ·omega
   ·omega
   ·exact h.2.2.2.2
   ·omega
   ·omega
  exact ZBa hw ht hc a ha
 ·split at ha
  ·simp at ha;subst ha;exact ht
  ·split at ha
   ·simp at ha;subst ha;exact ht
   ·cases ha
def ZAX (w:List Data):Nat→Ty→Pattern→Prop
 |0,_,_=>False
 |d+1,t,p=>ZEF w t p∧p.kids.length=(ZK w t p).length∧∀i,0≤i→i<(ZK w t p).length→∀(h:i<(ZK w t p).length) (h':i<p.kids.length),ZAX w d (ZK w t p)[i] p.kids[i]
theorem P.YI (w:List Data)(hw:ZT w):∀(d:Nat) (t:Ty) (p:Pattern),Za w t→d≤10→F.f70 w t p d=some (dec (ZAX w d t p))
 |0,t,p,ht,hd=>by rw[F.f70,if_pos (by omega),ZH (by simp[ZAX])]
 |d+1,t,p,ht,hd=>by
  rw[F.f70,if_neg (by omega),P.Yy w hw t (ZAP ht.1)]
  simp only[Option.bind_eq_bind,Option.bind_some]
  by_cases ho:ZEF w t p
  ·rw[if_pos (ZL ho),P.YH w hw t (ZAP ht.1) p ho]
   simp only[Option.bind_some]
   have hts:=ZBY hw ht ho
   by_cases h4:p.kids.length=(ZK w t p).length
   ·rw[if_pos h4,ZIm (n:=(ZK w t p).length) (r:=false) (Q:=fun i=>∀(h:i<(ZK w t p).length) (h':i<p.kids.length),ZAX w d (ZK w t p)[i] p.kids[i]) (L:=F.f71 w p ((d+1:Nat):Int) (ZK w t p))
     (fun k hk=>by rw[F.f71,if_neg (by omega)])
     (fun k hk hq=>by
      have hk':k<p.kids.length:=by omega
      rw[F.f71,if_pos hk,List.getElem?_eq_getElem hk,List.getElem?_eq_getElem hk']
      simp only[Option.bind_eq_bind,Option.bind_some]
      rw[ZG (by omega) (by omega),show((d+1:Nat):Int) -1=(d:Int)from by omega,P.YI w hw d _ _ (hts _ (List.getElem_mem hk)) (by omega)]
      simp only[Option.bind_some]
      rw[if_pos (ZL (hq hk hk'))])
     (fun k hk hq=>by
      have hk':k<p.kids.length:=by omega
      rw[F.f71,if_pos hk,List.getElem?_eq_getElem hk,List.getElem?_eq_getElem hk']
      simp only[Option.bind_eq_bind,Option.bind_some]
      rw[ZG (by omega) (by omega),show((d+1:Nat):Int) -1=(d:Int)from by omega,P.YI w hw d _ _ (hts _ (List.getElem_mem hk)) (by omega)]
      simp only[Option.bind_some]
      rw[if_neg (by rw[ZH fun h=>hq fun _ _=>h];simp)]) _ 0 rfl]
    simp only[Option.bind_some]
    by_cases hall:∀i,0≤i→i<(ZK w t p).length→∀(h:i<(ZK w t p).length) (h':i<p.kids.length),ZAX w d (ZK w t p)[i] p.kids[i]
    ·rw[if_pos (ZL hall),ZL ⟨ho,h4,hall⟩]
    ·rw[if_neg (by rw[ZH hall];simp),ZH fun h=>hall h.2.2]
   ·rw[if_neg h4,ZH fun h=>h4 h.2.1]
  ·rw[if_neg (by rw[ZH ho];simp),ZH fun h=>ho h.1]
theorem P.YAL (v:Pattern)(hv:v.wt≤1048576):∀(most:Nat),most≤60→∃c:Nat,F.f72 v most=some (c:Int)∧1≤c∧c≤1+v.wt∧(1+v.wt≤most→c=1+v.wt)∧(most<1+v.wt→most<c):=by
 induction v using Pattern.ind with
 |_ v ih=>
  intro most hm
  have hw:=v.wt_eq
  have key:∀(m i:Nat) (n:Nat),v.kids.length-i=m→1≤n→n+((v.kids.drop i).map fun k=>1+k.wt).sum≤1+v.wt→
    ∃c:Nat,F.f73 v most n i=some (c:Int)∧n≤c∧c≤n+((v.kids.drop i).map fun k=>1+k.wt).sum∧(n+((v.kids.drop i).map fun k=>1+k.wt).sum≤most→c=n+((v.kids.drop i).map fun k=>1+k.wt).sum)∧(most<n+((v.kids.drop i).map fun k=>1+k.wt).sum→most<c):=by
   intro m
   induction m with
   |zero=>
    intro i n hmi hn hb
    rw[F.f73,if_neg (by omega),List.drop_eq_nil_of_le (by omega)]
    exact⟨n,rfl,by omega,by simp,by simp,by simp⟩
   |succ m ih2=>
    intro i n hmi hn hb
    have hi:i<v.kids.length:=by omega
    rw[List.drop_eq_getElem_cons hi]at hb ⊢
    simp only[List.map_cons,List.sum_cons]at hb ⊢
    rw[F.f73,if_pos hi]
    by_cases hle:n≤most
    ·rw[if_pos (by omega),List.getElem?_eq_getElem hi]
     simp only[Option.bind_eq_bind,Option.bind_some]
     have hk:v.kids[i].wt≤1048576:=by omega
     obtain⟨c,h1,h2,h3,h4,h5⟩:=ih v.kids[i] (List.getElem_mem hi) hk (most-n) (by omega)
     rw[ZG (by omega) (by omega),show((most:Int) - (n:Int))=((most-n:Nat):Int)from by omega,h1]
     simp only[Option.bind_some]
     rw[ZG (by omega) (by omega),show((n:Int)+(c:Int))=((n+c:Nat):Int)from by omega]
     obtain⟨c',g1,g2,g3,g4,g5⟩:=ih2 (i+1) (n+c) (by omega) (by omega) (by omega)
     refine⟨c',g1,by omega,by omega,fun h=> ?_,fun h=> ?_⟩
     ·have:=h4 (by omega)
      have:=g4 (by omega)
      omega
     ·by_cases hx:1+v.kids[i].wt≤most-n
      ·have:=h4 hx
       exact g5 (by omega)
      ·have:=h5 (by omega)
       omega
    ·rw[if_neg (by omega)]
     exact⟨n,rfl,by omega,by omega,fun h=>by omega,fun h=>by omega⟩
  have hs:((v.kids.drop 0).map fun k=>1+k.wt).sum=v.wt:=by
   rw[List.drop_zero,hw]
   have:∀l:List Pattern,(l.map fun k=>1+k.wt).sum=wtL Pattern.wt l:=by
    intro l
    induction l with
    |nil=>rfl
    |cons a r ih=>simp[ih]
   exact this _
  obtain⟨c,h1,h2,h3,h4,h5⟩:=key _ 0 1 rfl (by omega) (by omega)
  rw[hs]at h3 h4 h5
  unfold F.f72
  have h1':F.f73 v most 1 0=some (c:Int):=h1
  rw[h1']
  exact⟨c,rfl,by omega,h3,h4,h5⟩
theorem ZKH (v:Pattern):v.wt=((v.kids.drop 0).map fun k=>1+k.wt).sum:=by
 rw[List.drop_zero,v.wt_eq]
 have:∀l:List Pattern,(l.map fun k=>1+k.wt).sum=wtL Pattern.wt l:=by
  intro l
  induction l with
  |nil=>rfl
  |cons a r ih=>simp[ih]
 exact(this _).symm
noncomputable def ZAG (w:List Data):Nat→Ty→Pattern→List VarType
 |0,_,_=>[]
 |d+1,t,p=>(if p.op=2∨p.op=6 then[⟨p.var,t⟩]else[])++(((ZK w t p).zip p.kids).take (if p.op=5 then 1 else p.kids.length)).flatMap fun x=>ZAG w d x.1 x.2
theorem ZFj {f:Ty×Pattern→List VarType}(hf:∀x,(f x).length≤1+x.2.wt):∀(ts:List Ty) (ks:List Pattern) (n:Nat),(((ts.zip ks).take n).flatMap f).length≤wtL Pattern.wt ks
 | [],ks,n=>by simp
 |t::ts,[],n=>by simp
 |t::ts,k::ks,0=>by simp
 |t::ts,k::ks,n+1=>by
  have h1:=ZFj hf ts ks n
  have h2:=hf (t,k)
  simp only[List.zip_cons_cons,List.take_succ_cons,List.flatMap_cons,List.length_append,ZC7]at h1 h2 ⊢
  omega
theorem ZDQ (w:List Data):∀(d:Nat) (t:Ty) (p:Pattern),(ZAG w d t p).length≤1+p.wt
 |0,t,p=>by simp[ZAG]
 |d+1,t,p=>by
  have:=ZFj (f:=fun x=>ZAG w d x.1 x.2) (fun x=>ZDQ w d x.1 x.2) (ZK w t p) p.kids (if p.op=5 then 1 else p.kids.length)
  rw[ZAG,List.length_append,p.wt_eq]
  have h1:(if p.op=2∨p.op=6 then[(⟨p.var,t⟩:VarType)]else[]).length≤1:=by split<;>simp
  omega
theorem ZDB {w:List Data}{p:Pattern}{ts:List Ty}(hl:p.kids.length=ts.length)(h5:p.op≠5){f:Ty×Pattern→List VarType}{L:List VarType→Nat→Option (List VarType)}
  (hL:∀out i,L out i=if i<ts.length then(if i=0 then ts[i]? >>=fun x=>p.kids[i]? >>=fun y=>F.f74 out w x y>>=fun v=>L v (i+1)else(if p.op=5 then some out else ts[i]? >>=fun x=>p.kids[i]? >>=fun y=>F.f74 out w x y>>=fun v=>L v (i+1)))else some out)
  (hf:∀x:Ty×Pattern,(f x).length≤1+x.2.wt)
  (ih:∀i (h:i<ts.length) (h':i<p.kids.length) (out:List VarType),out.length+(1+p.kids[i].wt)≤67108864→F.f74 out w ts[i] p.kids[i]=some (out++f (ts[i],p.kids[i]))):
  ∀(m i:Nat) (out:List VarType),ts.length-i=m→out.length+((p.kids.drop i).map fun k=>1+k.wt).sum≤67108864→L out i=some (out++((ts.zip p.kids).drop i).flatMap f):=by
 intro m
 induction m with
 |zero=>
  intro i out hm hb
  rw[hL,if_neg (by omega),List.drop_eq_nil_of_le (by simp;omega)];simp
 |succ m ihm=>
  intro i out hm hb
  have hi:i<ts.length:=by omega
  have hi':i<p.kids.length:=by omega
  rw[List.drop_eq_getElem_cons hi']at hb
  simp only[List.map_cons,List.sum_cons]at hb
  have e:(ts[i]? >>=fun x=>p.kids[i]? >>=fun y=>F.f74 out w x y>>=fun v=>L v (i+1))=some (out++((ts.zip p.kids).drop i).flatMap f):=by
   rw[List.getElem?_eq_getElem hi,List.getElem?_eq_getElem hi']
   simp only[Option.bind_eq_bind,Option.bind_some]
   rw[ih i hi hi' out (by omega)]
   simp only[Option.bind_some]
   have:=hf (ts[i],p.kids[i])
   simp only at this
   rw[ihm (i+1) _ (by omega) (by rw[List.length_append];omega),List.drop_eq_getElem_cons (l:=ts.zip p.kids) (i:=i) (by simp;omega)]
   simp
  rw[hL,if_pos hi,if_neg h5,e]
  split<;>rfl
theorem ZA0 {w:List Data}{t:Ty}{p:Pattern}(h:ZEF w t p)(h5:p.op=5):ZK w t p=[t,t]:=by unfold ZK;rw[if_neg (by omega),if_pos h5]
theorem P.YB (w:List Data)(hw:ZT w):∀(d:Nat) (t:Ty) (p:Pattern) (out:List VarType),Za w t→ZAX w d t p→out.length+(1+p.wt)≤67108864→F.f74 out w t p=some (out++ZAG w d t p)
 |0,t,p,out,ht,hs,hb=>hs.elim
 |d+1,t,p,out,ht,hs,hb=>by
  obtain⟨ho,hl,hk⟩:=hs
  have hts:=ZBY hw ht ho
  have hsum:=ZKH p
  have ih:∀i (h:i<(ZK w t p).length) (h':i<p.kids.length) (out:List VarType),out.length+(1+p.kids[i].wt)≤67108864→F.f74 out w (ZK w t p)[i] p.kids[i]=some (out++(fun x:Ty×Pattern=>ZAG w d x.1 x.2) ((ZK w t p)[i],p.kids[i])):=
   fun i h h' out hb=>P.YB w hw d _ _ out (hts _ (List.getElem_mem h)) (hk i (by omega) h h h') hb
  have hf:∀x:Ty×Pattern,((fun x:Ty×Pattern=>ZAG w d x.1 x.2) x).length≤1+x.2.wt:=fun x=>ZDQ w d x.1 x.2
  have full:∀n,p.kids.length≤n→((ZK w t p).zip p.kids).take n=(ZK w t p).zip p.kids:=fun n hn=>List.take_of_length_le (by simp;omega)
  rw[F.f74,P.YH w hw t (ZAP ht.1) p ho]
  simp only[Option.bind_eq_bind,Option.bind_some]
  by_cases h2:p.op=2
  ·rw[if_pos h2,if_pos (by omega),ZDB (f:=fun x=>ZAG w d x.1 x.2) (L:=F.f77 w p (ZK w t p)) hl (by omega) (fun out i=>by rw[F.f77]) hf ih _ 0 _ rfl (by simp at hsum ⊢;omega)]
   simp only[Option.bind_some]
   rw[ZAG,if_pos (.inl h2),if_neg (by omega),full _ (Nat.le_refl _)];simp
  ·rw[if_neg h2]
   by_cases h6:p.op=6
   ·rw[if_pos h6,if_pos (by omega),ZDB (f:=fun x=>ZAG w d x.1 x.2) (L:=F.f75 w p (ZK w t p)) hl (by omega) (fun out i=>by rw[F.f75]) hf ih _ 0 _ rfl (by simp at hsum ⊢;omega)]
    simp only[Option.bind_some]
    rw[ZAG,if_pos (.inr h6),if_neg (by omega),full _ (Nat.le_refl _)];simp
   ·rw[if_neg h6]
    by_cases h5:p.op=5
    ·have et:=ZA0 ho h5
     rw[et]at hl
     have h0:0<p.kids.length:=by rw[hl];simp
     have h0':0<(ZK w t p).length:=by rw[et];simp
     have hw0:1+p.kids[0].wt≤p.wt:=by
      rw[hsum,List.drop_zero]
      obtain⟨a,r,e⟩:=List.exists_cons_of_length_pos h0
      simp[e]
     have e0:=ih 0 h0' h0 out (by omega)
     rw[F.f76,if_pos h0',if_pos rfl,List.getElem?_eq_getElem h0',List.getElem?_eq_getElem h0]
     simp only[Option.bind_eq_bind,Option.bind_some]
     rw[e0]
     simp only[Option.bind_some]
     rw[F.f76,if_pos (by rw[et];simp),if_neg (by omega),if_pos h5]
     simp only[Option.bind_some]
     rw[ZAG,if_neg (by omega),if_pos h5]
     have e1:((ZK w t p).zip p.kids).take 1=[((ZK w t p)[0],p.kids[0])]:=by
      obtain⟨a,r,e⟩:=List.exists_cons_of_length_pos h0
      obtain⟨b,r',e'⟩:=List.exists_cons_of_length_pos h0'
      simp[e,e']
     rw[e1];simp
    ·rw[ZDB (f:=fun x=>ZAG w d x.1 x.2) (L:=F.f76 w p (ZK w t p)) hl h5 (fun out i=>by rw[F.f76]) hf ih _ 0 _ rfl (by simp at hsum ⊢;omega)]
     simp only[Option.bind_some]
     rw[ZAG,if_neg (by omega),if_neg h5,full _ (Nat.le_refl _)];simp
def ZKm (l:List VarType):Prop:=(l.map VarType.var).Nodup
def ZMB (a b:List VarType):Prop:=a.length=b.length∧∀x,x∈a→x∈b
theorem ZEs (l:List VarType):ZKm l↔∀i j (hi:i<l.length) (hj:j<l.length),i<j→l[i].var≠l[j].var:=by
 unfold ZKm List.Nodup
 rw[List.pairwise_map,List.pairwise_iff_getElem]
theorem ZEN {l:List VarType}{n:Int}(h:ZD1 l n= -1):∀x,x∈l→x.var≠n:=by
 unfold ZD1 at h
 cases hf:ZIP (fun x:VarType=>x.var=n) 0 l with
 |none=>exact ZDi hf
 |some j=>rw[hf]at h;simp only at h;omega
theorem ZNl {a b:VarType}(h:a.var=b.var)(h2:eq2 (a.type.data,a.type.index) (b.type.data,b.type.index)):a=b:=by
 obtain⟨v,d,i⟩:=a
 obtain⟨v',d',i'⟩:=b
 simp only[eq2]at h h2
 obtain⟨rfl,rfl⟩:=h2
 subst h;rfl
theorem P.YS (l:List VarType):F.f82 l 0=some (if dec (ZKm l)=true then .go ()else .ret false):=by
 rw[ZIm (n:=l.length) (r:=false) (Q:=fun j=>∀h:j<l.length,ZD1 l l[j].var=(j:Int)) (L:=F.f82 l) (fun k hk=>by rw[F.f82,if_neg (by omega)])
  (fun k hk hq=>by
   rw[F.f82,if_pos hk,List.getElem?_eq_getElem hk]
   simp only[Option.bind_eq_bind,Option.bind_some,P.YF]
   rw[if_pos (hq hk)])
  (fun k hk hq=>by
   rw[F.f82,if_pos hk,List.getElem?_eq_getElem hk]
   simp only[Option.bind_eq_bind,Option.bind_some,P.YF]
   rw[if_neg fun h=>hq fun _=>h]) _ 0 rfl]
 congr 2
 rw[ZY]
 rw[ZEs]
 constructor
 ·intro h i j hi hj hij
  exact(ZEM l j hj).1 (h j (by omega) hj hj) i hi hij
 ·intro h j _ _ hj
  exact(ZEM l j hj).2 fun i hi hij=>h i j hi hj hij
theorem P.Ym (a b:List VarType)(hb:ZKm b):F.f81 a b=some (dec (ZMB a b)):=by
 unfold F.f81
 have step:∀k (hk:k<a.length),F.f80 a b k=if dec (a[k]∈b)=true then F.f80 a b (k+1)else some (.ret false):=by
  intro k hk
  rw[F.f80,if_pos hk,List.getElem?_eq_getElem hk]
  simp only[Option.bind_eq_bind,Option.bind_some,P.YF]
  rcases ZBy b a[k].var with h|⟨j,hj,h1,h2,h3⟩
  ·rw[if_pos (by omega),if_neg]
   rw[ZH fun hm=>ZEN h _ hm rfl];simp
  ·rw[if_neg (by omega),h1,ZJ4,List.getElem?_eq_getElem hj]
   simp only[Option.bind_some]
   by_cases he:eq2 (b[j].type.data,b[j].type.index) (a[k].type.data,a[k].type.index)
   ·rw[if_pos (ZL he),if_pos (ZL (by rw[←ZNl h2 he];exact List.getElem_mem hj))]
   ·rw[if_neg (by rw[ZH he];simp),if_neg]
    rw[ZH fun hm=> ?_];· simp
    obtain⟨i,hi,e⟩:=List.getElem_of_mem hm
    have hij:i=j:=by
     rw[ZEs]at hb
     rcases Nat.lt_trichotomy i j with hlt|heq|hlt
     ·exact absurd (by rw[e,h2]) (hb i j hi hj hlt)
     ·exact heq
     ·exact absurd (by rw[e,h2]) (hb j i hj hi hlt)
    subst hij
    exact he (by rw[e];exact⟨rfl,rfl⟩)
 rw[ZIm (n:=a.length) (r:=false) (Q:=fun j=>∀h:j<a.length,a[j]∈b) (L:=F.f80 a b) (fun k hk=>by rw[F.f80,if_neg (by omega)])
  (fun k hk hq=>by rw[step k hk,if_pos (ZL (hq hk))])
  (fun k hk hq=>by rw[step k hk,if_neg (by rw[ZH fun h=>hq fun _=>h];simp)]) _ 0 rfl]
 simp only[Option.bind_eq_bind,Option.bind_some]
 by_cases h:∀j,0≤j→j<a.length→∀h:j<a.length,a[j]∈b
 ·rw[if_pos (ZL h),←ZAp]
  have hx:∀x,x∈a→x∈b:=fun x hx=>by obtain⟨j,hj,e⟩:=List.getElem_of_mem hx;rw[←e];exact h j (by omega) hj hj
  show some (dec (a.length=b.length))=some (dec (ZMB a b))
  congr 1;exact ZY ⟨fun hl=>⟨hl,hx⟩,fun hs=>hs.1⟩
 ·rw[if_neg (by rw[ZH h];simp),ZH fun hs=>h fun j _ hj _=>hs.2 _ (List.getElem_mem hj)]
def ZMX (w:List Data):Nat→Ty→Pattern→Prop
 |0,_,_=>False
 |d+1,t,p=>(∀i,0≤i→i<(ZK w t p).length→∀(h:i<(ZK w t p).length) (h':i<p.kids.length),ZMX w d (ZK w t p)[i] p.kids[i])∧
   if p.op=5 then(∀(h0:0<p.kids.length) (h1:1<p.kids.length),ZMB (ZAG w d t p.kids[0]) (ZAG w d t p.kids[1]))else ZKm (ZAG w (d+1) t p)
theorem ZKe {w:List Data}{d:Nat}{t:Ty}{p:Pattern}(ho:ZEF w t p)(h5:p.op=5)(h0:0<p.kids.length):ZAG w (d+1) t p=ZAG w d t p.kids[0]:=by
 have et:=ZA0 ho h5
 rw[ZAG,if_neg (by omega),if_pos h5,et]
 obtain⟨a,r,e⟩:=List.exists_cons_of_length_pos h0
 simp[e]
theorem ZEp {w:List Data}:∀{d:Nat} {t:Ty} {p:Pattern},ZAX w d t p→ZMX w d t p→ZKm (ZAG w d t p)
 |0,t,p,hs,hl=>hs.elim
 |d+1,t,p,hs,hl=>by
  obtain⟨ho,hlen,hk⟩:=hs
  obtain⟨h1,h2⟩:=hl
  by_cases h5:p.op=5
  ·have et:=ZA0 ho h5
   have h0:0<p.kids.length:=by rw[hlen,et];simp
   have h0':0<(ZK w t p).length:=by rw[et];simp
   rw[ZKe ho h5 h0]
   have e0:(ZK w t p)[0]=t:=by simp[et]
   have a:=hk 0 (Nat.le_refl _) h0' h0' h0
   have b:=h1 0 (Nat.le_refl _) h0' h0' h0
   rw[e0]at a b
   exact ZEp a b
  ·rw[if_neg h5]at h2;exact h2
theorem P.YN (w:List Data)(hw:ZT w):∀(d:Nat) (t:Ty) (p:Pattern),Za w t→ZAX w d t p→p.wt≤1048576→F.f83 w t p=some (dec (ZMX w d t p))
 |0,t,p,ht,hs,hb=>hs.elim
 |d+1,t,p,ht,hs,hb=>by
  have hs':=hs
  obtain⟨ho,hl,hk⟩:=hs
  have hts:=ZBY hw ht ho
  have hsum:=p.wt_eq
  have hkw:∀k (h:k<p.kids.length),1+p.kids[k].wt≤p.wt:=fun k h=>by have:=ZAE Pattern.wt (List.getElem_mem h);omega
  have ih:∀k (h:k<(ZK w t p).length) (h':k<p.kids.length),F.f83 w (ZK w t p)[k] p.kids[k]=some (dec (ZMX w d (ZK w t p)[k] p.kids[k])):=
   fun k h h'=>P.YN w hw d _ _ (hts _ (List.getElem_mem h)) (hk k (by omega) h h h') (by have:=hkw k h';omega)
  rw[F.f83,P.YH w hw t (ZAP ht.1) p ho]
  simp only[Option.bind_eq_bind,Option.bind_some]
  rw[ZIm (n:=(ZK w t p).length) (r:=false) (Q:=fun i=>∀(h:i<(ZK w t p).length) (h':i<p.kids.length),ZMX w d (ZK w t p)[i] p.kids[i]) (L:=F.f84 w t p (ZK w t p))
   (fun k hk=>by rw[F.f84,if_neg (by omega)])
   (fun k hk hq=>by
    have hk':k<p.kids.length:=by omega
    rw[F.f84,if_pos hk,List.getElem?_eq_getElem hk,List.getElem?_eq_getElem hk']
    simp only[Option.bind_eq_bind,Option.bind_some]
    rw[ih k hk hk']
    simp only[Option.bind_some]
    rw[if_pos (ZL (hq hk hk'))])
   (fun k hk hq=>by
    have hk':k<p.kids.length:=by omega
    rw[F.f84,if_pos hk,List.getElem?_eq_getElem hk,List.getElem?_eq_getElem hk']
    simp only[Option.bind_eq_bind,Option.bind_some]
    rw[ih k hk hk']
    simp only[Option.bind_some]
    rw[if_neg (by rw[ZH fun h=>hq fun _ _=>h];simp)]) _ 0 rfl]
  simp only[Option.bind_some]
  by_cases hall:∀i,0≤i→i<(ZK w t p).length→∀(h:i<(ZK w t p).length) (h':i<p.kids.length),ZMX w d (ZK w t p)[i] p.kids[i]
  ·rw[if_pos (ZL hall)]
   simp only
   by_cases h5:p.op=5
   ·have et:=ZA0 ho h5
    have h0:0<p.kids.length:=by rw[hl,et];simp
    have h1:1<p.kids.length:=by rw[hl,et];simp
    have h0':0<(ZK w t p).length:=by rw[et];simp
    have h1':1<(ZK w t p).length:=by rw[et];simp
    have e0:(ZK w t p)[0]=t:=by simp[et]
    have e1:(ZK w t p)[1]=t:=by simp[et]
    have a0:=hk 0 (Nat.le_refl _) h0' h0' h0
    have a1:=hk 1 (by omega) h1' h1' h1
    have b1:=hall 1 (by omega) h1' h1' h1
    rw[e0]at a0
    rw[e1]at a1 b1
    rw[if_pos h5,List.getElem?_eq_getElem h0,List.getElem?_eq_getElem h1]
    simp only[Option.bind_some]
    rw[P.YB w hw d t _ [] ht a0 (by have:=hkw 0 h0;simp;omega),P.YB w hw d t _ [] ht a1 (by have:=hkw 1 h1;simp;omega)]
    simp only[Option.bind_some,List.nil_append]
    rw[P.Ym _ _ (ZEp a1 b1)]
    simp only[Option.bind_some]
    congr 1
    refine ZY ⟨fun h=>⟨hall,?_⟩,fun h=> ?_⟩
    ·rw[if_pos h5];exact fun _ _=>h
    ·have:=h.2;rw[if_pos h5]at this;exact this h0 h1
   ·rw[if_neg h5,P.YB w hw (d+1) t p [] ht hs' (by simp;omega)]
    simp only[Option.bind_some,List.nil_append]
    rw[P.YS]
    simp only[Option.bind_some]
    by_cases hn:ZKm (ZAG w (d+1) t p)
    ·rw[if_pos (ZL hn),ZL ⟨hall,by rw[if_neg h5];exact hn⟩]
    ·rw[if_neg (by rw[ZH hn];simp),ZH fun h=>hn (by have:=h.2;rwa[if_neg h5]at this)]
  ·rw[if_neg (by rw[ZH hall];simp),ZH fun h=>hall h.1]
theorem ZHA {f:Ty×Pattern→List VarType}{x:VarType}:∀{ts:List Ty} {ks:List Pattern} {n:Nat},x∈(((ts.zip ks).take n).flatMap f)→∃i,∃(h:i<ts.length) (h':i<ks.length),x∈f (ts[i],ks[i])
 | [],ks,n,h=>by simp at h
 |t::ts,[],n,h=>by simp at h
 |t::ts,k::ks,0,h=>by simp at h
 |t::ts,k::ks,n+1,h=>by
  simp only[List.zip_cons_cons,List.take_succ_cons,List.flatMap_cons,List.mem_append]at h
  rcases h with h|h
  ·exact⟨0,by simp,by simp,by simpa using h⟩
  ·obtain⟨i,h1,h2,h3⟩:=ZHA h
   exact⟨i+1,by simpa using h1,by simpa using h2,by simpa using h3⟩
theorem ZHM {w:List Data}(hw:ZT w):∀{d:Nat} {t:Ty} {p:Pattern},Za w t→ZAX w d t p→∀x,x∈ZAG w d t p→0≤x.var∧x.var≤5∧Za w x.type
 |0,t,p,ht,hs=>hs.elim
 |d+1,t,p,ht,hs=>by
  obtain⟨ho,hl,hk⟩:=hs
  intro x hx
  rw[ZAG,List.mem_append]at hx
  rcases hx with hx|hx
  ·split at hx
   ·next h=>
    simp at hx;subst hx
    unfold ZEF at ho
    refine⟨?_,?_,ht⟩<;>simp only<;>omega
   ·cases hx
  ·obtain⟨i,h,h',hm⟩:=ZHA hx
   exact ZHM hw (ZBY hw ht ho _ (List.getElem_mem h)) (hk i (by omega) h h h') x hm
def ZDN (w:List Data)(t:Ty)(p:Pattern):Prop:=ZAX w 10 t p∧ZMX w 10 t p∧1+p.wt≤60
theorem P.Yj (w:List Data)(hw:ZT w)(t:Ty)(ht:Za w t)(p:Pattern)(hp:p.wt≤1048576):F.f85 w t p=some (dec (ZDN w t p)):=by
 unfold F.f85
 have e10:F.f70 w t p 10=some (dec (ZAX w 10 t p)):=P.YI w hw 10 t p ht (by omega)
 rw[e10]
 simp only[Option.bind_eq_bind,Option.bind_some]
 by_cases h1:ZAX w 10 t p
 ·rw[if_pos (ZL h1)]
  obtain⟨c,g1,g2,g3,g4,g5⟩:=P.YAL p hp 60 (by omega)
  have g1':F.f72 p 60=some (c:Int):=g1
  rw[g1']
  simp only[Option.bind_some]
  by_cases hc:1+p.wt≤60
  ·rw[if_pos (by have:=g4 hc;omega),P.YN w hw 10 t p ht h1 hp]
   simp only[Option.bind_some]
   congr 1;exact ZY ⟨fun h=>⟨h1,h,hc⟩,fun h=>h.2.1⟩
  ·rw[if_neg (by have:=g5 (by omega);omega),ZH fun h=>hc h.2.2]
 ·rw[if_neg (by rw[ZH h1];simp),ZH fun h=>h1 h.1]
def gOk (g:Guard)(vs:List VarType):Prop:=(g.op=0∧g.var=0∧g.n=0)∨((g.op=1∨g.op=2)∧0≤g.n∧g.n≤9∧(⟨g.var,⟨-1,0⟩⟩:VarType)∈vs)
theorem P.Yl (w:List Data)(g:Guard)(vs:List VarType)(hn:ZKm vs)(ht:∀x,x∈vs→Za w x.type):F.f102 g vs=some (dec (gOk g vs)):=by
 unfold F.f102
 have key:g.op=1∨g.op=2→(if g.n<0 then some false else if 9<g.n then some false else(F.f79 vs g.var)>>=fun v21=>if 0≤v21 then(at? vs v21)>>=fun x25=>some (decide (x25.type.data=(-1)))else some false)=some (dec (gOk g vs)):=by
  intro hop
  by_cases a1:g.n<0
  ·rw[if_pos a1,ZH];rintro(h|h)<;>omega
  rw[if_neg a1]
  by_cases a2:9<g.n
  ·rw[if_pos a2,ZH];rintro(h|h)<;>omega
  rw[if_neg a2,P.YF]
  simp only[Option.bind_eq_bind,Option.bind_some]
  rcases ZBy vs g.var with h|⟨j,hj,h1,h2,h3⟩
  ·rw[if_neg (by omega),ZH]
   rintro(h'|h')
   ·omega
   ·exact ZEN h _ h'.2.2.2 rfl
  ·rw[if_pos (by omega),h1,ZJ4,List.getElem?_eq_getElem hj]
   simp only[Option.bind_some]
   rw[←ZAp];congr 1
   refine ZY ⟨fun h=>.inr ⟨hop,by omega,by omega,?_⟩,fun h=> ?_⟩
   ·have hty:=ht _ (List.getElem_mem hj)
    have hi:vs[j].type.index=0:=by unfold Za ZE9 at hty;omega
    have:(⟨g.var,⟨-1,0⟩⟩:VarType)=vs[j]:=ZNl (by simp[h2]) ⟨by simp[h],by simp[hi]⟩
    rw[this];exact List.getElem_mem hj
   ·rcases h with h|h
    ·omega
    ·obtain⟨i,hi,e⟩:=List.getElem_of_mem h.2.2.2
     have hij:i=j:=by
      rw[ZEs]at hn
      rcases Nat.lt_trichotomy i j with hlt|heq|hlt
      ·exact absurd (by rw[e,h2]) (hn i j hi hj hlt)
      ·exact heq
      ·exact absurd (by rw[e,h2]) (hn j i hj hi hlt)
     subst hij
     rw[e]
 by_cases h0:g.op=0
 ·rw[if_pos h0]
  by_cases h1:g.var=0
  ·rw[if_pos h1,←ZAp];congr 1;refine ZY ⟨fun h=>.inl ⟨h0,h1,h⟩,fun h=> ?_⟩
   rcases h with h|h
   ·exact h.2.2
   ·omega
  ·rw[if_neg h1,ZH];rintro(h|h)<;>omega
 ·rw[if_neg h0]
  by_cases h1:g.op=1
  ·rw[if_pos h1];exact key (.inl h1)
  ·rw[if_neg h1]
   by_cases h2:g.op=2
   ·rw[if_pos h2];exact key (.inr h2)
   ·rw[if_neg h2,ZH];rintro(h|h)<;>omega
def ZNf (w:List Data)(t:Ty)(c:Clause):Prop:=ZDN w t c.pat∧gOk c.guard (ZAG w 10 t c.pat)
theorem P.YAJ (w:List Data)(hw:ZT w)(t:Ty)(ht:Za w t)(c:Clause)(hp:c.pat.wt≤1048576):F.f103 w t c=some (dec (ZNf w t c)):=by
 unfold F.f103
 rw[P.Yj w hw t ht _ hp]
 simp only[Option.bind_eq_bind,Option.bind_some]
 by_cases h:ZDN w t c.pat
 ·rw[if_pos (ZL h),P.YB w hw 10 t c.pat [] ht h.1 (by simp;omega)]
  simp only[Option.bind_some,List.nil_append]
  rw[P.Yl w _ _ (ZEp h.1 h.2.1) (fun x hx=>(ZHM hw ht h.1 x hx).2.2)]
  simp only[Option.bind_some]
  congr 1;exact ZY ⟨fun g=>⟨h,g⟩,fun g=>g.2⟩
 ·rw[if_neg (by rw[ZH h];simp),ZH fun g=>h g.1]
def ZQJ (v:Int):Nat→Pattern→Prop
 |0,_=>False
 |d+1,p=>(∃i,∃h:i<p.kids.length,ZQJ v d p.kids[i])∨((p.op=2∨p.op=6)∧p.var=v)
theorem ZBh (a b c d e:Int):(⟨a,b,c,d,e,[]⟩:Pattern).wt=0:=by rw[Pattern.wt_eq];rfl
theorem ZNj (a b c d e:Int)(k:Pattern):(⟨a,b,c,d,e,[k]⟩:Pattern).wt=1+k.wt:=by rw[Pattern.wt_eq];simp
theorem ZNi (a b c d e:Int)(k l:Pattern):(⟨a,b,c,d,e,[k,l]⟩:Pattern).wt=2+k.wt+l.wt:=by rw[Pattern.wt_eq];simp;omega
theorem ZIo {α:Type}(f:α→Nat):∀(l:List α) (i:Nat) (h:i<l.length) (x:α),wtL f (l.set i x)+f l[i]=wtL f l+f x
 |a::l,0,h,x=>by simp;omega
 |a::l,i+1,h,x=>by
  have:=ZIo f l i (by simpa using h) x
  simp;omega
def hv (d:Nat)(p:Pattern):Prop:=∃v,ZQJ v d p
def ZQK (w:List Data)(t:Ty)(l:List Clause):Prop:=ZDC w t∧l.length≤8∧∀c,c∈l→ZNf w t c
theorem P.YR (w:List Data)(hw:ZBE w)(t:Ty)(l:List Clause)(hp:∀c,c∈l→c.pat.wt≤1048576):F.f105 w t l=some (dec (ZQK w t l)):=by
 unfold F.f105
 rw[P.YY w t hw]
 simp only[Option.bind_eq_bind,Option.bind_some]
 by_cases h1:ZDC w t
 ·rw[if_pos (ZL h1)]
  by_cases h2:8<l.length
  ·rw[if_pos h2,ZH fun h=>by have:=h.2.1;omega]
  ·rw[if_neg h2]
   have hl:∀k,k≤l.length→F.f104 w t l (l.length-k)=some (if dec (∀c,c∈l.drop (l.length-k)→ZNf w t c)=true then .go ()else .ret false):=by
    intro k
    induction k with
    |zero=>intro _;rw[F.f104,if_neg (by omega),if_pos (ZL fun c hc=>by simp at hc)]
    |succ k ih=>
     intro hk
     have hi:l.length- (k+1)<l.length:=by omega
     rw[F.f104,if_pos hi,List.getElem?_eq_getElem hi]
     simp only[Option.bind_eq_bind,Option.bind_some]
     rw[P.YAJ w h1.1 t h1.2 _ (hp _ (List.getElem_mem hi))]
     simp only[Option.bind_some]
     have e1:l.length- (k+1)+1=l.length-k:=by omega
     have e2:l.drop (l.length- (k+1))=l[l.length- (k+1)]::l.drop (l.length-k):=by rw[List.drop_eq_getElem_cons hi,e1]
     by_cases hc:ZNf w t l[l.length- (k+1)]
     ·rw[if_pos (ZL hc),e1,ih (by omega),e2]
      rw[ZY (q:=∀c,c∈l[l.length- (k+1)]::l.drop (l.length-k)→ZNf w t c) ⟨fun h c hc'=>by
       rcases List.mem_cons.1 hc' with rfl|hc'
       ·exact hc
       ·exact h c hc',fun h c hc'=>h c (List.mem_cons_of_mem _ hc')⟩]
     ·rw[if_neg (by rw[ZH hc];simp),e2,if_neg (by rw[ZH fun h=>hc (h _ (List.mem_cons_self ..))];simp)]
   have:=hl l.length (Nat.le_refl _)
   rw[Nat.sub_self,List.drop_zero]at this
   rw[this]
   simp only[Option.bind_some]
   by_cases h3:∀c,c∈l→ZNf w t c
   ·rw[if_pos (ZL h3)];simp only;rw[ZL ⟨h1,by omega,h3⟩]
   ·rw[if_neg (by rw[ZH h3];simp)];simp only;rw[ZH fun h=>h3 h.2.2]
 ·rw[if_neg (by rw[ZH h1];simp),ZH fun h=>h1 h.1]
theorem P.Yc {w:List Data}{d e:Nat}{as:List Ty}{depth x:Int}(hd:IntKind.i64.wrap (depth-1)=(d:Int))
  (ih:∀a,a∈as→∀K r,rok K r→K+e≤1099511627776→∃p r',F.f59 r w a (d:Int)=some (p,r')∧rok (K+e) r'∧p.wt+1≤e):
  ∀(k K:Nat) (z:List Int) (z32:Int) (out:List Pattern),k≤as.length→rok K ⟨z,z32⟩→K+k*e≤1099511627776→out.length+k≤67108864→
   ∃z' z32' out',F.f60 w depth x as z z32 out (as.length-k)=some (z',z32',out')∧rok (K+k*e) ⟨z',z32'⟩∧wtL Pattern.wt out'≤wtL Pattern.wt out+k*e
 |0,K,z,z32,out,hk,hr,hK,ho=>by
  rw[F.f60,if_neg (by omega)]
  exact⟨z,z32,out,rfl,hr.mono (by omega),by omega⟩
 |k+1,K,z,z32,out,hk,hr,hK,ho=>by
  have hi:as.length- (k+1)<as.length:=by omega
  rw[Nat.add_mul,Nat.one_mul]at hK
  obtain⟨p,r1,e1,h1,h2⟩:=ih _ (List.getElem_mem hi) K ⟨z,z32⟩ hr (by omega)
  obtain⟨z',z32',out',f1,f2,f3⟩:=P.Yc hd ih k (K+e) r1.f0 r1.f1 (out++[p]) (by omega) h1 (by omega) (by simp;omega)
  rw[F.f60,if_pos hi,List.getElem?_eq_getElem hi]
  simp only[Option.bind_eq_bind,Option.bind_some]
  rw[hd,e1]
  simp only[Option.bind_some]
  rw[if_pos (by omega)]
  have ei:as.length- (k+1)+1=as.length-k:=by omega
  rw[ei]
  refine⟨z',z32',out',f1,f2.mono (by rw[Nat.add_mul];omega),?_⟩
  have:wtL Pattern.wt (out++[p])=wtL Pattern.wt out+(1+p.wt):=by simp[wtL];omega
  rw[Nat.add_mul];omega
theorem P.YAU {w:List Data}(hw:ZT w):∀(d:Nat) (t:Ty) (K:Nat) (r:ZE),Za w t→d≤12→rok K r→K+8^d≤1099511627776→
  ∃p r',F.f59 r w t (d:Int)=some (p,r')∧rok (K+8^d) r'∧p.wt+1≤8^d
 |0,t,K,r,ht,hd,hr,hK=>by
  rw[F.f59,if_pos (by omega)]
  exact⟨_,_,rfl,hr.mono (by omega),by rw[ZBh];simp⟩
 |1,t,K,r,ht,hd,hr,hK=>by
  rw[F.f59,if_pos (by omega)]
  exact⟨_,_,rfl,hr.mono (by omega),by rw[ZBh];simp⟩
 |d+2,t,K,r,ht,hd,hr,hK=>by
  have hpos:1≤8^d:=Nat.pow_pos (show 0<8 by omega)
  have e8:8^ (d+2)=64*8^d:=by rw[Nat.pow_succ,Nat.pow_succ];omega
  have e7:8^ (d+1)=8*8^d:=by rw[Nat.pow_succ];omega
  have hwr:IntKind.i64.wrap (((d+2:Nat):Int) -1)=((d+1:Nat):Int):=by rw[ZG (by omega) (by omega)];omega
  have ih:=fun(a:Ty) (ha:Za w a) (K:Nat) (r:ZE) hr hK=>P.YAU hw (d+1) a K r ha (by omega) hr hK
  rw[e8]at hK ⊢
  rw[e7]at ih
  generalize 8^d=q at hpos hK ih ⊢
  rw[F.f59,if_neg (by omega)]
  obtain⟨v1,r1,e1,h1,a1,b1,_⟩:=P.YG hr (by omega) 4
  rw[e1]
  simp only[Option.bind_eq_bind,Option.bind_some]
  split
  ·exact⟨_,_,rfl,h1.mono (by omega),by rw[ZBh];omega⟩
  obtain⟨v2,r2,e2,h2,a2,b2,_⟩:=P.YG h1 (by omega) 6
  rw[e2]
  simp only[Option.bind_some]
  split
  ·rw[hwr]
   obtain⟨p1,r3,e3,h3,w3⟩:=ih t ht _ r2 h2 (by omega)
   obtain⟨p2,r4,e4,h4,w4⟩:=ih t ht _ r3 h3 (by omega)
   rw[e3]
   simp only[Option.bind_some]
   rw[e4]
   exact⟨_,_,rfl,h4.mono (by omega),by rw[ZNi];show 2+p1.wt+p2.wt+1≤_;omega⟩
  ·split
   ·obtain⟨v3,r3,e3,h3,a3,b3,_⟩:=P.YG h2 (by omega) 10
    obtain⟨v4,r4,e4,h4,a4,b4,_⟩:=P.YG h3 (by omega) (IntKind.i64.wrap (10-v3))
    obtain⟨v5,r5,e5,h5,a5,b5,_⟩:=P.YG h4 (by omega) 2
    rw[e3]
    simp only[Option.bind_some]
    rw[e4]
    simp only[Option.bind_some]
    rw[e5]
    exact⟨_,_,rfl,h5.mono (by omega),by rw[ZBh];omega⟩
   ·next hn=>
    rw[P.YD w hw t (ZAP ht.1)]
    simp only[Option.bind_some]
    split
    ·exact⟨_,_,rfl,h2.mono (by omega),by rw[ZBh];omega⟩
    ·next hl=>
     obtain⟨v3,r3,e3,h3,a3,b3,_⟩:=P.YG h2 (by omega) ((ZO w t).length:Int)
     have b3:=b3 (by omega)
     obtain⟨c,hc,hm⟩:=ZET a3 b3
     rw[e3]
     simp only[Option.bind_some]
     rw[hc]
     simp only[Option.bind_some]
     rw[P.YA w hw t (ZAP ht.1) c hm]
     simp only[Option.bind_some]
     have hal:(ZQ w t c).length≤3:=by
      have:=(Zu hw (ZAP ht.1) (Zc hm).1).2 _ (ZCo hm).2
      unfold ZQ;rw[List.length_map];exact this.2.1
     have hmul:(ZQ w t c).length*(8*q)≤3*(8*q):=Nat.mul_le_mul_right _ hal
     obtain⟨z',z32',out',f1,f2,f3⟩:=P.Yc (x:=c) hwr (fun a ha K r hr hK=>ih a (ZBa hw ht hm a ha) K r hr hK) (ZQ w t c).length _ r3.f0 r3.f1 [] (Nat.le_refl _) h3 (by omega) (by simp;omega)
     rw[Nat.sub_self]at f1
     rw[f1]
     refine⟨_,_,rfl,f2.mono (by omega),?_⟩
     rw[Pattern.wt_eq]
     simp at f3
     show wtL Pattern.wt out'+1≤_
     omega
theorem P.YP {p:Pattern}{L:List Int→Int→List Pattern→Nat→Int→Option ((List Int)×Int×(List Pattern)×Int)}
  (hL:∀z z12 out i next,L z z12 out i next=if i<p.kids.length then
   (p.kids[i]?)>>=fun x=>
   (F.f61 (⟨z,z12⟩:ZE) x next)>>=fun v17=>
   if out.length+1≤67108864 then
    L v17.2.2.f0 v17.2.2.f1 (out++[v17.1]) (i+1) v17.2.1
   else none
  else
   some (z,z12,out,next))
  (ih:∀k,k∈p.kids→∀(n:Int) (K:Nat) (r:ZE),0≤n→n≤7→rok K r→K+3*(1+k.wt)≤1099511627776→k.wt≤1048576→
   ∃p' n' r',F.f61 r k n=some (p',n',r')∧rok (K+3*(1+k.wt)) r'∧0≤n'∧n'≤7∧p'.wt+1≤2*(1+k.wt)):
  ∀(k K:Nat) (z:List Int) (z12:Int) (out:List Pattern) (next:Int),k≤p.kids.length→rok K ⟨z,z12⟩→K+3*wtL Pattern.wt (p.kids.drop (p.kids.length-k))≤1099511627776→wtL Pattern.wt p.kids≤1048576→out.length+k≤67108864→0≤next→next≤7→
   ∃z' z12' out' next',L z z12 out (p.kids.length-k) next=some (z',z12',out',next')∧rok (K+3*wtL Pattern.wt (p.kids.drop (p.kids.length-k))) ⟨z',z12'⟩∧0≤next'∧next'≤7∧
    wtL Pattern.wt out'≤wtL Pattern.wt out+2*wtL Pattern.wt (p.kids.drop (p.kids.length-k))
 |0,K,z,z12,out,next,hk,hr,hK,hb,ho,n0,n7=>by
  rw[hL,if_neg (by omega)]
  exact⟨z,z12,out,next,rfl,hr.mono (by omega),n0,n7,by omega⟩
 |k+1,K,z,z12,out,next,hk,hr,hK,hb,ho,n0,n7=>by
  have hi:p.kids.length- (k+1)<p.kids.length:=by omega
  have ei:p.kids.length- (k+1)+1=p.kids.length-k:=by omega
  have hd:p.kids.drop (p.kids.length- (k+1))=p.kids[p.kids.length- (k+1)]::p.kids.drop (p.kids.length-k):=by rw[List.drop_eq_getElem_cons hi,ei]
  have hm:=ZAE Pattern.wt (List.getElem_mem hi)
  rw[hd,ZC7]at hK ⊢
  obtain⟨p',n',r1,e1,h1,q1,q2,q3⟩:=ih _ (List.getElem_mem hi) next K ⟨z,z12⟩ n0 n7 hr (by omega) (by omega)
  obtain⟨z',z12',out',next',f1,f2,f3,f4,f5⟩:=P.YP hL ih k _ r1.f0 r1.f1 (out++[p']) n' (by omega) h1 (by omega) hb (by simp;omega) q1 q2
  rw[hL,if_pos hi,List.getElem?_eq_getElem hi]
  simp only[Option.bind_eq_bind,Option.bind_some]
  rw[e1]
  simp only[Option.bind_some]
  rw[if_pos (by omega),ei]
  refine⟨z',z12',out',next',f1,f2.mono (by omega),f3,f4,?_⟩
  have:wtL Pattern.wt (out++[p'])=wtL Pattern.wt out+(1+p'.wt):=by simp[wtL];omega
  omega
theorem P.YAx (p : Pattern) : ∀ (n : Int) (K : Nat) (r : ZE), 0 ≤ n → n ≤ 7 → rok K r → K + 3 * (1 + p.wt) ≤ 1099511627776 → p.wt ≤ 1048576 →
   ∃p' n' r',F.f61 r p n=some (p',n',r')∧rok (K+3*(1+p.wt)) r'∧0≤n'∧n'≤7∧p'.wt+1≤2*(1+p.wt):=by
 induction p using Pattern.ind with
 |_ p ih=>
  intro n K r n0 n7 hr hK hb
  have hwt:=p.wt_eq
  have hlen:=ZCU Pattern.wt p.kids
  have same:p.wt+1≤2*(1+p.wt):=by omega
  rw[F.f61]
  split
  ·exact⟨_,_,_,rfl,hr.mono (by omega),n0,n7,same⟩
  split
  ·exact⟨_,_,_,rfl,hr.mono (by omega),n0,n7,same⟩
  split
  ·exact⟨_,_,_,rfl,hr.mono (by omega),n0,n7,same⟩
  have tail:∀(K':Nat) (z':List Int) (z12':Int) (out':List Pattern) (next':Int),rok K' ⟨z',z12'⟩→K'+1≤K+3*(1+p.wt)→0≤next'→next'≤7→wtL Pattern.wt out'≤2*p.wt→
    ∃p' n' r',(if next'≤5 then
     (F.f1 (⟨z',z12'⟩:ZE) 6).bind fun v24=>
     if v24.1=0 then
      some ((⟨6,0,0,0,next',[(⟨p.op,p.ctor,p.n,p.m,p.var,out'⟩:Pattern)]⟩:Pattern),IntKind.i64.wrap (next'+1),v24.2)
     else
      some ((⟨p.op,p.ctor,p.n,p.m,p.var,out'⟩:Pattern),next',v24.2)
    else
     some ((⟨p.op,p.ctor,p.n,p.m,p.var,out'⟩:Pattern),next',(⟨z',z12'⟩:ZE)))=some (p',n',r')∧rok (K+3*(1+p.wt)) r'∧0≤n'∧n'≤7∧p'.wt+1≤2*(1+p.wt):=by
   intro K' z' z12' out' next' hr' hK' m0 m7 hout
   have hown:(⟨p.op,p.ctor,p.n,p.m,p.var,out'⟩:Pattern).wt=wtL Pattern.wt out':=by rw[Pattern.wt_eq]
   split
   ·obtain⟨v,r1,e1,h1,a1,b1,_⟩:=P.YG hr' (by omega) 6
    rw[e1]
    simp only[Option.bind_some]
    have hwn:IntKind.i64.wrap (next'+1)=next'+1:=ZG (by omega) (by omega)
    rw[hwn]
    split
    ·refine⟨_,_,_,rfl,h1.mono (by omega),by omega,by omega,?_⟩
     rw[ZNj,hown];omega
    ·refine⟨_,_,_,rfl,h1.mono (by omega),by omega,by omega,?_⟩
     rw[hown];omega
   ·refine⟨_,_,_,rfl,hr'.mono (by omega),m0,m7,?_⟩
    rw[hown];omega
  split
  ·obtain⟨v,r1,e1,h1,a1,b1,_⟩:=P.YG hr (by omega) 2
   rw[e1]
   simp only[Option.bind_eq_bind,Option.bind_some]
   have hwn:IntKind.i64.wrap (n+1)=n+1:=ZG (by omega) (by omega)
   split
   ·rw[hwn]
    exact⟨_,_,_,rfl,h1.mono (by omega),by omega,by omega,by rw[ZBh];omega⟩
   ·obtain⟨z',z12',out',next',f1,f2,f3,f4,f5⟩:=P.YP (p:=p) (L:=F.f62 p n) (fun z z12 out i next=>by rw[F.f62]) ih p.kids.length _ r1.f0 r1.f1 [] n (Nat.le_refl _) h1 (by rw[Nat.sub_self,List.drop_zero];omega) (by omega) (by simp;omega) n0 n7
    rw[Nat.sub_self]at f1;rw[Nat.sub_self,List.drop_zero]at f2 f5
    rw[f1]
    simp only[Option.bind_some]
    simp at f5
    exact tail _ z' z12' out' next' f2 (by omega) f3 f4 (by omega)
  ·obtain⟨z',z12',out',next',f1,f2,f3,f4,f5⟩:=P.YP (p:=p) (L:=F.f63 p n) (fun z z12 out i next=>by rw[F.f63]) ih p.kids.length _ r.f0 r.f1 [] n (Nat.le_refl _) hr (by rw[Nat.sub_self,List.drop_zero];omega) (by omega) (by simp;omega) n0 n7
   rw[Nat.sub_self]at f1;rw[Nat.sub_self,List.drop_zero]at f2 f5
   rw[f1]
   simp only[Option.bind_eq_bind,Option.bind_some]
   simp at f5
   exact tail _ z' z12' out' next' f2 (by omega) f3 f4 (by omega)
theorem ZPI (w:List Data)(t:Ty):ZDN w t ⟨1,0,0,0,0,[]⟩:=by
 have hp:ZK w t ⟨1,0,0,0,0,[]⟩=[]:=by simp[ZK]
 refine⟨⟨.inl ⟨rfl,rfl,rfl,rfl,rfl⟩,by rw[hp];rfl,fun i _ h=>by rw[hp]at h;simp at h⟩,⟨fun i _ h=>by rw[hp]at h;simp at h,?_⟩,by rw[ZBh];omega⟩
 rw[if_neg (by simp)]
 simp[ZKm,ZAG]
theorem P.YAw {w:List Data}(hw:ZT w){t:Ty}(ht:Za w t){K:Nat}{r:ZE}(hr:rok K r)(hK:K+20000≤1099511627776):∃p r',F.f86 r w t=some (p,r')∧rok (K+20000) r'∧ZDN w t p:=by
 unfold F.f86
 obtain⟨v,r1,e1,h1,hv⟩:=P.num hr (by omega) [3,2,4,1] (by simp)
 obtain⟨d,rfl,hd⟩:∃d:Nat,v=(d:Int)∧d≤4:=by
  simp at hv
  exact⟨v.toNat,by omega,by omega⟩
 have h8:8^d≤4096:=Nat.le_trans (Nat.pow_le_pow_right (n:=8) (by omega) hd) (by decide)
 obtain⟨p,r2,e2,h2,hp⟩:=P.YAU hw d t _ r1 ht (by omega) h1 (by omega)
 obtain⟨q,n,r3,e3,h3,_,_,hq⟩:=P.YAx p 0 _ r2 (by omega) (by omega) h2 (by omega) (by omega)
 rw[e1]
 simp only[Option.bind_eq_bind,Option.bind_some]
 rw[e2]
 simp only[Option.bind_some]
 rw[e3]
 simp only[Option.bind_some]
 rw[P.Yj w hw t ht q (by omega)]
 simp only[Option.bind_some]
 by_cases h:ZDN w t q
 ·rw[if_pos (ZL h)]
  exact⟨_,_,rfl,h3.mono (by omega),h⟩
 ·rw[if_neg (by rw[ZH h];simp)]
  exact⟨_,_,rfl,h3.mono (by omega),ZPI w t⟩
theorem P.YE (v:Pattern×ZE)(vs:List VarType):∀(k K:Nat) (z:List Int) (z4 z5 z6 z7:Int),k≤vs.length→rok K ⟨z,z4⟩→K+3*k≤1099511627776→
  ∃z' z4' z5' z6' z7',F.f87 v z z4 z5 z6 z7 vs (vs.length-k)=some (z',z4',z5',z6',z7')∧rok (K+3*k) ⟨z',z4'⟩
 |0,K,z,z4,z5,z6,z7,hk,hr,hK=>by
  rw[F.f87,if_neg (by omega)]
  exact⟨z,z4,z5,z6,z7,rfl,hr.mono (by omega)⟩
 |k+1,K,z,z4,z5,z6,z7,hk,hr,hK=>by
  have hi:vs.length- (k+1)<vs.length:=by omega
  have ei:vs.length- (k+1)+1=vs.length-k:=by omega
  rw[F.f87,if_pos hi,List.getElem?_eq_getElem hi]
  simp only[Option.bind_eq_bind,Option.bind_some]
  rw[ei]
  split
  ·obtain⟨v1,r1,e1,h1,_⟩:=P.YG hr (by omega) 2
   rw[e1]
   simp only[Option.bind_some]
   split
   ·obtain⟨v2,r2,e2,h2,_⟩:=P.YG h1 (by omega) 2
    obtain⟨v3,r3,e3,h3,_⟩:=P.YG h2 (by omega) 10
    rw[e2]
    simp only[Option.bind_some]
    rw[e3]
    simp only[Option.bind_some]
    obtain⟨a,b,c,d,e,f1,f2⟩:=P.YE v vs k _ r3.f0 r3.f1 (IntKind.i64.wrap (1+v2)) (vs[vs.length- (k+1)]).var v3 (by omega) h3 (by omega)
    exact⟨a,b,c,d,e,f1,f2.mono (by omega)⟩
   ·obtain⟨a,b,c,d,e,f1,f2⟩:=P.YE v vs k _ r1.f0 r1.f1 z5 z6 z7 (by omega) h1 (by omega)
    exact⟨a,b,c,d,e,f1,f2.mono (by omega)⟩
  ·obtain⟨a,b,c,d,e,f1,f2⟩:=P.YE v vs k _ z z4 z5 z6 z7 (by omega) hr (by omega)
   exact⟨a,b,c,d,e,f1,f2.mono (by omega)⟩
theorem P.YAS {w:List Data}(hw:ZT w){t:Ty}(ht:Za w t){K:Nat}{r:ZE}(hr:rok K r)(hK:K+21000≤1099511627776):∃c r',F.f88 r w t=some (c,r')∧rok (K+21000) r'∧ZDN w t c.pat:=by
 unfold F.f88
 obtain⟨p,r1,e1,h1,hp⟩:=P.YAw hw ht hr (by omega)
 rw[e1]
 simp only[Option.bind_eq_bind,Option.bind_some]
 have hl:=ZDQ w 10 t p
 have hb:=hp.2.2
 rw[P.YB w hw 10 t p [] ht hp.1 (by simp;omega)]
 simp only[Option.bind_some,List.nil_append]
 obtain⟨a,b,c,d,e,f1,f2⟩:=P.YE (p,r1) (ZAG w 10 t p) (ZAG w 10 t p).length _ r1.f0 r1.f1 0 0 0 (Nat.le_refl _) h1 (by omega)
 rw[Nat.sub_self]at f1
 rw[f1]
 exact⟨_,_,rfl,f2.mono (by omega),hp⟩
theorem P.Yw {K:Nat}{r:ZE}(hr:rok K r)(hK:K+2≤1099511627776)(p:Pattern)(hp:p.wt≤1048576):∃p' r',F.f93 r p=some (p',r')∧rok (K+2) r'∧p'.wt≤p.wt+1:=by
 have hwt:=p.wt_eq
 have hlen:=ZCU Pattern.wt p.kids
 have own:∀(a b c d e:Int) (ks:List Pattern),(⟨a,b,c,d,e,ks⟩:Pattern).wt=wtL Pattern.wt ks:=fun a b c d e ks=>by rw[Pattern.wt_eq]
 unfold F.f93
 rw[if_pos (by omega)]
 obtain⟨v,r1,e1,h1,_⟩:=P.YG hr (by omega) 30
 rw[e1]
 simp only[Option.bind_eq_bind,Option.bind_some]
 split
 ·obtain⟨v2,r2,e2,h2,_⟩:=P.num h1 (by omega) [0,7,1,2,5] (by simp)
  rw[e2];exact⟨_,_,rfl,h2,by rw[own];omega⟩
 split
 ·obtain⟨v2,r2,e2,h2,_⟩:=P.num h1 (by omega) [6,-1,1] (by simp)
  rw[e2];exact⟨_,_,rfl,h2,by rw[own];omega⟩
 split
 ·obtain⟨v2,r2,e2,h2,_⟩:=P.num h1 (by omega) [9,-1,1] (by simp)
  rw[e2];exact⟨_,_,rfl,h2,by rw[own];omega⟩
 split
 ·rw[if_pos (by omega)]
  refine⟨_,_,rfl,h1.mono (by omega),?_⟩
  rw[own]
  have:wtL Pattern.wt (p.kids++[⟨2,0,0,0,0,[]⟩])=wtL Pattern.wt p.kids+(1+Pattern.wt ⟨2,0,0,0,0,[]⟩):=by simp[wtL];omega
  rw[this,ZBh];omega
 split
 ·split
  ·next h0=>
   rw[List.getElem?_eq_getElem h0]
   refine⟨_,_,rfl,h1.mono (by omega),?_⟩
   rw[own]
   have:=ZIo Pattern.wt p.kids 0 h0 ⟨2,0,0,0,0,[]⟩
   rw[ZBh]at this
   omega
  ·exact⟨_,_,rfl,h1.mono (by omega),by omega⟩
 split
 ·obtain⟨v2,r2,e2,h2,_⟩:=P.num h1 (by omega) [10,-1,5] (by simp)
  rw[e2];exact⟨_,_,rfl,h2,by rw[own];omega⟩
 ·exact⟨_,_,rfl,h1.mono (by omega),by omega⟩
def Tree.nodes :Tree→Nat
 |⟨_,_,_,_,branches,els⟩=>1+(branches.attach.map fun⟨b,_⟩=>Tree.nodes b.tree).sum+(els.attach.map fun⟨k,_⟩=>Tree.nodes k).sum
termination_by t=>SizeOf.sizeOf t
decreasing_by
 ·rename_i h
  have:=List.sizeOf_lt_of_mem h
  cases b
  simp at this ⊢
  omega
 ·rename_i h
  have:=List.sizeOf_lt_of_mem h
  simp
  omega
def Branch.nodes (b:Branch):Nat:=b.tree.nodes
theorem Tree.nodes_eq (x:Tree):x.nodes=1+(x.branches.map Branch.nodes).sum+(x.els.map Tree.nodes).sum:=by
 cases x
 rw[Tree.nodes]
 simp only[List.map_attach_eq_pmap,List.pmap_eq_map]
 rfl
theorem ZD8 {α:Type}{g f:α→Nat}{xs:List α}(h:∀x,x∈xs→g x≤1+f x):(xs.map g).sum≤wtL f xs:=by
 induction xs with
 |nil=>simp
 |cons a r ih=>
  have:=h a (by simp)
  have:=ih fun x hx=>h x (by simp[hx])
  simp;omega
theorem Tree.nodes_le (x:Tree):x.nodes≤1+x.wt:=by
 induction x using Tree.ind with
 |_ x ihb ihe=>
  rw[Tree.nodes_eq,Tree.wt_eq]
  have h1:(x.branches.map Branch.nodes).sum≤wtL Branch.wt x.branches:=ZD8 (f:=Branch.wt) ihb
  have h2:(x.els.map Tree.nodes).sum≤wtL Tree.wt x.els:=ZD8 ihe
  omega
theorem P.Yg (x:Tree)(hw:x.wt≤1048576):F.f156 x=some (x.nodes:Int):=by
 induction x using Tree.ind with
 |_ x ihb ihe=>
  have hn:=x.nodes_le
  rw[Tree.nodes_eq]at hn ⊢
  have hw2:=hw
  rw[Tree.wt_eq]at hw2
  unfold F.f156
  rw[ZGD (L:=F.f157 x) (g:=Branch.nodes) (fun n i=>by rw[F.f157]) (fun b hb=>ihb b hb (by have:=ZAE Branch.wt hb;have:Branch.wt b=b.tree.wt:=rfl;omega)) _ 0 1 rfl (by omega) (by simp only[List.drop_zero];omega)]
  simp only[Option.bind_eq_bind,Option.bind_some,List.drop_zero]
  rw[ZGD (L:=F.f158 x) (g:=Tree.nodes) (fun n i=>by rw[F.f158]) (fun k hk=>ihe k hk (by have:=ZAE Tree.wt hk;omega)) _ 0 _ rfl (by omega) (by simp only[List.drop_zero];omega)]
  simp only[Option.bind_some,List.drop_zero]
  congr 1
theorem P.Yh (x:Tree)(hw:x.wt≤1048576):F.f153 x=some (x.branches.map (·.tree)++x.els):=by
 rw[Tree.wt_eq]at hw
 have h1:=ZCU Branch.wt x.branches
 have h2:=ZCU Tree.wt x.els
 unfold F.f153
 rw[ZLR (L:=F.f152 x) (a:=x.branches) (g:=fun b:Branch=>b.tree) (fun n i=>by rw[F.f152]) _ 0 [] rfl (by simp;omega)]
 simp only[Option.bind_eq_bind,Option.bind_some,List.drop_zero,List.nil_append]
 rw[if_pos (by simp;omega)]
theorem P.Yi (x:Tree)(hw:x.wt≤1048576):F.f154 x=some (x.nodes:Int):=by
 induction x using Tree.ind with
 |_ x ihb ihe=>
  have hn:=x.nodes_le
  rw[Tree.nodes_eq]at hn ⊢
  have hw2:=hw
  rw[Tree.wt_eq]at hw2
  unfold F.f154
  rw[P.Yh x hw]
  simp only[Option.bind_eq_bind,Option.bind_some]
  rw[ZGD (L:=F.f155 _) (g:=Tree.nodes) (fun n i=>by rw[F.f155]) (fun k hk=> ?_) _ 0 1 rfl (by omega) (by simp only[List.drop_zero,List.map_append,List.sum_append,List.map_map,Function.comp_def];have e:(x.branches.map fun b=>b.tree.nodes).sum=(x.branches.map Branch.nodes).sum:=rfl;omega)]
  ·simp only[Option.bind_some,List.drop_zero,List.map_append,List.sum_append,List.map_map,Function.comp_def]
   congr 1
   have e:(x.branches.map fun b=>b.tree.nodes).sum=(x.branches.map Branch.nodes).sum:=rfl
   omega
  ·rcases List.mem_append.1 hk with hk|hk
   ·obtain⟨b,hb,rfl⟩:=List.mem_map.1 hk
    exact ihb b hb (by have:=ZAE Branch.wt hb;have:Branch.wt b=b.tree.wt:=rfl;omega)
   ·exact ihe k hk (by have:=ZAE Tree.wt hk;omega)
inductive Sub :Tree→Tree→Prop
 |refl (x:Tree):Sub x x
 |br (y x:Tree) (b:Branch) (hb:b∈x.branches) (h:Sub y b.tree):Sub y x
 |els (y x z:Tree) (hz:z∈x.els) (h:Sub y z):Sub y x
def ZI1 :Nat→Tree→Prop
 |0,_=>False
 |n+1,x=>(0≤x.op∧x.op≤2∧x.els.length≤1∧x.branches.length≤10)∧(∀b,b∈x.branches→ZI1 n b.tree)∧∀y,y∈x.els→ZI1 n y
def right (x:Tree):Prop:=ZI1 x.nodes x
theorem P.YU (a b:List Int):F.f160 a b=some (dec (a=b)):=by
 unfold F.f160
 by_cases hl:a.length=b.length
 ·rw[if_pos hl,ZNF hl (L:=F.f159 a b) (fun i=>by rw[F.f159])]
  by_cases h:a=b
  ·rw[if_pos (ZL h),ZL h];rfl
  ·rw[if_neg (by rw[ZH h];simp),ZH h];rfl
 ·rw[if_neg hl,ZH fun h=>hl (by rw[h])]
def tupR (lists:List (List Pattern))(i:Nat)(x:List Pattern):Prop:=x.length=i∧∀k (h:k<x.length) (h':k<lists.length),x[k]∈lists[k]
theorem ZIt {lists:List (List Pattern)}{i:Nat}{x:List Pattern}(h:tupR lists i x)(hi:i<lists.length){q:Pattern}(hq:q∈lists[i]):tupR lists (i+1) (x++[q]):=by
 refine⟨by simp[h.1],fun k hk hk'=> ?_⟩
 by_cases e:k<x.length
 ·rw[List.getElem_append_left e];exact h.2 k e hk'
 ·have:k=i:=by simp at hk;have:=h.1;omega
  subst this
  rw[List.getElem_append_right (by omega)]
  simpa[h.1]using hq
theorem P.YAz {lists:List (List Pattern)}{i:Nat}(hi:i<lists.length)(hb:lists.length≤67108863){out:List (List Pattern)}{k:Nat}(hk:k<out.length)(hR:∀x,x∈out→tupR lists i x)(hx:lists[i].length≤401):
  ∀(m j:Nat) (next:List (List Pattern)),lists[i].length-j=m→next.length≤401→(∀x,x∈next→tupR lists (i+1) x)→∃r,F.f106 lists out i k next j=some r∧r.length≤401∧∀x,x∈r→tupR lists (i+1) x
 |m,j,next,hm,hn,hq=>by
  rw[F.f106,List.getElem?_eq_getElem hi]
  simp only[Option.bind_eq_bind,Option.bind_some]
  by_cases hj:j<lists[i].length
  ·rw[if_pos hj]
   by_cases h4:next.length≤400
   ·have h1:=(hR _ (List.getElem_mem hk)).1
    rw[if_pos h4,List.getElem?_eq_getElem hk]
    simp only[Option.bind_some]
    rw[if_pos (by omega),List.getElem?_eq_getElem hj]
    simp only[Option.bind_some]
    rw[if_pos (by omega),if_pos (by omega),if_pos (by omega)]
    match m,hm with
    |0,hm=>omega
    |m+1,hm=>
     refine P.YAz hi hb hk hR hx m (j+1) _ (by omega) (by simp;omega) fun x hx2=> ?_
     rcases List.mem_append.1 hx2 with hx2|hx2
     ·exact hq x hx2
     ·rw[List.mem_singleton.1 hx2];exact ZIt (hR _ (List.getElem_mem hk)) hi (List.getElem_mem hj)
   ·rw[if_neg h4];exact⟨next,rfl,hn,hq⟩
  ·rw[if_neg hj];exact⟨next,rfl,hn,hq⟩
theorem P.YA0 {lists:List (List Pattern)}{i:Nat}(hi:i<lists.length)(hb:lists.length≤67108863){out:List (List Pattern)}(ho:out.length≤401)(hR:∀x,x∈out→tupR lists i x)(hx:lists[i].length≤401):
  ∀(m k:Nat) (next:List (List Pattern)),out.length-k=m→next.length≤401→(∀x,x∈next→tupR lists (i+1) x)→∃r,F.f107 lists out i next k=some r∧r.length≤401∧∀x,x∈r→tupR lists (i+1) x
 |m,k,next,hm,hn,hq=>by
  rw[F.f107]
  by_cases hk:k<out.length
  ·rw[if_pos hk]
   by_cases h4:next.length≤400
   ·rw[if_pos h4]
    obtain⟨r,e,h1,h2⟩:=P.YAz hi hb hk hR hx _ 0 next rfl hn hq
    rw[e]
    simp only[Option.bind_eq_bind,Option.bind_some]
    rw[if_pos (by omega)]
    match m,hm with
    |0,hm=>omega
    |m+1,hm=>exact P.YA0 hi hb ho hR hx m (k+1) r (by omega) h1 h2
   ·rw[if_neg h4];exact⟨next,rfl,hn,hq⟩
  ·rw[if_neg hk];exact⟨next,rfl,hn,hq⟩
theorem P.YA1 {lists:List (List Pattern)}(hb:lists.length≤67108863)(hx:∀x,x∈lists→x.length≤401):
  ∀(m i:Nat) (out:List (List Pattern)),lists.length-i=m→i≤lists.length→out.length≤401→(∀x,x∈out→tupR lists i x)→∃r,F.f108 lists out i=some r∧r.length≤401∧∀x,x∈r→tupR lists lists.length x
 |m,i,out,hm,hi,ho,hR=>by
  rw[F.f108]
  by_cases h:i<lists.length
  ·rw[if_pos h]
   obtain⟨r,e,h1,h2⟩:=P.YA0 h hb ho hR (hx _ (List.getElem_mem h)) _ 0 [] rfl (by simp) (by simp)
   rw[e]
   simp only[Option.bind_eq_bind,Option.bind_some]
   rw[if_pos (by omega)]
   match m,hm with
   |0,hm=>omega
   |m+1,hm=>exact P.YA1 hb hx m (i+1) r (by omega) (by omega) h1 h2
  ·rw[if_neg h]
   have:i=lists.length:=by omega
   subst this
   exact⟨out,rfl,ho,hR⟩
theorem P.YAT {lists:List (List Pattern)}(hb:lists.length≤67108863)(hx:∀x,x∈lists→x.length≤401):∃r,F.f109 lists=some r∧r.length≤401∧∀x,x∈r→tupR lists lists.length x:=by
 obtain⟨r,e,h⟩:=P.YA1 hb hx _ 0 [[]] rfl (by omega) (by simp) (fun x hm=>by rw[List.mem_singleton.1 hm];exact⟨rfl,fun k hk=>absurd hk (by simp)⟩)
 unfold F.f109
 rw[e]
 exact⟨r,rfl,h⟩
def ZF1 (w:List Data):Nat→Ty→Pattern→Prop
 |0,_,_=>False
 |d+1,t,p=>ZEF w t p∧p.op≠5∧p.kids.length=(ZK w t p).length∧∀i (h:i<(ZK w t p).length) (h':i<p.kids.length),ZF1 w d (ZK w t p)[i] p.kids[i]
theorem ZB7 {w:List Data}:∀{d:Nat} {t:Ty} {p:Pattern},ZF1 w d t p→ZF1 w (d+1) t p
 |0,_,_,h=>h.elim
 |d+1,t,p,⟨h1,h2,h3,h4⟩=>⟨h1,h2,h3,fun i h h'=>ZB7 (h4 i h h')⟩
theorem ZIp :∀{a b:List Pattern},a.length=b.length→(∀i (h:i<a.length) (h':i<b.length),a[i].wt≤b[i].wt)→wtL Pattern.wt a≤wtL Pattern.wt b
 | [],[],_,_=>Nat.le_refl _
 | [],_::_,h,_=>by simp at h
 |_::_,[],h,_=>by simp at h
 |x::a,y::b,h,hh=>by
  have h0:=hh 0 (by simp) (by simp)
  have:=ZIp (a:=a) (b:=b) (by simpa using h) fun i hi hi'=>by have:=hh (i+1) (by simpa using hi) (by simpa using hi');simpa using this
  simp only[ZC7,List.getElem_cons_zero]at h0 ⊢
  omega
theorem P.YAP (p:Pattern)(l:List (List Pattern)):∀(m i:Nat) (out:List Pattern),l.length-i=m→out.length+m≤67108864→F.f110 p l out i=some (out++(l.drop i).map fun x=>⟨p.op,p.ctor,p.n,p.m,p.var,x⟩)
 |0,i,out,hm,hb=>by rw[F.f110,if_neg (by omega),List.drop_eq_nil_of_le (by omega)];simp
 |m+1,i,out,hm,hb=>by
  have hi:i<l.length:=by omega
  rw[F.f110,if_pos hi,List.getElem?_eq_getElem hi]
  simp only[Option.bind_eq_bind,Option.bind_some]
  rw[if_pos (by omega),P.YAP p l m (i+1) _ (by omega) (by simp;omega),List.drop_eq_getElem_cons hi,List.map_cons]
  simp[←List.map_drop]
theorem P.YAQ (p:Pattern)(G:Nat→List Pattern→Prop)(h:∀i (h:i<p.kids.length),∃l,F.f111 p.kids[i]=some l∧G i l)(hk:p.kids.length≤67108863):
  ∀(m i:Nat) (out:List (List Pattern)),p.kids.length-i=m→out.length=i→i≤p.kids.length→(∀k (h:k<out.length),G k out[k])→∃r,F.f112 p out i=some r∧r.length=p.kids.length∧∀k (h:k<r.length),G k r[k]
 |0,i,out,hm,ho,hi,hg=>by rw[F.f112,if_neg (by omega)];exact⟨out,rfl,by omega,hg⟩
 |m+1,i,out,hm,ho,hi,hg=>by
  have hi':i<p.kids.length:=by omega
  obtain⟨l,e,hl⟩:=h i hi'
  rw[F.f112,if_pos hi',List.getElem?_eq_getElem hi']
  simp only[Option.bind_eq_bind,Option.bind_some]
  rw[e]
  simp only[Option.bind_some]
  rw[if_pos (by omega)]
  refine P.YAQ p G h hk m (i+1) _ (by omega) (by simp[ho]) (by omega) fun k hk2=> ?_
  by_cases e2:k<out.length
  ·rw[List.getElem_append_left e2];exact hg k e2
  ·have:k=i:=by simp at hk2;omega
   subst this
   rw[List.getElem_append_right (by omega)]
   simpa[ho]using hl
theorem P.Yo (w:List Data):∀(d:Nat) (t:Ty) (p:Pattern),ZAX w d t p→p.wt≤1048576→∃l,F.f111 p=some l∧l.length≤401∧∀q,q∈l→ZF1 w d t q∧q.wt≤p.wt
 |0,_,_,h,_=>h.elim
 |d+1,t,p,⟨h1,h2,h3⟩,hw=>by
  have hwk:∀i (h:i<p.kids.length),1+p.kids[i].wt≤p.wt:=fun i h=>by rw[p.wt_eq];exact ZAE Pattern.wt (List.getElem_mem h)
  have hkl:p.kids.length≤p.wt:=by rw[p.wt_eq];exact ZCU Pattern.wt p.kids
  have ih:∀i (h:i<(ZK w t p).length) (h':i<p.kids.length),∃l,F.f111 p.kids[i]=some l∧l.length≤401∧∀q,q∈l→ZF1 w d (ZK w t p)[i] q∧q.wt≤p.kids[i].wt:=
   fun i h h'=>P.Yo w d _ _ (h3 i (by omega) h h h') (by have:=hwk i h';omega)
  rw[F.f111]
  by_cases h5:p.op=5
  ·have ht:ZK w t p=[t,t]:=ZA0 h1 h5
   have k2:p.kids.length=2:=by rw[h2,ht];rfl
   obtain⟨a,ea,la,pa⟩:=ih 0 (by rw[ht];simp) (by omega)
   obtain⟨b,eb,lb,pb⟩:=ih 1 (by rw[ht];simp) (by omega)
   have w0:=hwk 0 (by omega)
   have w1:=hwk 1 (by omega)
   have hall:∀q,q∈a++b→ZF1 w (d+1) t q∧q.wt≤p.wt:=by
    intro q hq
    rcases List.mem_append.1 hq with hq|hq
    ·have:=pa q hq
     simp only[ht,List.getElem_cons_zero]at this
     exact⟨ZB7 this.1,by omega⟩
    ·have:=pb q hq
     simp only[ht,List.getElem_cons_succ,List.getElem_cons_zero]at this
     exact⟨ZB7 this.1,by omega⟩
   rw[if_pos h5,List.getElem?_eq_getElem (by omega)]
   simp only[Option.bind_eq_bind,Option.bind_some]
   rw[ea]
   simp only[Option.bind_some]
   rw[List.getElem?_eq_getElem (by omega)]
   simp only[Option.bind_some]
   rw[eb]
   simp only[Option.bind_some]
   rw[if_pos (by omega)]
   by_cases hl:401<(a++b).length
   ·rw[if_pos hl,if_pos (by omega)]
    exact⟨_,rfl,by simp;omega,fun q hq=>hall q (List.mem_of_mem_take hq)⟩
   ·rw[if_neg hl]
    exact⟨_,rfl,by omega,hall⟩
  ·rw[if_neg h5]
   obtain⟨ls,e1,l1,g1⟩:=P.YAQ p (fun i l=>l.length≤401∧∀(h:i<(ZK w t p).length) (h':i<p.kids.length),∀q,q∈l→ZF1 w d (ZK w t p)[i] q∧q.wt≤p.kids[i].wt)
    (fun i h=>by obtain⟨l,a,b,c⟩:=ih i (by omega) h;exact⟨l,a,b,fun _ _=>c⟩) (by omega) _ 0 [] rfl rfl (by omega) (by simp)
   obtain⟨r,e2,l2,g2⟩:=P.YAT (lists:=ls) (by omega) (fun x hx=>by obtain⟨k,hk,rfl⟩:=List.getElem_of_mem hx;exact(g1 k hk).1)
   rw[e1]
   simp only[Option.bind_eq_bind,Option.bind_some]
   rw[e2]
   simp only[Option.bind_some]
   rw[P.YAP p r _ 0 [] rfl (by simp;omega)]
   simp only[Option.bind_some,List.nil_append,List.drop_zero]
   refine⟨_,rfl,by simp;omega,fun q hq=> ?_⟩
   obtain⟨x,hx,rfl⟩:=List.mem_map.1 hq
   obtain⟨x1,x2⟩:=g2 x hx
   have ht:ZK w t ⟨p.op,p.ctor,p.n,p.m,p.var,x⟩=ZK w t p:=rfl
   refine⟨⟨h1,h5,?_,fun i h h'=> ?_⟩,?_⟩
   ·show x.length=_
    rw[ht];omega
   ·show ZF1 w d (ZK w t p)[i] x[i]
    have hi:i<(ZK w t p).length:=h
    have hi':i<x.length:=h'
    exact((g1 i (by omega)).2 hi (by omega) _ (x2 i hi' (by omega))).1
   ·rw[Pattern.wt_eq,p.wt_eq]
    refine ZIp (show x.length=_ by omega) fun i hi hi'=> ?_
    have hi2:i<x.length:=hi
    exact((g1 i (by omega)).2 (by omega) hi' _ (x2 i hi2 (by omega))).2
def anyP0 :Pattern:=⟨1,0,0,0,0,[]⟩
def ZL1 (w:List Data)(k:Nat)(t:Ty)(p:Pattern):Prop:=p=anyP0∨(ZF1 w (10-k) t p∧p.op≠2∧p.op≠6)
theorem ZKU {w:List Data}{d:Nat}{t:Ty}{p:Pattern}(h:ZF1 w d t p):p.op=1∨p.op=2∨(p.op=3∧t.data= -1)∨(p.op=4∧p.ctor∈ZO w t)∨p.op=6:=by
 cases d with
 |zero=>exact h.elim
 |succ d=>
  obtain⟨h1,h2,_⟩:=h
  unfold ZEF at h1
  rcases h1 with h1|h1|h1|h1|h1|h1
  ·exact .inl h1.1
  ·exact .inr (.inl h1.1)
  ·exact .inr (.inr (.inl ⟨h1.1,h1.2.2.2.1⟩))
  ·exact .inr (.inr (.inr (.inl ⟨h1.1,h1.2.2.2.2⟩)))
  ·exact absurd h1.1 h2
  ·exact .inr (.inr (.inr (.inr h1.1)))
theorem P.YAG :F.f92=some anyP0:=rfl
theorem P.YAO {w:List Data}{t:Ty}(row:ZA)(path:List Int)(hp:path.length≤10):∀(d:Nat) (p:Pattern) (z:List PathBind),ZF1 w d t p→z.length+1+p.wt≤1048576→(∀b,b∈z→b.path.length≤10)→
  ∃z' q,F.f113 row path z p.op p.ctor p.n p.m p.var p.kids=some (z',q.op,q.ctor,q.n,q.m,q.var,q.kids)∧ZF1 w d t q∧q.op≠6∧z'.length+q.wt≤z.length+p.wt∧∀b,b∈z'→b.path.length≤10
 |0,_,_,h,_,_=>h.elim
 |d+1,p,z,h,hb,hz=>by
  rw[F.f113]
  by_cases h6:p.op=6
  ·have hs:=h
   obtain⟨h1,h2,h3,h4⟩:=h
   have ht:ZK w t p=[t]:=by unfold ZK;rw[if_neg (by omega),if_neg (by omega),if_pos h6]
   have k1:p.kids.length=1:=by rw[h3,ht];rfl
   have hk:=h4 0 (by rw[ht];simp) (by omega)
   simp only[ht,List.getElem_cons_zero]at hk
   have hw:1+p.kids[0].wt≤p.wt:=by rw[p.wt_eq];exact ZAE Pattern.wt (List.getElem_mem _)
   rw[if_pos h6,if_pos (by omega),if_pos (by omega),if_pos (by omega),List.getElem?_eq_getElem (by omega)]
   simp only[Option.bind_eq_bind,Option.bind_some]
   obtain⟨z',q,e,a,b,c,f⟩:=P.YAO row path hp d p.kids[0] (z++[⟨p.var,path⟩]) hk (by simp;omega) (fun b hb=>by
    rcases List.mem_append.1 hb with hb|hb
    ·exact hz b hb
    ·rw[List.mem_singleton.1 hb];exact hp)
   exact⟨z',q,e,ZB7 a,b,by simp at c;omega,f⟩
  ·rw[if_neg h6]
   exact⟨z,p,rfl,h,h6,Nat.le_refl _,hz⟩
theorem P.Yn {w:List Data}{t:Ty}{k:Nat}(row:ZA)(path:List Int)(hk:path.length≤k)(hk2:k≤10)(p:Pattern)(h:p=anyP0∨ZF1 w (10-k) t p)(hb:row.f2.length+1+p.wt≤1048576)(hz:∀b,b∈row.f2→b.path.length≤10):
  ∃z q,F.f114 row p path=some (⟨row.f0,row.f1,z⟩,q)∧ZL1 w k t q∧z.length+q.wt≤row.f2.length+1+p.wt∧(p=anyP0→z.length+q.wt≤row.f2.length)∧∀b,b∈z→b.path.length≤10:=by
 unfold F.f114
 rcases h with rfl|h
 ·rw[F.f113,if_neg (by decide)]
  simp only[Option.bind_eq_bind,Option.bind_some]
  rw[if_neg (by decide)]
  have hq0:(anyP0:Pattern).wt=0:=by rw[Pattern.wt_eq];rfl
  exact⟨row.f2,anyP0,rfl,.inl rfl,by omega,fun _=>by omega,hz⟩
 ·have hq00:(anyP0:Pattern).wt=0:=by rw[Pattern.wt_eq];rfl
  have hne:p=anyP0→row.f2.length+p.wt≤row.f2.length:=fun e=>by rw[e,hq00];exact Nat.le_refl _
  obtain⟨z,q,e,a,b,c,f⟩:=P.YAO row path (by omega) (10-k) p row.f2 h (by omega) hz
  rw[e]
  simp only[Option.bind_eq_bind,Option.bind_some]
  by_cases h2:q.op=2
  ·have hq0:(anyP0:Pattern).wt=0:=by rw[Pattern.wt_eq];rfl
   rw[if_pos h2,if_pos (by omega),if_pos (by omega),if_pos (by omega),P.YAG]
   simp only[Option.bind_some]
   refine⟨_,_,rfl,.inl rfl,by rw[hq0];simp;omega,fun e=> ?_,fun b hb=> ?_⟩
   ·subst e
    have:q.op=1:=by
     have e2:=‹F.f113 _ _ _ _ _ _ _ _ _=_›
     rw[F.f113,if_neg (by decide)]at e2
     have:=Option.some.inj e2
     exact(congrArg (fun x=>x.2.1) this).symm
    omega
   ·rcases List.mem_append.1 hb with hb|hb
    ·exact f b hb
    ·rw[List.mem_singleton.1 hb];show path.length≤10;omega
  ·rw[if_neg h2]
   exact⟨z,q,(by cases q;rfl),.inr ⟨a,h2,b⟩,by omega,fun e=>by have:=hne e;omega,f⟩
structure RowOk (w:List Data)(cols:List ZB)(n W:Nat)(r:ZA):Prop where
 lo:0≤r.f0
 hi:r.f0<n
 len:r.f1.length=cols.length
 pat:∀i (h:i<r.f1.length) (h':i<cols.length),ZL1 w cols[i].f0.length cols[i].f1 r.f1[i]
 wt:r.f2.length+(r.f1.map Pattern.wt).sum≤W
 path:∀b,b∈r.f2→b.path.length≤10
structure ColsOk (w:List Data)(cols:List ZB)(B:Nat):Prop where
 len:cols.length≤B
 ty:∀c,c∈cols→Za w c.f1
 path:∀c,c∈cols→c.f0.length≤10
theorem P.YAX (row:ZA):∀(m i:Nat),row.f1.length-i=m→(∀k (h:k<row.f1.length),k<i→row.f1[k].op=1)→
  (F.f118 row i=some (.go ())∧∀k (h:k<row.f1.length),row.f1[k].op=1)∨∃k,∃h:k<row.f1.length,F.f118 row i=some (.ret (k:Int))∧row.f1[k].op≠1
 |m,i,hm,ha=>by
  rw[F.f118]
  by_cases hi:i<row.f1.length
  ·rw[if_pos hi,List.getElem?_eq_getElem hi]
   simp only[Option.bind_eq_bind,Option.bind_some]
   by_cases h1:row.f1[i].op=1
   ·rw[if_pos h1]
    match m,hm with
    |0,hm=>omega
    |m+1,hm=>
     exact P.YAX row m (i+1) (by omega) fun k h hk=>by
      by_cases e:k=i
      ·subst e;exact h1
      ·exact ha k h (by omega)
   ·rw[if_neg h1];exact .inr ⟨i,hi,rfl,h1⟩
  ·rw[if_neg hi];exact .inl ⟨rfl,fun k h=>ha k h (by omega)⟩
theorem P.YAc (row:ZA):(F.f119 row=some (-1)∧∀k (h:k<row.f1.length),row.f1[k].op=1)∨∃k:Nat,∃h:k<row.f1.length,F.f119 row=some (k:Int)∧row.f1[k].op≠1:=by
 unfold F.f119
 rcases P.YAX row _ 0 rfl (fun k _ h=>by omega)with⟨e,h⟩|⟨k,hk,e,h⟩
 ·rw[e];exact .inl ⟨rfl,h⟩
 ·rw[e];exact .inr ⟨k,hk,rfl,h⟩
theorem ZDk (n:Nat):∀l:List PathBind,l.countP (fun b=>decide ((n:Int)≤b.var))=l.countP (fun b=>decide (b.var=(n:Int)))+l.countP (fun b=>decide (((n+1:Nat):Int)≤b.var))
 | []=>rfl
 |x::l=>by
  rw[List.countP_cons,List.countP_cons,List.countP_cons,ZDk n l]
  simp only[decide_eq_true_eq]
  repeat' split
  all_goals omega
theorem P.YAD (l:List PathBind)(hp:∀b,b∈l→b.path.length≤10)(n:Nat):∀(m i:Nat) (out:List PathBind),l.length-i=m→out.length+m≤67108864→(∀b,b∈out→b.path.length≤10)→
  ∃r,F.f120 l n out i=some r∧r.length≤out.length+(l.drop i).countP (fun b=>decide (b.var=(n:Int)))∧∀b,b∈r→b.path.length≤10
 |0,i,out,hm,hb,ho=>by rw[F.f120,if_neg (by omega)];exact⟨out,rfl,by omega,ho⟩
 |m+1,i,out,hm,hb,ho=>by
  have hi:i<l.length:=by omega
  have h10:=hp _ (List.getElem_mem hi)
  rw[F.f120,if_pos hi,List.getElem?_eq_getElem hi,List.drop_eq_getElem_cons hi,List.countP_cons]
  simp only[Option.bind_eq_bind,Option.bind_some]
  split
  ·next hv=>
   rw[if_pos (by omega),if_pos (by omega),if_pos (by simp[hv])]
   obtain⟨r,e,a,b⟩:=P.YAD l hp n m (i+1) (out++[⟨(n:Int),l[i].path⟩]) (by omega) (by simp;omega) (fun b hb=>by
    rcases List.mem_append.1 hb with hb|hb
    ·exact ho b hb
    ·rw[List.mem_singleton.1 hb];exact h10)
   exact⟨r,e,by simp only[List.length_append,List.length_singleton]at a;omega,b⟩
  ·obtain⟨r,e,a,b⟩:=P.YAD l hp n m (i+1) out (by omega) (by omega) ho
   exact⟨r,e,by omega,b⟩
theorem P.YAZ (l:List PathBind)(hl:l.length≤1048576)(hp:∀b,b∈l→b.path.length≤10):∀(m n:Nat) (out:List PathBind),6-n=m→out.length+l.countP (fun b=>decide ((n:Int)≤b.var))≤1048576→(∀b,b∈out→b.path.length≤10)→
  ∃r,F.f121 l out n=some r∧r.length≤out.length+l.countP (fun b=>decide ((n:Int)≤b.var))∧∀b,b∈r→b.path.length≤10
 |0,n,out,hm,hb,ho=>by rw[F.f121,if_neg (by omega)];exact⟨out,rfl,by omega,ho⟩
 |m+1,n,out,hm,hb,ho=>by
  have hs:=ZDk n l
  obtain⟨r,e,a,b⟩:=P.YAD l hp n _ 0 out rfl (by omega) ho
  rw[List.drop_zero]at a
  rw[F.f121,if_pos (by omega),e]
  simp only[Option.bind_eq_bind,Option.bind_some]
  rw[if_pos (by omega)]
  obtain⟨r2,e2,a2,b2⟩:=P.YAZ l hl hp m (n+1) r (by omega) (by omega) b
  exact⟨r2,e2,by omega,b2⟩
theorem P.YAd (l:List PathBind)(hl:l.length≤1048576)(hp:∀b,b∈l→b.path.length≤10):∃r,F.f122 l=some r∧r.length≤l.length∧∀b,b∈r→b.path.length≤10:=by
 have hc:=List.countP_le_length (p:=fun b:PathBind=>decide (((0:Nat):Int)≤b.var)) (l:=l)
 obtain⟨r,e,a,b⟩:=P.YAZ l hl hp 6 0 [] rfl (by simp only[List.length_nil];omega) (by simp)
 unfold F.f122
 rw[e]
 exact⟨r,rfl,by simp only[List.length_nil]at a;omega,b⟩
theorem P.YAA (rows:List ZA)(c:Int)(hr:rows.length≤67108864):∀(m i:Nat) (out:List ZA),rows.length-i=m→i≤rows.length→out.length≤i→(∀r,r∈out→r∈rows)→
  ∃l,F.f123 rows c out i=some l∧l.length≤rows.length∧∀r,r∈l→r∈rows
 |m,i,out,hm,hir,ho,hq=>by
  rw[F.f123]
  by_cases hi:i<rows.length
  ·rw[if_pos hi,List.getElem?_eq_getElem hi]
   simp only[Option.bind_eq_bind,Option.bind_some]
   match m,hm with
   |0,hm=>omega
   |m+1,hm=>
    split
    ·exact P.YAA rows c hr m (i+1) out (by omega) (by omega) (by omega) hq
    ·rw[if_pos (by omega)]
     exact P.YAA rows c hr m (i+1) _ (by omega) (by omega) (by simp;omega) fun r h=>by
      rcases List.mem_append.1 h with h|h
      ·exact hq r h
      ·rw[List.mem_singleton.1 h];exact List.getElem_mem hi
  ·rw[if_neg hi];exact⟨out,rfl,by omega,hq⟩
theorem P.YAb (rows:List ZA)(c:Int)(hr:rows.length≤67108864):∃l,F.f124 rows c=some l∧l.length≤rows.length∧∀r,r∈l→r∈rows:=by
 obtain⟨l,e,h⟩:=P.YAA rows c hr _ 0 [] rfl (by omega) (by simp) (by simp)
 unfold F.f124
 rw[e]
 exact⟨l,rfl,h⟩
theorem P.YAC (rows:List ZA)(a:Nat)(hr:rows.length≤67108864)(ha:∀r,r∈rows→a<r.f1.length):∀(m i n:Nat),rows.length-i=m→n≤i→i≤rows.length→∃c,F.f125 rows (a:Int) n i=some c
 |m,i,n,hm,hn,hir=>by
  rw[F.f125]
  by_cases hi:i<rows.length
  ·rw[if_pos hi,List.getElem?_eq_getElem hi]
   simp only[Option.bind_eq_bind,Option.bind_some]
   rw[ZAZ (ha _ (List.getElem_mem hi))]
   simp only[Option.bind_some]
   match m,hm with
   |0,hm=>omega
   |m+1,hm=>
    split
    ·exact P.YAC rows a hr ha m (i+1) n (by omega) (by omega) (by omega)
    ·rw[if_pos (by omega)]
     exact P.YAC rows a hr ha m (i+1) (n+1) (by omega) (by omega) (by omega)
  ·rw[if_neg hi];exact⟨n,rfl⟩
theorem P.YAF (rows:List ZA)(a:Nat)(hr:rows.length≤67108864)(ha:∀r,r∈rows→a<r.f1.length):∃c,F.f126 rows (a:Int)=some c:=by
 obtain⟨c,e⟩:=P.YAC rows a hr ha _ 0 0 rfl (by omega) (by omega)
 unfold F.f126
 rw[e]
 exact⟨_,rfl⟩
theorem P.YAy (rows:List ZA)(a:Nat)(n:Int)(ha:∀r,r∈rows→a<r.f1.length):∀(m i:Nat),rows.length-i=m→∃c,F.f131 rows (a:Int) n i=some c
 |m,i,hm=>by
  rw[F.f131]
  by_cases hi:i<rows.length
  ·rw[if_pos hi,List.getElem?_eq_getElem hi]
   simp only[Option.bind_eq_bind,Option.bind_some]
   rw[ZAZ (ha _ (List.getElem_mem hi))]
   simp only[Option.bind_some]
   match m,hm with
   |0,hm=>omega
   |m+1,hm=>
    split
    ·split
     ·exact⟨_,rfl⟩
     ·split
      ·exact⟨_,rfl⟩
      ·exact P.YAy rows a n ha m (i+1) (by omega)
    ·exact P.YAy rows a n ha m (i+1) (by omega)
  ·rw[if_neg hi];exact⟨_,rfl⟩
theorem P.YA2 (rows:List ZA)(a:Nat)(n:Int)(ha:∀r,r∈rows→a<r.f1.length):∃c,F.f132 rows (a:Int) n=some c:=by
 obtain⟨c,e⟩:=P.YAy rows a n ha _ 0 rfl
 unfold F.f132
 rw[e]
 cases c<;>exact⟨_,rfl⟩
def ZF4 (w:List Data)(t:Ty)(b:Branch):Prop:=if t.data= -1 then b.ctor= -1 else b.ctor∈ZO w t
theorem P.YAI (w:List Data)(t:Ty)(h1:t.data= -1)(rows:List ZA)(a:Nat)(ha:∀r,r∈rows→a<r.f1.length):∀(m n f:Nat) (out:List Branch),11-n=m→out.length≤n→n≤11→(∀b,b∈out→ZF4 w t b)→
  ∃l,F.f134 rows (a:Int) out f n=some l∧l.length≤11∧∀b,b∈l→ZF4 w t b
 |0,n,f,out,hm,ho,hn,hb=>by rw[F.f134,if_neg (by omega)];exact⟨out,rfl,by omega,hb⟩
 |m+1,n,f,out,hm,ho,hn,hb=>by
  have hb2:∀b,b∈out++[(⟨-1,(f:Int),IntKind.i64.wrap ((n:Int) -1),⟨0,0,[],[],[],[]⟩⟩:Branch)]→ZF4 w t b:=fun b h=>by
   rcases List.mem_append.1 h with h|h
   ·exact hb b h
   ·rw[List.mem_singleton.1 h];unfold ZF4;rw[if_pos h1]
  rw[F.f134,if_pos (by omega)]
  split
  ·rw[if_pos (by omega),if_pos (by omega)]
   exact P.YAI w t h1 rows a ha m (n+1) n _ (by omega) (by simp;omega) (by omega) hb2
  ·obtain⟨c,e⟩:=P.YA2 rows a n ha
   rw[e]
   simp only[Option.bind_eq_bind,Option.bind_some]
   split
   ·rw[if_pos (by omega),if_pos (by omega)]
    exact P.YAI w t h1 rows a ha m (n+1) n _ (by omega) (by simp;omega) (by omega) hb2
   ·rw[if_pos (by omega)]
    exact P.YAI w t h1 rows a ha m (n+1) f out (by omega) (by omega) (by omega) hb
theorem ZNp {w:List Data}{t:Ty}(h:Za w t):tIx w t:=by
 obtain⟨h1|h1,h2⟩:=h
 ·exact .inl h1.1
 ·exact .inr ⟨h1.1,h1.2.1,h2,h1.2.2.2⟩
theorem P.YAk (c:Int)(ts:List Ty)(hl:ts.length≤67108864):∀(m i:Nat) (out:List Pattern),ts.length-i=m→out.length+m≤67108864→F.f127 c ts out i=some (out++List.replicate m anyP0)
 |0,i,out,hm,ho=>by rw[F.f127,if_neg (by omega)];simp
 |m+1,i,out,hm,ho=>by
  have hi:i<ts.length:=by omega
  rw[F.f127,if_pos hi,P.YAG]
  simp only[Option.bind_eq_bind,Option.bind_some]
  rw[if_pos (by omega),P.YAk c ts hl m (i+1) _ (by omega) (by simp;omega),List.replicate_succ]
  simp
theorem P.YAu {w:List Data}(hw:ZT w){t:Ty}(ht:tOk w t){c:Int}(h:c∈ZO w t):F.f128 w t c=some ⟨4,c,0,0,0,List.replicate (ZQ w t c).length anyP0⟩:=by
 have h3:=(ZG3 hw ht h).1
 unfold F.f128
 rw[P.YA w hw t ht c h]
 simp only[Option.bind_eq_bind,Option.bind_some]
 rw[P.YAk c _ (by omega) _ 0 [] rfl (by simp;omega)]
 simp
theorem P.YAa {w:List Data}{T:List Int}(h:TOk w T)(p:Pattern)(ts:List Ty)(ht:∀a,a∈ts→Za w a)(hp:p.kids=List.replicate ts.length anyP0):∀(m i:Nat),ts.length-i=m→∃r,F.f130 w T p ts i=some r
 |m,i,hm=>by
  rw[F.f130]
  by_cases hi:i<ts.length
  ·rw[if_pos hi,List.getElem?_eq_getElem hi,hp,List.getElem?_eq_getElem (by simpa using hi)]
   simp only[Option.bind_eq_bind,Option.bind_some,List.getElem_replicate]
   rw[F.f129,if_pos (show anyP0.op=1 from rfl),P.YC h (ZNp (ht _ (List.getElem_mem hi)))]
   simp only[Option.bind_eq_bind,Option.bind_some]
   match m,hm with
   |0,hm=>omega
   |m+1,hm=>
    split
    ·exact P.YAa h p ts ht hp m (i+1) (by omega)
    ·exact⟨_,rfl⟩
  ·rw[if_neg hi];exact⟨_,rfl⟩
theorem P.YAe {w:List Data}{T:List Int}(h:TOk w T){t:Ty}(ht:Za w t){c:Int}(hc:c∈ZO w t):∃b,F.f129 w T t ⟨4,c,0,0,0,List.replicate (ZQ w t c).length anyP0⟩=some b:=by
 rw[F.f129,if_neg (show ¬(4:Int)=1 by decide),if_neg (show ¬(4:Int)=3 by decide),P.YA w h.wok t (ZAP ht.1) c hc]
 simp only[Option.bind_eq_bind,Option.bind_some]
 obtain⟨r,e⟩:=P.YAa h ⟨4,c,0,0,0,List.replicate (ZQ w t c).length anyP0⟩ (ZQ w t c) (ZBa h.wok ht hc) rfl _ 0 rfl
 rw[e]
 cases r<;>exact⟨_,rfl⟩
theorem P.YAY {w:List Data}{T:List Int}(h:TOk w T){col:ZB}(ht:Za w col.f1):∀(m i:Nat) (out:List Branch),(ZO w col.f1).length-i=m→out.length+m≤100→(∀b,b∈out→ZF4 w col.f1 b)→
  ∃l,F.f133 w col T (ZO w col.f1) out i=some l∧l.length≤out.length+m∧∀b,b∈l→ZF4 w col.f1 b
 |0,i,out,hm,ho,hb=>by rw[F.f133,if_neg (by omega)];exact⟨out,rfl,by omega,hb⟩
 |m+1,i,out,hm,ho,hb=>by
  have hi:i<(ZO w col.f1).length:=by omega
  have hc:=List.getElem_mem hi
  obtain⟨b,e⟩:=P.YAe h ht hc
  rw[F.f133,if_pos hi,List.getElem?_eq_getElem hi]
  simp only[Option.bind_eq_bind,Option.bind_some]
  rw[P.YAu h.wok (ZAP ht.1) hc]
  simp only[Option.bind_some]
  rw[e]
  simp only[Option.bind_some]
  split
  ·rw[if_pos (by omega)]
   obtain⟨l,e2,a,b2⟩:=P.YAY h ht m (i+1) (out++[⟨(ZO w col.f1)[i],0,0,⟨0,0,[],[],[],[]⟩⟩]) (by omega) (by simp;omega) (fun b hb2=>by
    rcases List.mem_append.1 hb2 with hb2|hb2
    ·exact hb b hb2
    ·rw[List.mem_singleton.1 hb2];unfold ZF4;rw[if_neg (Zc hc).1];exact hc)
   exact⟨l,e2,by simp at a;omega,b2⟩
  ·obtain⟨l,e2,a,b2⟩:=P.YAY h ht m (i+1) out (by omega) (by omega) hb
   exact⟨l,e2,by omega,b2⟩
theorem P.YAB {w:List Data}{T:List Int}(h:TOk w T)(hT:F.f53 w=some T){col:ZB}(ht:Za w col.f1)(hcl:(ZO w col.f1).length≤50)(rows:List ZA)(a:Nat)(ha:∀r,r∈rows→a<r.f1.length):
  ∃l,F.f135 w col rows (a:Int)=some l∧l.length≤50∧∀b,b∈l→ZF4 w col.f1 b:=by
 unfold F.f135
 split
 ·next h1=>
  obtain⟨l,e,b,c⟩:=P.YAI w col.f1 h1 rows a ha _ 1 0 [] rfl (by simp) (by omega) (by simp)
  rw[e]
  exact⟨l,rfl,by omega,c⟩
 ·rw[hT]
  simp only[Option.bind_eq_bind,Option.bind_some]
  rw[P.YD w h.wok _ (ZAP ht.1)]
  simp only[Option.bind_some]
  obtain⟨l,e,b,c⟩:=P.YAY h ht _ 0 [] rfl (by simp;omega) (by simp)
  rw[e]
  exact⟨l,rfl,by simp at b;omega,c⟩
theorem ZBL {w:List Data}(hw:ZT w){t:Ty}(ht:tOk w t):(ZO w t).length≤4:=by
 unfold ZO
 split
 ·simp
 ·next hn=>
  have:=(Zu hw ht hn).1
  have h2:=ZEe t.index 0 (Zq w t).ctors
  omega
structure CompOk (w:List Data)(n:Nat)(cols:List ZB)(rows:List ZA)(B:Nat):Prop where
 okC:ColsOk w cols B
 okR:∀r,r∈rows→RowOk w cols n 60 r
 few:rows.length≤4000
theorem P.YAR {w:List Data}{T:List Int}(h:TOk w T)(hT:F.f53 w=some T){n:Nat}{cols:List ZB}{rows:List ZA}{B:Nat}(hc:CompOk w n cols rows B)(hB:B≤100000)(h0:0<rows.length)(pick:Int):
  ∀(m i best:Nat),cols.length-i=m→(∃h:best<(rows[0]).f1.length,(rows[0]).f1[best].op≠1)→∃b:Nat,F.f136 w cols rows pick (i:Int) (best:Int)=some (b:Int)∧∃h:b<(rows[0]).f1.length,(rows[0]).f1[b].op≠1
 |m,i,best,hm,hb=>by
  have hr0:=hc.okR _ (List.getElem_mem h0)
  have hlen:=hr0.len
  have hcl:=hc.okC.len
  have hall:∀a,a<cols.length→∀r,r∈rows→a<r.f1.length:=fun a ha r hr=>by rw[(hc.okR r hr).len];exact ha
  rw[F.f136]
  by_cases hi:i<cols.length
  ·rw[if_pos (by omega)]
   split
   ·exact⟨best,rfl,hb⟩
   ·rw[List.getElem?_eq_getElem h0]
    simp only[Option.bind_eq_bind,Option.bind_some]
    rw[ZAZ (by omega:i<(rows[0]).f1.length)]
    simp only[Option.bind_some]
    have hw1:IntKind.i64.wrap ((i:Int)+1)=((i+1:Nat):Int):=by rw[ZG (by omega) (by omega)];omega
    rw[hw1]
    obtain⟨hbl,hbo⟩:=hb
    match m,hm with
    |0,hm=>omega
    |m+1,hm=>
     split
     ·exact P.YAR h hT hc hB h0 pick m (i+1) best (by omega) ⟨hbl,hbo⟩
     ·next h1=>
      have hrec:=fun(b:Nat) (hb:∃h:b<(rows[0]).f1.length,(rows[0]).f1[b].op≠1)=>P.YAR h hT hc hB h0 pick m (i+1) b (by omega) hb
      have r1:=hrec best ⟨hbl,hbo⟩
      have r2:=hrec i ⟨by omega,h1⟩
      split
      ·obtain⟨c1,e1⟩:=P.YAF rows i (by have:=hc.few;omega) (hall i hi)
       obtain⟨c2,e2⟩:=P.YAF rows best (by have:=hc.few;omega) (hall best (by omega))
       rw[e1]
       simp only[Option.bind_some]
       rw[e2]
       simp only[Option.bind_some]
       split
       ·exact r2
       ·exact r1
      ·split
       ·have hbc:best<cols.length:=by omega
        have t1:=hc.okC.ty _ (List.getElem_mem hi)
        have t2:=hc.okC.ty _ (List.getElem_mem hbc)
        obtain⟨l1,e1,_⟩:=P.YAB h hT t1 (by have:=ZBL h.wok (ZAP t1.1);omega) rows i (hall i hi)
        obtain⟨l2,e2,_⟩:=P.YAB h hT t2 (by have:=ZBL h.wok (ZAP t2.1);omega) rows best (hall best hbc)
        rw[ZAZ hi]
        simp only[Option.bind_some]
        rw[e1]
        simp only[Option.bind_some]
        rw[ZAZ hbc]
        simp only[Option.bind_some]
        rw[e2]
        simp only[Option.bind_some]
        split
        ·exact r2
        ·exact r1
       ·exact r1
  ·rw[if_neg (by omega)];exact⟨best,rfl,hb⟩
theorem P.YAq {w:List Data}{T:List Int}(h:TOk w T)(hT:F.f53 w=some T){n:Nat}{cols:List ZB}{rows:List ZA}{B:Nat}(hc:CompOk w n cols rows B)(hB:B≤100000)(h0:0<rows.length)(pick:Int)
  {k:Nat} (hk:k<(rows[0]).f1.length) (he:F.f119 rows[0]=some (k:Int)) (ho:(rows[0]).f1[k].op≠1):∃b:Nat,F.f137 w cols rows pick=some (b:Int)∧∃h:b<(rows[0]).f1.length,(rows[0]).f1[b].op≠1:=by
 have hlen:=(hc.okR _ (List.getElem_mem h0)).len
 have hcl:=hc.okC.len
 unfold F.f137
 rw[List.getElem?_eq_getElem h0]
 simp only[Option.bind_eq_bind,Option.bind_some]
 rw[he]
 simp only[Option.bind_some]
 rw[ZG (by omega) (by omega),show((k:Int)+1)=((k+1:Nat):Int)from by omega]
 obtain⟨b,e,hb⟩:=P.YAR h hT hc hB h0 pick _ (k+1) k rfl ⟨hk,ho⟩
 rw[e]
 exact⟨b,rfl,hb⟩
def Zp (path:List Int):Nat→List Ty→List ZB
 |_,[]=>[]
 |k,t::r=>⟨path++[(k:Int)],t⟩::Zp path (k+1) r
theorem Zo (path:List Int):∀(k:Nat) (ts:List Ty),(Zp path k ts).length=ts.length
 |_,[]=>rfl
 |k,t::r=>by simp[Zp,Zo path (k+1) r]
theorem ZBM (path:List Int):∀(k:Nat) (ts:List Ty) (i:Nat) (h:i<(Zp path k ts).length) (h':i<ts.length),(Zp path k ts)[i]=⟨path++[((k+i:Nat):Int)],ts[i]⟩
 |k,[],i,h,h'=>absurd h' (by simp)
 |k,t::r,0,h,h'=>rfl
 |k,t::r,i+1,h,h'=>by
  have:=ZBM path (k+1) r i (by simpa[Zp]using h) (by simpa using h')
  simp only[Zp,List.getElem_cons_succ,this]
  congr 3
  omega
noncomputable def Zt (w:List Data)(c:ZB)(b:Branch):List Ty:=if b.ctor= -1 then[]else ZQ w c.f1 b.ctor
noncomputable def ZX (w:List Data)(cols:List ZB)(a:Nat)(c:ZB)(b:Branch):List ZB:=cols.take a++Zp c.f0 0 (Zt w c b)++cols.drop (a+1)
theorem P.YAE (cols:List ZB)(a:Nat)(ha:a<cols.length)(hp:cols[a].f0.length≤1048576)(ts:List Ty):∀(m i:Nat) (out:List ZB),ts.length-i=m→out.length+m≤67108864→F.f139 cols (a:Int) ts out i=some (out++Zp cols[a].f0 i (ts.drop i))
 |0,i,out,hm,ho=>by rw[F.f139,if_neg (by omega),List.drop_eq_nil_of_le (by omega)];simp[Zp]
 |m+1,i,out,hm,ho=>by
  have hi:i<ts.length:=by omega
  rw[F.f139,if_pos hi,ZAZ ha]
  simp only[Option.bind_eq_bind,Option.bind_some]
  unfold F.f138
  rw[if_pos (by omega),if_pos (by omega)]
  simp only[Option.bind_some]
  rw[List.getElem?_eq_getElem hi]
  simp only[Option.bind_some]
  rw[if_pos (by omega),P.YAE cols a ha hp ts m (i+1) _ (by omega) (by simp;omega),List.drop_eq_getElem_cons hi]
  simp[Zp]
theorem ZCb {w:List Data}(hw:ZT w){c:ZB}(ht:Za w c.f1){b:Branch}(hb:ZF4 w c.f1 b):(Zt w c b).length≤3∧∀t,t∈Zt w c b→Za w t:=by
 unfold Zt
 unfold ZF4 at hb
 split
 ·simp
 ·next h1=>
  split at hb
  ·exact absurd hb h1
  ·exact⟨(ZG3 hw (ZAP ht.1) hb).1,ZBa hw ht hb⟩
theorem P.Yv {w:List Data}(hw:ZT w){cols:List ZB}{B:Nat}(hc:ColsOk w cols B)(hB:B≤100000){a:Nat}(ha:a<cols.length){b:Branch}(hb:ZF4 w cols[a].f1 b):F.f140 w cols (a:Int) b=some (ZX w cols a cols[a] b):=by
 have hl:=hc.len
 have ht:=hc.ty _ (List.getElem_mem ha)
 have hp:=hc.path _ (List.getElem_mem ha)
 have hw1:IntKind.i64.wrap ((a:Int)+1)=((a+1:Nat):Int):=by rw[ZG (by omega) (by omega)];omega
 have hn:=ZCb hw ht hb
 unfold F.f140
 rw[hw1]
 simp only[Int.toNat_natCast,List.drop_zero,Nat.sub_zero]
 have hdrop:(cols.drop (a+1)).take (cols.length- (a+1))=cols.drop (a+1):=List.take_of_length_le (by simp)
 rw[hdrop,if_pos (by omega),if_pos (by simp;omega)]
 by_cases h1:b.ctor= -1
 ·rw[if_pos h1,if_pos (by omega),if_pos (by simp;omega)]
  simp[ZX,Zt,h1,Zp]
 ·unfold ZF4 at hb
  split at hb
  ·exact absurd hb h1
  ·have e:Zt w cols[a] b=ZQ w cols[a].f1 b.ctor:=by unfold Zt;rw[if_neg h1]
   rw[e]at hn
   rw[if_neg h1,ZAZ ha]
   simp only[Option.bind_eq_bind,Option.bind_some]
   rw[P.YA w hw _ (ZAP ht.1) _ hb]
   simp only[Option.bind_some]
   rw[P.YAE cols a ha (by omega) _ _ 0 _ rfl (by simp;omega)]
   simp only[Option.bind_some]
   rw[if_pos (by omega),if_pos (by simp[Zo];omega)]
   simp[ZX,e]
def ZKF (p:Pattern)(j:Nat):Nat:=if p.op=4 then((p.kids.drop j).map fun k=>1+k.wt).sum else 0
theorem ZHb :anyP0.wt=0:=by rw[Pattern.wt_eq];rfl
set_option maxHeartbeats 4000000 in
theorem P.YA3 {w:List Data}(cols:List ZB)(rows:List ZA){a nl S:Nat}(ha:a<cols.length)(hcl:cols.length≤100000)(hnl:nl≤3)(b:Branch)(v:List ZB)(hv:v.length=a+nl+(cols.length- (a+1)))
  (out:List ZA) (i:Nat) (x:Pattern) (f0:Int) (hS:S≤1000)
  (hvp:∀k (h:k<v.length),v[k].f0.length≤10)
  (hx:x.op=4→x.kids.length=nl) (hk:x.op=4→∀j (h:j<x.kids.length) (h':a+j<v.length),ZF1 w (10-v[a+j].f0.length) v[a+j].f1 x.kids[j]):
  ∀(m j:Nat) (z:List PathBind) (o:List Pattern),nl-j=m→j≤nl→o.length=a+j→(∀k (h:k<o.length) (h':k<v.length),ZL1 w v[k].f0.length v[k].f1 o[k])→(∀b,b∈z→b.path.length≤10)→z.length+(o.map Pattern.wt).sum+ZKF x j≤S→
  ∃z' o',F.f142 cols rows (a:Int) b v out i x f0 z o ((a+j:Nat):Int)=some (f0,z',o')∧o'.length=a+nl∧(∀k (h:k<o'.length) (h':k<v.length),ZL1 w v[k].f0.length v[k].f1 o'[k])∧(∀b,b∈z'→b.path.length≤10)∧z'.length+(o'.map Pattern.wt).sum≤S:=by
 have e1:IntKind.i64.wrap ((v.length:Int) -IntKind.i64.wrap (IntKind.i64.wrap ((cols.length:Int) - (a:Int)) -1))=((a+nl:Nat):Int):=by
  have a1:IntKind.i64.wrap ((cols.length:Int) - (a:Int))=(cols.length:Int) - (a:Int):=ZG (by omega) (by omega)
  have a2:IntKind.i64.wrap ((cols.length:Int) - (a:Int) -1)=(cols.length:Int) - (a:Int) -1:=ZG (by omega) (by omega)
  rw[a1,a2,ZG (by omega) (by omega)]
  omega
 have ol:∀l:List Pattern,l.length≤100010→l.length+1≤67108864:=fun l h=>by omega
 intro m
 induction m with
 |zero=>
  intro j z o hm hj ho hc hz hs
  rw[F.f142.eq_def,e1,if_neg (by omega)]
  exact⟨z,o,rfl,by omega,hc,hz,by omega⟩
 |succ m ih=>
  intro j z o hm hj ho hc hz hs
  have hlt:j<nl:=by omega
  rw[F.f142.eq_def,e1]
  have hva:a+j<v.length:=by omega
  have hw1:IntKind.i64.wrap (((a+j:Nat):Int)+1)=((a+(j+1):Nat):Int):=by rw[ZG (by omega) (by omega)];omega
  rw[if_pos (by omega),P.YAG,hw1]
  simp only[Option.bind_eq_bind,Option.bind_some]
  have next:∀(z':List PathBind) (q:Pattern),ZL1 w v[a+j].f0.length v[a+j].f1 q→(∀b,b∈z'→b.path.length≤10)→z'.length+q.wt+(o.map Pattern.wt).sum+ZKF x (j+1)≤S→
    ∃z'' o',F.f142 cols rows (a:Int) b v out i x f0 z' (o++[q]) ((a+(j+1):Nat):Int)=some (f0,z'',o')∧o'.length=a+nl∧(∀k (h:k<o'.length) (h':k<v.length),ZL1 w v[k].f0.length v[k].f1 o'[k])∧(∀b,b∈z''→b.path.length≤10)∧z''.length+(o'.map Pattern.wt).sum≤S:=fun z' q hq hz' hs'=>
   ih (j+1) z' (o++[q]) (by omega) (by omega) (by simp;omega) (fun k h h'=>by
    by_cases e:k<o.length
    ·rw[List.getElem_append_left e];exact hc k e h'
    ·have:k=a+j:=by simp at h;omega
     subst this
     rw[List.getElem_append_right (by omega)]
     simpa[ho]using hq) hz' (by simp;omega)
  split
  ·next h4=>
   have hkl:=hx h4
   have hrem:ZKF x j=(1+x.kids[j].wt)+ZKF x (j+1):=by
    unfold ZKF
    rw[if_pos h4,if_pos h4,List.drop_eq_getElem_cons (by omega:j<x.kids.length),List.map_cons,List.sum_cons]
   rw[ZG (by omega) (by omega),show((a+j:Nat):Int) - (a:Int)=(j:Int)from by omega,ZAZ (by omega:j<x.kids.length)]
   simp only[Option.bind_some]
   rw[ZAZ hva]
   simp only[Option.bind_some]
   obtain⟨z',q,e2,c1,c2,_,c4⟩:=P.Yn (w:=w) (t:=v[a+j].f1) (k:=v[a+j].f0.length) ⟨f0,o,z⟩ v[a+j].f0 (Nat.le_refl _) (hvp _ hva) x.kids[j] (.inr (hk h4 j (by omega) hva)) (by show z.length+1+_≤_;omega) hz
   rw[e2]
   simp only[Option.bind_some]
   rw[if_pos (ol o (by omega))]
   exact next z' q c1 c4 (by show _;simp only at c2;omega)
  ·next h4=>
   have hrem:ZKF x j=ZKF x (j+1):=by unfold ZKF;rw[if_neg h4,if_neg h4]
   rw[ZAZ hva]
   simp only[Option.bind_some]
   obtain⟨z',q,e2,c1,_,c3,c4⟩:=P.Yn (w:=w) (t:=v[a+j].f1) (k:=v[a+j].f0.length) ⟨f0,o,z⟩ v[a+j].f0 (Nat.le_refl _) (hvp _ hva) anyP0 (.inl rfl) (by rw[ZHb];show z.length+1+_≤_;omega) hz
   rw[e2]
   simp only[Option.bind_some]
   rw[if_pos (ol o (by omega))]
   have c3:=c3 rfl
   exact next z' q c1 c4 (by simp only at c3;omega)
theorem P.YAs (p:Pattern)(b:Branch):∃v,F.f141 p b=some v∧(v=true→p.op=1∨p.op=3∨p.ctor=b.ctor):=by
 unfold F.f141
 split
 ·next h=>exact⟨_,rfl,fun _=>.inl h⟩
 ·split
  ·next h=>
   split
   ·exact⟨_,rfl,fun _=>.inr (.inl h)⟩
   ·exact⟨_,rfl,fun _=>.inr (.inl h)⟩
  ·exact⟨_,rfl,fun h=>.inr (.inr (of_decide_eq_true h))⟩
theorem ZDX {w:List Data}{cols:List ZB}{a:Nat}(ha:a<cols.length)(b:Branch):(ZX w cols a cols[a] b).length=a+(Zt w cols[a] b).length+(cols.length- (a+1)):=by
 simp[ZX,Zo];omega
theorem ZIC {w:List Data}{cols:List ZB}{a:Nat}(ha:a<cols.length)(b:Branch){k:Nat}(hk:k<a)(h:k<(ZX w cols a cols[a] b).length):(ZX w cols a cols[a] b)[k]=cols[k]:=by
 revert h;unfold ZX;intro h
 rw[List.getElem_append_left (by simp[Zo];omega),List.getElem_append_left (by simp;omega),List.getElem_take]
theorem ZGa {w:List Data}{cols:List ZB}{a:Nat}(ha:a<cols.length)(b:Branch){j:Nat}(hj:j<(Zt w cols[a] b).length)(h:a+j<(ZX w cols a cols[a] b).length):(ZX w cols a cols[a] b)[a+j]=⟨cols[a].f0++[(j:Int)],(Zt w cols[a] b)[j]⟩:=by
 revert h;unfold ZX;intro h
 rw[List.getElem_append_left (by simp[Zo];omega),List.getElem_append_right (by simp;omega)]
 have e:a+j- (cols.take a).length=j:=by simp;omega
 simp only[e]
 rw[ZBM _ _ _ _ _ hj]
 simp
theorem ZID {w:List Data}{cols:List ZB}{a:Nat}(ha:a<cols.length)(b:Branch){j:Nat}(hj:a+1+j<cols.length)(h:a+(Zt w cols[a] b).length+j<(ZX w cols a cols[a] b).length):(ZX w cols a cols[a] b)[a+(Zt w cols[a] b).length+j]=cols[a+1+j]:=by
 revert h;unfold ZX;intro h
 rw[List.getElem_append_right (by simp[Zo];omega)]
 have e:a+(Zt w cols[a] b).length+j- (cols.take a++Zp cols[a].f0 0 (Zt w cols[a] b)).length=j:=by simp[Zo];omega
 simp only[e]
 rw[List.getElem_drop]
theorem ZEG {w:List Data}(hw:ZT w){cols:List ZB}{B:Nat}(hc:ColsOk w cols B){a:Nat}(ha:a<cols.length)(h9:cols[a].f0.length≤9){b:Branch}(hb:ZF4 w cols[a].f1 b):ColsOk w (ZX w cols a cols[a] b) (B+3):=by
 have hn:=ZCb hw (hc.ty _ (List.getElem_mem ha)) hb
 have hl:=hc.len
 have mem:∀c,c∈ZX w cols a cols[a] b→c∈cols∨∃j,∃h:j<(Zt w cols[a] b).length,c=⟨cols[a].f0++[(j:Int)],(Zt w cols[a] b)[j]⟩:=by
  intro c h
  unfold ZX at h
  rcases List.mem_append.1 h with h|h
  ·rcases List.mem_append.1 h with h|h
   ·exact .inl (List.mem_of_mem_take h)
   ·obtain⟨j,hj,rfl⟩:=List.getElem_of_mem h
    have hj2:j<(Zt w cols[a] b).length:=by rw[Zo]at hj;exact hj
    refine .inr ⟨j,hj2,?_⟩
    rw[ZBM _ _ _ _ _ hj2]
    simp
  ·exact .inl (List.mem_of_mem_drop h)
 refine⟨by rw[ZDX ha];omega,fun c h=> ?_,fun c h=> ?_⟩
 ·rcases mem c h with h|⟨j,hj,rfl⟩
  ·exact hc.ty c h
  ·exact hn.2 _ (List.getElem_mem hj)
 ·rcases mem c h with h|⟨j,hj,rfl⟩
  ·exact hc.path c h
  ·simp;omega
theorem P.YAj {w:List Data}(hw:ZT w){cols:List ZB}{B:Nat}(hc:ColsOk w cols B)(hB:B≤100000){a:Nat}(ha:a<cols.length)(h9:cols[a].f0.length≤9){b:Branch}(hb:ZF4 w cols[a].f1 b){n:Nat}{x:ZA}(hx:RowOk w cols n 60 x)(hxa:a<x.f1.length)
  (fit:x.f1[a].op=1∨x.f1[a].op=3∨x.f1[a].ctor=b.ctor) (rows:List ZA) (out:List ZA) (i:Nat):
  ∃z o,F.f142 cols rows (a:Int) b (ZX w cols a cols[a] b) out i x.f1[a] x.f0 x.f2 (x.f1.take a) (a:Int)=some (x.f0,z,o)∧o.length≤a+3∧RowOk w (ZX w cols a cols[a] b) n 60 ⟨x.f0,o++x.f1.drop (a+1),z⟩:=by
 have hlen:=hx.len
 have hcl:=hc.len
 have hn:=ZCb hw (hc.ty _ (List.getElem_mem ha)) hb
 have hok:=ZEG hw hc ha h9 hb
 have hvl:=ZDX (w:=w) ha b
 have hpa:=hx.pat a hxa ha
 have hsum:(x.f1.map Pattern.wt).sum=((x.f1.take a).map Pattern.wt).sum+x.f1[a].wt+((x.f1.drop (a+1)).map Pattern.wt).sum:=by
  have e0:x.f1=x.f1.take a++x.f1[a]::x.f1.drop (a+1):=by rw[←List.drop_eq_getElem_cons hxa,List.take_append_drop]
  have e1:=congrArg (fun l=>(l.map Pattern.wt).sum) e0
  simp only[List.map_append,List.map_cons,List.sum_append,List.sum_cons]at e1
  omega
 have hwt:=hx.wt
 have op4:x.f1[a].op=4→ZF1 w (10-cols[a].f0.length) cols[a].f1 x.f1[a]:=fun h4=>by
  rcases hpa with e|⟨e,_⟩
  ·rw[e]at h4;cases h4
  ·exact e
 have ty4:x.f1[a].op=4→ZK w cols[a].f1 x.f1[a]=Zt w cols[a] b:=fun h4=>by
  have hct:x.f1[a].ctor=b.ctor:=by
   rcases fit with f|f|f
   ·omega
   ·omega
   ·exact f
  rcases ZKU (op4 h4)with h|h|⟨h,_⟩|⟨_,h⟩|h
  ·omega
  ·omega
  ·omega
  ·have:=(Zc h).2.1
   unfold ZK Zt
   rw[if_pos h4,hct,if_neg (by omega)]
  ·omega
 have hrem:ZKF x.f1[a] 0≤x.f1[a].wt:=by
  have key:∀l:List Pattern,(l.map fun k=>1+k.wt).sum=wtL Pattern.wt l:=by
   intro l
   induction l with
   |nil=>rfl
   |cons a r ih=>simp[ih]
  unfold ZKF
  split
  ·rw[List.drop_zero,key,←Pattern.wt_eq];exact Nat.le_refl _
  ·exact Nat.zero_le _
 obtain⟨z,o,e,o1,o2,o3,o4⟩:=P.YA3 (w:=w) cols rows (nl:=(Zt w cols[a] b).length) (S:=x.f2.length+((x.f1.take a).map Pattern.wt).sum+x.f1[a].wt) ha (by omega) hn.1 b (ZX w cols a cols[a] b) hvl out i x.f1[a] x.f0 (by omega)
  (fun k h=>hok.path _ (List.getElem_mem h))
  (fun h4=>by
   have:=op4 h4
   have h3:=ty4 h4
   revert this
   cases hd:10-cols[a].f0.length with
   |zero=>intro h;exact h.elim
   |succ d=>intro h;rw[h.2.2.1,h3])
  (fun h4 j hj hv=>by
   have:=op4 h4
   have h3:=ty4 h4
   have hd:10-cols[a].f0.length=(9-cols[a].f0.length)+1:=by omega
   rw[hd]at this
   have hk:=this.2.2.1
   have hj2:j<(Zt w cols[a] b).length:=by rw[←h3];omega
   have hs:=this.2.2.2 j (by omega) hj
   simp only[h3]at hs
   rw[ZGa ha b hj2]
   have h10:10- (cols[a].f0++[(j:Int)]).length=9-cols[a].f0.length:=by simp only[List.length_append,List.length_singleton];omega
   simp only[h10]
   exact hs)
  _ 0 x.f2 (x.f1.take a) rfl (Nat.zero_le _) (by simp;omega)
  (fun k h h'=>by
   have hka:k<a:=by simp at h;omega
   rw[ZIC ha b hka,List.getElem_take]
   exact hx.pat k (by omega) (by omega))
  hx.path (by omega)
 refine⟨z,o,e,by have:=hn.1;omega,⟨hx.lo,hx.hi,?_,fun k h h'=> ?_,?_,o3⟩⟩
 ·show(o++x.f1.drop (a+1)).length=_
  rw[hvl,List.length_append,List.length_drop,o1];omega
 ·show ZL1 w _ _ (o++x.f1.drop (a+1))[k]
  by_cases hk:k<o.length
  ·rw[List.getElem_append_left hk];exact o2 k hk h'
  ·obtain⟨j,rfl⟩:∃j,k=a+(Zt w cols[a] b).length+j:=⟨k- (a+(Zt w cols[a] b).length),by omega⟩
   have hj:a+1+j<cols.length:=by omega
   rw[ZID ha b hj,List.getElem_append_right (by omega),List.getElem_drop]
   have e2:a+1+(a+(Zt w cols[a] b).length+j-o.length)=a+1+j:=by omega
   simp only[e2]
   exact hx.pat (a+1+j) (by omega) hj
 ·show z.length+((o++x.f1.drop (a+1)).map Pattern.wt).sum≤60
  rw[List.map_append,List.sum_append];omega
theorem P.YA4 {w:List Data}(hw:ZT w){cols:List ZB}{B:Nat}(hc:ColsOk w cols B)(hB:B≤100000){a:Nat}(ha:a<cols.length)(h9:cols[a].f0.length≤9){b:Branch}(hb:ZF4 w cols[a].f1 b){n:Nat}{rows:List ZA}(hr:∀r,r∈rows→RowOk w cols n 60 r)(hrl:rows.length≤4000):
  ∀(m i:Nat) (out:List ZA),rows.length-i=m→out.length≤i→i≤rows.length→(∀r,r∈out→RowOk w (ZX w cols a cols[a] b) n 60 r)→
  ∃l,F.f143 cols rows (a:Int) b (ZX w cols a cols[a] b) out i=some l∧l.length≤rows.length∧∀r,r∈l→RowOk w (ZX w cols a cols[a] b) n 60 r:=by
 intro m
 induction m with
 |zero=>
  intro i out hm ho hi hq
  rw[F.f143.eq_def,if_neg (by omega)]
  exact⟨out,rfl,by omega,hq⟩
 |succ m ih=>
  intro i out hm ho hi hq
  have hil:i<rows.length:=by omega
  have hx:=hr _ (List.getElem_mem hil)
  have hlen:=hx.len
  have hcl:=hc.len
  have hxa:a<rows[i].f1.length:=by omega
  obtain⟨v8,e8,fit⟩:=P.YAs rows[i].f1[a] b
  rw[F.f143.eq_def,if_pos hil,List.getElem?_eq_getElem hil]
  simp only[Option.bind_eq_bind,Option.bind_some]
  rw[ZAZ hxa]
  simp only[Option.bind_some]
  rw[e8]
  simp only[Option.bind_some]
  by_cases h8:v8=true
  ·obtain⟨z,o,e,ho3,hrow⟩:=P.YAj hw hc hB ha h9 hb hx hxa (fit h8) rows out i
   have hw1:IntKind.i64.wrap ((a:Int)+1)=((a+1:Nat):Int):=by rw[ZG (by omega) (by omega)];omega
   rw[if_pos h8,hw1]
   simp only[Int.toNat_natCast,List.drop_zero,Nat.sub_zero]
   have hdrop:(rows[i].f1.drop (a+1)).take (rows[i].f1.length- (a+1))=rows[i].f1.drop (a+1):=List.take_of_length_le (by simp)
   rw[if_pos (by omega),if_pos (by simp;omega),e]
   simp only[Option.bind_some]
   rw[hdrop,if_pos (by omega),if_pos (by simp;omega),if_pos (by omega),if_pos (by omega)]
   refine ih (i+1) _ (by omega) (by simp;omega) (by omega) fun r h=> ?_
   rcases List.mem_append.1 h with h|h
   ·exact hq r h
   ·rw[List.mem_singleton.1 h];exact hrow
  ·rw[if_neg h8]
   exact ih (i+1) out (by omega) (by omega) (by omega) hq
theorem P.YAr {w:List Data}(hw:ZT w){cols:List ZB}{B:Nat}(hc:ColsOk w cols B)(hB:B≤100000){a:Nat}(ha:a<cols.length)(h9:cols[a].f0.length≤9){b:Branch}(hb:ZF4 w cols[a].f1 b){n:Nat}{rows:List ZA}(hr:∀r,r∈rows→RowOk w cols n 60 r)(hrl:rows.length≤4000):
  ∃l,F.f144 w cols rows (a:Int) b=some l∧l.length≤rows.length∧∀r,r∈l→RowOk w (ZX w cols a cols[a] b) n 60 r:=by
 obtain⟨l,e,h⟩:=P.YA4 hw hc hB ha h9 hb hr hrl _ 0 [] rfl (by simp) (by omega) (by simp)
 unfold F.f144
 rw[P.Yv hw hc hB ha hb]
 simp only[Option.bind_eq_bind,Option.bind_some]
 rw[e]
 exact⟨l,rfl,h⟩
theorem ZHY :∀(l:List PathBind),(∀b,b∈l→b.path.length≤10)→wtL PathBind.wt l≤11*l.length
 | [],_=>Nat.le_refl _
 |x::l,h=>by
  have h1:=ZHY l fun b hb=>h b (List.mem_cons_of_mem _ hb)
  have h2:=h x (by simp)
  have hz:∀l:List Int,(l.map fun _=>0).sum=0:=by
   intro l
   induction l with
   |nil=>rfl
   |cons a r ih=>rw[List.map_cons,List.sum_cons,ih]
  have h3:PathBind.wt x=x.path.length:=by unfold PathBind.wt wtL;rw[hz];rfl
  rw[ZC7,List.length_cons]
  omega
theorem CompOk.more {w:List Data}{n:Nat}{cols:List ZB}{rows:List ZA}{B C:Nat}(h:CompOk w n cols rows B)(hB:B≤C):CompOk w n cols rows C:=⟨⟨Nat.le_trans h.okC.len hB,h.okC.ty,h.okC.path⟩,h.okR,h.few⟩
theorem ZKI {α:Type}(f:α→Nat)(l:List α)(x:α):wtL f (l++[x])=wtL f l+(1+f x):=by simp[wtL];omega
theorem ZA7 :Tree.wt ⟨0,0,[],[],[],[]⟩=0:=by rw[Tree.wt_eq];rfl
theorem ZKv (c:Int)(b:List PathBind):Tree.wt ⟨1,c,b,[],[],[]⟩=wtL PathBind.wt b:=by rw[Tree.wt_eq];rfl
theorem ZJd (c:Int)(b:List PathBind)(t:Tree):Tree.wt ⟨1,c,b,[],[],[t]⟩=wtL PathBind.wt b+1+t.wt:=by rw[Tree.wt_eq];simp;omega
theorem ZHn (p:List Int)(b:List Branch):Tree.wt ⟨2,0,[],p,b,[]⟩=p.length+wtL Branch.wt b:=by rw[Tree.wt_eq];simp[ZIq]
theorem ZJz {w:List Data}{k:Nat}{t:Ty}{p:Pattern}(h:ZL1 w k t p)(ho:p.op≠1):k≤9:=by
 rcases h with rfl|⟨h,_⟩
 ·exact absurd rfl ho
 ·have:10-k≠0:=fun e=>by rw[e]at h;exact h.elim
  omega
def ZAN (c d:ZB):Prop:=¬c.f0<+:d.f0∧¬d.f0<+:c.f0
theorem ZBN {c d:ZB}(h:ZAN c d)(k:Int)(t:Ty):ZAN c ⟨d.f0++[k],t⟩:=by
 refine⟨fun h1=> ?_,fun h1=>h.2 ((List.prefix_append _ _).trans h1)⟩
 rcases List.prefix_concat_iff.1 h1 with e|e
 ·exact h.2 (by rw[e];exact List.prefix_append _ _)
 ·exact h.1 e
theorem ZAU {path:List Int}{c:ZB}:∀{ts:List Ty} {k:Nat},c∈Zp path k ts→∃j:Nat,∃t,k≤j∧c=⟨path++[(j:Int)],t⟩
 | [],k,h=>by cases h
 |t::r,k,h=>by
  rcases List.mem_cons.1 h with h|h
  ·exact⟨k,t,Nat.le_refl _,h⟩
  ·obtain⟨j,t',a,b⟩:=ZAU h
   exact⟨j,t',by omega,b⟩
theorem ZBk (path:List Int):∀(ts:List Ty) (k:Nat),(Zp path k ts).Pairwise ZAN
 | [],k=>.nil
 |t::r,k=>by
  refine .cons (fun c hc=> ?_) (ZBk path r (k+1))
  obtain⟨j,t',hj,rfl⟩:=ZAU hc
  have ne:path++[(k:Int)]≠path++[(j:Int)]:=fun e=>by
   have:=List.append_cancel_left e
   simp at this;omega
  exact⟨fun h=>ne (h.eq_of_length (by simp)),fun h=>ne (h.eq_of_length (by simp)).symm⟩
theorem ZFX {w:List Data}{cols:List ZB}(h:cols.Pairwise ZAN){a:Nat}(ha:a<cols.length)(b:Branch):(ZX w cols a cols[a] b).Pairwise ZAN∧∀c,c∈ZX w cols a cols[a] b→(∃d,d∈cols∧d.f0<+:c.f0)∧¬c.f0<+:cols[a].f0:=by
 have e:cols=cols.take a++cols[a]::cols.drop (a+1):=by rw[←List.drop_eq_getElem_cons ha,List.take_append_drop]
 have h':=h
 rw[e]at h'
 obtain⟨p1,p2,p3⟩:=List.pairwise_append.1 h'
 obtain⟨p4,p5⟩:=List.pairwise_cons.1 p2
 have ext:∀c d k (t:Ty),ZAN d c→ZAN ⟨c.f0++[k],t⟩ d:=fun c d k t h=>⟨(ZBN h k t).2,(ZBN h k t).1⟩
 refine⟨?_,fun c hc=> ?_⟩
 ·unfold ZX
  refine List.pairwise_append.2 ⟨List.pairwise_append.2 ⟨p1,ZBk _ _ _,fun c hc d hd=> ?_⟩,p5,fun c hc d hd=> ?_⟩
  ·obtain⟨j,t,_,rfl⟩:=ZAU hd
   exact ZBN (p3 c hc _ List.mem_cons_self) _ _
  ·rcases List.mem_append.1 hc with hc|hc
   ·exact p3 c hc d (List.mem_cons_of_mem _ hd)
   ·obtain⟨j,t,_,rfl⟩:=ZAU hc
    have:=p4 d hd
    exact ext _ _ _ _ ⟨this.2,this.1⟩
 ·unfold ZX at hc
  rcases List.mem_append.1 hc with hc|hc
  ·rcases List.mem_append.1 hc with hc|hc
   ·exact⟨⟨c,List.mem_of_mem_take hc,List.prefix_refl _⟩,(p3 c hc _ List.mem_cons_self).1⟩
   ·obtain⟨j,t,_,rfl⟩:=ZAU hc
    exact⟨⟨cols[a],List.getElem_mem ha,List.prefix_append _ _⟩,fun h=>by have:=h.length_le;simp at this;omega⟩
  ·exact⟨⟨c,List.mem_of_mem_drop hc,List.prefix_refl _⟩,(p4 c hc).2⟩
inductive TestedT :Tree→List Int→Prop
 |here (x:Tree) (h:x.op=2):TestedT x x.path
 |br (x:Tree) (b:Branch) (hb:b∈x.branches) (q:List Int) (h:TestedT b.tree q):TestedT x q
 |els (x y:Tree) (hy:y∈x.els) (q:List Int) (h:TestedT y q):TestedT x q
inductive OnceT :Tree→Prop
 |mk (x:Tree) (h1:x.op=2→(∀b,b∈x.branches→¬TestedT b.tree x.path)∧∀y,y∈x.els→¬TestedT y x.path) (h2:∀b,b∈x.branches→OnceT b.tree) (h3:∀y,y∈x.els→OnceT y):OnceT x
theorem ZBU {o c:Int}{bs:List PathBind}{p:List Int}{q:List Int}(ho:o≠2):¬TestedT ⟨o,c,bs,p,[],[]⟩ q:=by
 intro h
 cases h with
 |here _ h=>exact ho h
 |br _ b hb=>cases hb
 |els _ b hb=>cases hb
theorem ZAT {o c:Int}{bs:List PathBind}{p:List Int}(ho:o≠2):OnceT ⟨o,c,bs,p,[],[]⟩:=.mk _ (fun h=>absurd h ho) (fun b hb=>by cases hb) (fun b hb=>by cases hb)
def ZGE (t:Tree):Prop:=∀y,Sub y t→wtL PathBind.wt y.binds+y.path.length≤700
theorem ZAQ {o c:Int}{bs:List PathBind}{p:List Int}(h:wtL PathBind.wt bs+p.length≤700):ZGE ⟨o,c,bs,p,[],[]⟩:=by
 intro y hy
 cases hy with
 |refl=>exact h
 |br _ b hb=>cases hb
 |els _ b hb=>cases hb
end Go.Vl
