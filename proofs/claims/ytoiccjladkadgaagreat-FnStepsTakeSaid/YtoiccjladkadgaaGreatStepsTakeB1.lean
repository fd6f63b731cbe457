/- A part of the proof. -/
import Derived.Test.YtoiccjladkadgaaGreatVlQ
import Derived.Test.YtoiccjladkadgaaGreatStepsTakeE
set_option linter.all false
set_option maxRecDepth 100000
namespace Go.Vl
open Go Go.RowKit
open Go.IntKind (i64)
theorem oS {α β:Type}{a:α}{f:α->Option β}:(some a).bind f=f a:=rfl
theorem oE {α β:Type}:(bind:Option α->(α->Option β)->Option β)=Option.bind:=rfl
theorem gQ {α:Type}{l:List α}{i:Nat}(h:i<l.length):l[i]? =some l[i]:=List.getElem?_eq_getElem h
theorem gM {α:Type}{l:List α}{n:Nat}(h:n<l.length):l[n]∈l:=List.getElem_mem h
noncomputable def ZF5 {α:Type}(p:α->Prop):Nat->List α->Option Nat
 |_,[]=>none
 |k,x::r=>if dec (p x)=true then some k else ZF5 p (k+1) r
theorem ZAp {α:Type}{p:α->Prop}:∀{l:List α} {k j:Nat},ZF5 p k l=some j->k<=j/\∃h:j-k<l.length,p l[j-k]/\∀i (hi:i<l.length),i<j-k->¬p l[i]
 |x::r,k,j,h=>by
  simp only[ZF5]at h
  split at h
  ·next hp=>
   obtain rfl:=Option.some.inj h
   refine⟨Nat.le_refl _,by simp,?_,fun i _ hi=>by omega⟩
   simpa using ZDT.1 hp
  ·next hp=>
   obtain⟨h1,h2,h3,h4⟩:=ZAp h
   have e:j-k=(j- (k+1))+1:=by omega
   refine⟨by omega,by simp;omega,?_,fun i hi hlt=> ?_⟩
   ·simp only[e,List.getElem_cons_succ];exact h3
   ·cases i with
    |zero=>exact fun hq=>hp (ZG hq)
    |succ i=>exact h4 i (by simpa using hi) (by omega)
theorem ZAq {α:Type}{p:α->Prop}:∀{l:List α} {k:Nat},ZF5 p k l=none->∀x,x∈l->¬p x
 | [],_,_=>fun x hx=>by cases hx
 |x::r,k,h=>by
  simp only[ZF5]at h
  split at h
  ·cases h
  ·next hp=>
   intro y hy
   rcases List.mem_cons.1 hy with rfl|hy
   ·exact fun hq=>hp (ZG hq)
   ·exact ZAq h y hy
theorem ZK0 {α:Type}{a:List α}{p:α->Prop}{L:Nat->Option (Lo Int Unit)}(h0:∀k,a.length<=k->L k=some (.go ()))(h1:∀k (h:k<a.length),¬p a[k]->L k=L (k+1))
  (h2:∀k (h:k<a.length),p a[k]->L k=some (.ret (k:Int))):∀(m k:Nat),a.length-k=m->L k=some (match ZF5 p k (a.drop k)with|some j=>.ret (j:Int)|none=>.go ()):=by
 intro m
 induction m with
 |zero=>intro k hm;rw[h0 k (by omega),List.drop_eq_nil_of_le (by omega)];rfl
 |succ m ih=>
  intro k hm
  have hk:k<a.length:=by omega
  rw[List.drop_eq_getElem_cons hk]
  by_cases hp:p a[k]
  ·rw[h2 k hk hp];simp only[ZF5];rw[if_pos (ZG hp)]
  ·rw[h1 k hk hp,ih (k+1) (by omega)];simp only[ZF5];rw[if_neg (by rw[ZF hp];simp)]
def ZNK (c:Nat):Prop:=65<=c/\c<=90
def ZEs (s:ByteArray):Prop:=s.size=1/\ZNK (byteAt s 0)/\s≠⟨#[73]⟩
def ZFT (s:ByteArray):Prop:=1<=s.size/\s.size<=5/\ZNK (byteAt s 0)/\∀i,1<=i->i<s.size->97<=byteAt s i/\byteAt s i<=122
def ZBW (n:Nat)(t:Ty):Prop:=(t.data= -1/\t.index=0)∨(0<=t.data/\t.data<n/\-1<=t.index/\t.index<=3)
def ZEM (n:Nat)(c:Ctor):Prop:=ZFT c.name/\c.args.length<=3/\0<=c.index/\c.index<=3/\∀j,0<=j->(h:j<c.args.length)->ZBW n c.args[j]
theorem P.Yl (c:Nat):F.f11 c=some (dec (ZNK c)):=by
 unfold F.f11
 by_cases h:65<=(c:Int)
 ·rw[if_pos h];congr 1;rw[←ZAI];exact ZL ⟨fun h'=>⟨by omega,by omega⟩,fun h'=>by have:=h'.2;omega⟩
 ·rw[if_neg h,ZF fun h'=>h (by have:=h'.1;omega)]
theorem P.YAW (s:ByteArray):F.f12 s=some (dec (ZEs s)):=by
 unfold F.f12
 by_cases h:s.size=1
 ·rw[if_pos h,if_pos (by omega),P.Yl]
  simp only[oE,oS]
  by_cases hb:ZNK (byteAt s 0)
  ·rw[if_pos (ZG hb)];congr 1;rw[←ZAI];exact ZL ⟨fun h'=>⟨h,hb,fun e=>h' (by rw[e])⟩,fun h' e=>h'.2.2 (ZAS.1 e)⟩
  ·rw[if_neg (by rw[ZF hb];simp),ZF fun h'=>hb h'.2.1]
 ·rw[if_neg h,ZF fun h'=>h h'.1]
theorem P.YAK (s:ByteArray)(hs:s.size<=1048576):F.f13 s 1=some (if dec (∀i,1<=i->i<s.size->97<=byteAt s i/\byteAt s i<=122)=true then .go ()else .ret false):=by
 refine ZIj (L:=F.f13 s) (fun k hk=> ?_) (fun k hk hq=> ?_) (fun k hk hq=> ?_) _ 1 rfl
 ·rw[F.f13,if_neg (by omega)]
 ·rw[F.f13,if_pos hk,if_neg (by omega),if_neg (by omega),if_pos (by omega)]
 ·rw[F.f13,if_pos hk]
  by_cases h:byteAt s k<97
  ·rw[if_pos h]
  ·rw[if_neg h,if_pos (by omega)]
theorem P.YAN (s:ByteArray)(hs:s.size<=1048576):F.f100 s 1=some (if dec (∀i,1<=i->i<s.size->97<=byteAt s i/\byteAt s i<=122)=true then .go ()else .ret false):=by
 refine ZIj (L:=F.f100 s) (fun k hk=> ?_) (fun k hk hq=> ?_) (fun k hk hq=> ?_) _ 1 rfl
 ·rw[F.f100,if_neg (by omega)]
 ·rw[F.f100,if_pos hk,if_neg (by omega),if_neg (by omega),if_pos (by omega)]
 ·rw[F.f100,if_pos hk]
  by_cases h:byteAt s k<97
  ·rw[if_pos h]
  ·rw[if_neg h,if_pos (by omega)]
theorem P.Yn (s:ByteArray)(hs:s.size<=1048576):F.f14 s=some (dec (ZFT s)):=by
 unfold F.f14
 by_cases h0:s.size=0
 ·rw[if_pos h0,ZF fun h=>by have:=h.1;omega]
 by_cases h5:5<s.size
 ·rw[if_neg h0,if_pos h5,ZF fun h=>by have:=h.2.1;omega]
 rw[if_neg h0,if_neg h5,if_pos (by omega),P.Yl]
 simp only[oE,oS]
 by_cases hb:ZNK (byteAt s 0)
 ·rw[if_pos (ZG hb),P.YAK s hs]
  simp only[oS]
  by_cases hall:∀i,1<=i->i<s.size->97<=byteAt s i/\byteAt s i<=122
  ·rw[if_pos (ZG hall),ZG ⟨by omega,by omega,hb,hall⟩]
  ·rw[if_neg (by rw[ZF hall];simp),ZF fun h=>hall h.2.2.2]
 ·rw[if_neg (by rw[ZF hb];simp),ZF fun h=>hb h.2.2.1]
theorem P.YF (n low high:Int):F.f99 n low high=some (dec (low<=n/\n<=high)):=by
 unfold F.f99
 by_cases h:low<=n
 ·rw[if_pos h];congr 1;rw[←ZAI];exact ZL ⟨fun h'=>⟨h,h'⟩,fun h'=>h'.2⟩
 ·rw[if_neg h,ZF fun h'=>h h'.1]
theorem P.Yt (s:ByteArray)(hs:s.size<=1048576):F.f101 s=some (dec (ZFT s)):=by
 unfold F.f101
 rw[P.YF]
 simp only[oE,oS]
 by_cases h0:1<=(s.size:Int)/\(s.size:Int)<=5
 ·rw[if_pos (ZG h0),if_pos (by omega)]
  by_cases a1:byteAt s 0<65
  ·rw[if_pos a1,ZF fun h=>by have:=h.2.2.1.1;omega]
  by_cases a2:90<byteAt s 0
  ·rw[if_neg a1,if_pos a2,ZF fun h=>by have:=h.2.2.1.2;omega]
  rw[if_neg a1,if_neg a2,P.YAN s hs]
  simp only[oS]
  by_cases hall:∀i,1<=i->i<s.size->97<=byteAt s i/\byteAt s i<=122
  ·rw[if_pos (ZG hall),ZG ⟨by omega,by omega,⟨by omega,by omega⟩,hall⟩]
  ·rw[if_neg (by rw[ZF hall];simp),ZF fun h=>hall h.2.2.2]
 ·rw[if_neg (by rw[ZF h0];simp),ZF fun h=>h0 ⟨by have:=h.1;omega,by have:=h.2.1;omega⟩]
theorem P.YV (n:Nat)(t:Ty):F.f15 n t=some (dec (ZBW n t)):=by
 unfold F.f15
 by_cases h:t.data= -1
 ·rw[if_pos h];congr 1;rw[←ZAI];exact ZL ⟨fun h'=>.inl ⟨h,h'⟩,fun h'=>h'.elim (·.2) (fun h'=>by have:=h'.1;omega)⟩
 rw[if_neg h]
 by_cases h1:0<=t.data
 ·by_cases h2:t.data<n
  ·by_cases h3: -1<=t.index
   ·rw[if_pos h1,if_pos h2,if_pos h3];congr 1;rw[←ZAI];exact ZL ⟨fun h'=>.inr ⟨h1,h2,h3,h'⟩,fun h'=>h'.elim (fun h'=>absurd h'.1 h) (fun h'=>h'.2.2.2)⟩
   ·rw[if_pos h1,if_pos h2,if_neg h3,ZF fun h'=>h'.elim (fun h'=>h h'.1) (fun h'=>h3 h'.2.2.1)]
  ·rw[if_pos h1,if_neg h2,ZF fun h'=>h'.elim (fun h'=>h h'.1) (fun h'=>h2 h'.2.1)]
 ·rw[if_neg h1,ZF fun h'=>h'.elim (fun h'=>h h'.1) (fun h'=>h1 h'.1)]
theorem P.YAf (w:List Data)(t:Ty)(hw:w.length<=1048576):F.f102 w t=some (dec (ZBW w.length t)):=by
 unfold F.f102
 by_cases h:eq2 (t.data,t.index) (-1,0)
 ·rw[if_pos (ZG h),ZG (.inl h)]
 rw[if_neg (by rw[ZF h];simp),P.YF,ZE (by omega) (by omega)]
 simp only[oE,oS]
 by_cases h1:0<=t.data/\t.data<=(w.length:Int) -1
 ·rw[if_pos (ZG h1),P.YF]
  simp only[oS]
  congr 1;exact ZL ⟨fun h'=>.inr ⟨h1.1,by omega,h'.1,h'.2⟩,fun h'=>h'.elim (fun h'=>absurd h' h) (fun h'=>h'.2.2)⟩
 ·rw[if_neg (by rw[ZF h1];simp),ZF fun h'=>h'.elim (fun h'=>h h') (fun h'=>h1 ⟨h'.1,by have:=h'.2.1;omega⟩)]
theorem P.Yd (n:Nat)(c:Ctor)(hs:c.name.size<=1048576):F.f17 n c=some (dec (ZEM n c)):=by
 unfold F.f17
 rw[P.Yn _ hs]
 simp only[oE,oS]
 by_cases h1:ZFT c.name
 ·rw[if_pos (ZG h1)]
  by_cases h2:3<c.args.length
  ·rw[if_pos h2,ZF fun h=>by have:=h.2.1;omega]
  by_cases h3:c.index<0
  ·rw[if_neg h2,if_pos h3,ZF fun h=>by have:=h.2.2.1;omega]
  by_cases h4:3<c.index
  ·rw[if_neg h2,if_neg h3,if_pos h4,ZF fun h=>by have:=h.2.2.2.1;omega]
  rw[if_neg h2,if_neg h3,if_neg h4]
  have key:F.f16 n c 0=some (if dec (∀j,0<=j->j<c.args.length->∀h:j<c.args.length,ZBW n c.args[j])=true then .go ()else .ret false):=by
   refine ZIj (n:=c.args.length) (Q:=fun j=>∀h:j<c.args.length,ZBW n c.args[j]) (L:=F.f16 n c) (fun k hk=> ?_) (fun k hk hq=> ?_) (fun k hk hq=> ?_) _ 0 rfl
   ·rw[F.f16,if_neg (by omega)]
   ·rw[F.f16,if_pos hk,gQ hk]
    simp only[oE,oS]
    rw[P.YV]
    simp only[oS]
    rw[if_pos (ZG (hq hk))]
   ·rw[F.f16,if_pos hk,gQ hk]
    simp only[oE,oS]
    rw[P.YV]
    simp only[oS]
    rw[if_neg (by rw[ZF fun h=>hq fun _=>h];simp)]
  rw[key]
  simp only[oS]
  by_cases hall:∀j,0<=j->j<c.args.length->∀h:j<c.args.length,ZBW n c.args[j]
  ·rw[if_pos (ZG hall),ZG ⟨h1,by omega,by omega,by omega,fun j h0 hj=>hall j h0 hj hj⟩]
  ·rw[if_neg (by rw[ZF hall];simp),ZF fun h=>hall fun j h0 _ hj=>h.2.2.2.2 j h0 hj]
 ·rw[if_neg (by rw[ZF h1];simp),ZF fun h=>h1 h.1]
theorem P.YAB (t:Ty)(w:List Data)(hw:w.length<=1048576):F.f103 t w=some (!dec (ZBW w.length t)):=by
 unfold F.f103
 rw[P.YAf w t hw];rfl
theorem P.YAg (w:List Data)(hw:w.length<=1048576)(s:List Ty):∃v,F.f105 s w=some v/\(0<=v↔¬∀j,0<=j->(h:j<s.length)->ZBW w.length s[j]):=by
 unfold F.f105
 have key:∀(m k:Nat),s.length-k=m->∃r,F.f104 s w k=some r/\
   match r with| .ret j=>0<=j/\¬∀j,k<=j->(h:j<s.length)->ZBW w.length s[j]| .go _=>∀j,k<=j->(h:j<s.length)->ZBW w.length s[j]:=by
  intro m
  induction m with
  |zero=>
   intro k hm
   rw[F.f104,if_neg (by omega)]
   exact⟨_,rfl,fun j hj h=>by omega⟩
  |succ m ih=>
   intro k hm
   have hk:k<s.length:=by omega
   rw[F.f104,if_pos hk,gQ hk]
   simp only[oE,oS]
   rw[P.YAB _ _ hw]
   simp only[oS]
   by_cases h:ZBW w.length s[k]
   ·rw[if_neg (by rw[ZG h];simp)]
    obtain⟨r,hr,hx⟩:=ih (k+1) (by omega)
    refine⟨r,hr,?_⟩
    cases r with
    |ret j=>exact⟨hx.1,fun hh=>hx.2 fun j hj hl=>hh j (by omega) hl⟩
    |go _=>
     intro j hj hl
     by_cases e:k=j
     ·subst e;exact h
     ·exact hx j (by omega) hl
   ·rw[if_pos (by rw[ZF h];simp)]
    exact⟨_,rfl,by omega,fun hh=>h (hh k (Nat.le_refl _) hk)⟩
 obtain⟨r,hr,hx⟩:=key _ 0 rfl
 rw[hr]
 cases r with
 |ret j=>exact⟨j,rfl,fun _=>hx.2,fun _=>hx.1⟩
 |go _=>exact⟨-1,rfl,fun h=>by omega,fun h=>absurd hx h⟩
theorem P.Yf (w:List Data)(c:Ctor)(hw:w.length<=1048576)(hs:c.name.size<=1048576):F.f107 w c=some (dec (ZEM w.length c)):=by
 unfold F.f107
 rw[P.Yt _ hs]
 simp only[oE,oS]
 by_cases h1:ZFT c.name
 ·rw[if_pos (ZG h1)]
  by_cases h2:c.args.length<=3
  ·rw[if_pos h2,P.YF]
   simp only[oS]
   by_cases h3:0<=c.index/\c.index<=3
   ·rw[if_pos (ZG h3)]
    unfold F.f106
    obtain⟨v,hv,hx⟩:=P.YAg w hw c.args
    rw[hv]
    simp only[oE,oS]
    by_cases hall:∀j,0<=j->(h:j<c.args.length)->ZBW w.length c.args[j]
    ·have:¬0<=v:=fun h=>(hx.1 h) hall
     rw[ZG ⟨h1,h2,h3.1,h3.2,hall⟩];simp[this]
    ·have:0<=v:=hx.2 hall
     rw[ZF fun h=>hall h.2.2.2.2];simp[this]
   ·rw[if_neg (by rw[ZF h3];simp),ZF fun h=>h3 ⟨h.2.2.1,h.2.2.2.1⟩]
  ·rw[if_neg h2,ZF fun h=>h2 h.2.1]
 ·rw[if_neg (by rw[ZF h1];simp),ZF fun h=>h1 h.1]
abbrev ZAD (d:Data):List ByteArray:=d.ctors.map (·.name)
structure ctorAt (w:List Data)(i:Nat)(d:Data)(k:Nat)(c:Ctor):Prop where
 ok:ZEM w.length c
 new:c.name∉(w.take i).flatMap ZAD++(d.ctors.take k).map (·.name)
structure dataAt (w:List Data)(i:Nat)(d:Data):Prop where
 name:ZEs d.name
 new:d.name∉(w.take i).map (·.name)
 some:1<=d.ctors.length
 few:d.ctors.length<=4
 ctors:∀k,0<=k->k<d.ctors.length->∀h:k<d.ctors.length,ctorAt w i d k d.ctors[k]
def ZP (w:List Data):Prop:=w.length<=4/\∀i,0<=i->i<w.length->∀h:i<w.length,dataAt w i w[i]
def ZAH (w:List Data):Prop:=w.length<=1048576/\∀d,d∈w->∀c,c∈d.ctors->c.name.size<=1048576
theorem P.YU (w:List Data)(hw:ZAH w)(met4:List ByteArray)(i:Nat)(hi:i<w.length):F.f108 w met4 i w[i] ((w.take i).flatMap ZAD) 0=
  some (if dec (∀k,0<=k->k<w[i].ctors.length->∀h:k<w[i].ctors.length,ctorAt w i w[i] k w[i].ctors[k])=true then .go ((w.take i).flatMap ZAD++ZAD w[i])else .ret false):=by
 have key:=ZPQ (n:=w[i].ctors.length) (r:=false) (p:=(w.take i).flatMap ZAD++ZAD w[i]) (Q:=fun k=>∀h:k<w[i].ctors.length,ctorAt w i w[i] k w[i].ctors[k]) (L:=fun k=>F.f108 w met4 i w[i] ((w.take i).flatMap ZAD++(w[i].ctors.take k).map (·.name)) k)
  (fun k hk=>by
   show F.f108 w met4 i w[i] ((w.take i).flatMap ZAD++(w[i].ctors.take k).map (·.name)) k=_
   rw[F.f108,if_neg (by omega),List.take_of_length_le hk])
  (fun k hk hq=>by
   show F.f108 w met4 i w[i] ((w.take i).flatMap ZAD++(w[i].ctors.take k).map (·.name)) k=F.f108 w met4 i w[i] ((w.take i).flatMap ZAD++(w[i].ctors.take (k+1)).map (·.name)) (k+1)
   have hc:=hq hk
   rw[F.f108,if_pos hk,gQ hk]
   simp only[oE,oS]
   rw[P.Yf w _ hw.1 (hw.2 _ (gM hi) _ (gM hk))]
   simp only[oS]
   rw[if_pos (ZG hc.ok),if_neg (by rw[ZF hc.new];simp),ZCB,if_neg (by rw[ZF hc.new];simp),ZBx hk,List.append_assoc])
  (fun k hk hq=>by
   show F.f108 w met4 i w[i] ((w.take i).flatMap ZAD++(w[i].ctors.take k).map (·.name)) k=_
   rw[F.f108,if_pos hk,gQ hk]
   simp only[oE,oS]
   rw[P.Yf w _ hw.1 (hw.2 _ (gM hi) _ (gM hk))]
   simp only[oS]
   by_cases h1:ZEM w.length w[i].ctors[k]
   ·rw[if_pos (ZG h1),if_pos (ZG ?_)]
    apply Classical.byContradiction
    intro h2
    exact hq fun _=>⟨h1,h2⟩
   ·rw[if_neg (by rw[ZF h1];simp)]) _ 0 rfl
 simpa using key
theorem P.Yy (w:List Data)(hw:ZAH w):F.f109 w [] [] 0=some (if dec (∀i,0<=i->i<w.length->∀h:i<w.length,dataAt w i w[i])=true then .go (w.flatMap ZAD,w.map (·.name))else .ret false):=by
 have key:=ZPQ (n:=w.length) (r:=false) (p:=(w.flatMap ZAD,w.map (·.name))) (Q:=fun i=>∀h:i<w.length,dataAt w i w[i]) (L:=fun i=>F.f109 w ((w.take i).flatMap ZAD) ((w.take i).map (·.name)) i)
  (fun i hi=>by
   show F.f109 w ((w.take i).flatMap ZAD) ((w.take i).map (·.name)) i=_
   rw[F.f109,if_neg (by omega),List.take_of_length_le hi])
  (fun i hi hq=>by
   show F.f109 w ((w.take i).flatMap ZAD) ((w.take i).map (·.name)) i=F.f109 w ((w.take (i+1)).flatMap ZAD) ((w.take (i+1)).map (·.name)) (i+1)
   have hd:=hq hi
   have hn:=hd.name
   have hbig:=hn.2.1
   unfold ZNK at hbig
   have:=hw.1
   rw[F.f109,if_pos hi,gQ hi]
   simp only[oE,oS]
   have:=hd.some;have:=hd.few
   rw[if_pos hn.1,if_pos (by have:=hn.1;omega),if_neg (by omega),if_neg (by omega),if_neg (fun h=>hn.2.2 (ZAS.1 h)),if_neg (by rw[ZF hd.new];simp),P.YF]
   simp only[oS]
   rw[if_pos (ZG (by omega)),P.YU w hw _ i hi,if_pos (ZG hd.ctors)]
   simp only[oS]
   rw[if_pos (by omega),ZCB,if_neg (by rw[ZF hd.new];simp),ZBx hi,ZCL hi])
  (fun i hi hq=>by
   show F.f109 w ((w.take i).flatMap ZAD) ((w.take i).map (·.name)) i=_
   have:=hw.1
   rw[F.f109,if_pos hi,gQ hi]
   simp only[oE,oS]
   by_cases h1:w[i].name.size=1
   ·rw[if_pos h1,if_pos (by omega)]
    by_cases h2:byteAt w[i].name 0<65
    ·rw[if_pos h2]
    by_cases h3:90<byteAt w[i].name 0
    ·rw[if_neg h2,if_pos h3]
    by_cases h4:w[i].name.toList=(⟨#[73]⟩:ByteArray).toList
    ·rw[if_neg h2,if_neg h3,if_pos h4]
    by_cases h5:w[i].name∈(w.take i).map (·.name)
    ·rw[if_neg h2,if_neg h3,if_neg h4,if_pos (ZG h5)]
    rw[if_neg h2,if_neg h3,if_neg h4,if_neg (by rw[ZF h5];simp),P.YF]
    simp only[oS]
    by_cases h6:1<=(w[i].ctors.length:Int)/\(w[i].ctors.length:Int)<=4
    ·rw[if_pos (ZG h6),P.YU w hw _ i hi,if_neg (by
      rw[ZF fun hh=>hq fun _=>⟨⟨h1,⟨by omega,by omega⟩,fun e=>h4 (by rw[e])⟩,h5,by omega,by omega,hh⟩];simp)]
     rfl
    ·rw[if_neg (by rw[ZF h6];simp)]
   ·rw[if_neg h1]) _ 0 rfl
 simpa using key
theorem P.Yh (w:List Data)(hw:ZAH w):F.f110 w=some (dec (ZP w)):=by
 unfold F.f110
 by_cases h:4<w.length
 ·rw[if_pos h,ZF fun hh=>by have:=hh.1;omega]
 rw[if_neg h,P.Yy w hw]
 simp only[oE,oS]
 by_cases hall:∀i,0<=i->i<w.length->∀h:i<w.length,dataAt w i w[i]
 ·rw[if_pos (ZG hall),ZG ⟨by omega,hall⟩]
 ·rw[if_neg (by rw[ZF hall];simp),ZF fun hh=>hall hh.2]
theorem P.YAT (w:List Data)(hw:ZAH w)(d k i:Nat)(hd:d<w.length)(hk:k<w[d].ctors.length)(hi:i<d)(hl:w[d].ctors.length<=4)(hli:w[i].ctors.length<=4):F.f18 w d k i 0=
  some (if dec (∀j,0<=j->j<w[i].ctors.length->∀h:j<w[i].ctors.length,w[i].ctors[j].name≠w[d].ctors[k].name)=true then .go ()else .ret true):=by
 have hi':i<w.length:=by omega
 refine ZIj (n:=w[i].ctors.length) (r:=true) (Q:=fun j=>∀h:j<w[i].ctors.length,w[i].ctors[j].name≠w[d].ctors[k].name) (L:=F.f18 w d k i) (fun j hj=> ?_) (fun j hj hq=> ?_) (fun j hj hq=> ?_) _ 0 rfl
 ·rw[F.f18,gQ hi']
  simp only[oE,oS]
  rw[if_neg (by omega)]
 ·rw[F.f18,gQ hi']
  simp only[oE,oS]
  rw[if_pos hj,if_pos (by omega),ZDa hd]
  simp only[oS]
  rw[if_pos (by omega),gQ hj,ZDa hk]
  simp only[oS]
  rw[if_neg (fun h=>hq hj (ZAS.1 h)),if_pos (by omega)]
 ·rw[F.f18,gQ hi']
  simp only[oE,oS]
  rw[if_pos hj,if_pos (by omega),ZDa hd]
  simp only[oS]
  rw[if_pos (by omega),gQ hj,ZDa hk]
  simp only[oS]
  rw[if_pos (ZAS.2 (Classical.byContradiction fun h=>hq fun _=>h))]
theorem P.YAS (w:List Data)(hw:ZAH w)(d k:Nat)(hd:d<w.length)(hk:k<w[d].ctors.length)(hl:w[d].ctors.length<=4):F.f19 w d k d 0=
  some (if dec (∀j,0<=j->j<k->∀h:j<w[d].ctors.length,w[d].ctors[j].name≠w[d].ctors[k].name)=true then .go ()else .ret true):=by
 refine ZIj (n:=k) (r:=true) (Q:=fun j=>∀h:j<w[d].ctors.length,w[d].ctors[j].name≠w[d].ctors[k].name) (L:=F.f19 w d k d) (fun j hj=> ?_) (fun j hj hq=> ?_) (fun j hj hq=> ?_) _ 0 rfl
 ·rw[F.f19,gQ hd]
  simp only[oE,oS]
  rcases Nat.lt_or_ge j w[d].ctors.length with h|h
  ·rw[if_pos h,if_neg (by omega),if_neg (by omega)]
  ·rw[if_neg (by omega)]
 ·have hj':j<w[d].ctors.length:=Nat.lt_trans hj hk
  rw[F.f19,gQ hd]
  simp only[oE,oS]
  rw[if_pos hj',if_neg (by omega),if_pos (by omega),ZDa hd]
  simp only[oS]
  rw[if_pos (by omega),gQ hj',ZDa hk]
  simp only[oS]
  rw[if_neg (fun h=>hq hj' (ZAS.1 h)),if_pos (by omega)]
 ·have hj':j<w[d].ctors.length:=Nat.lt_trans hj hk
  rw[F.f19,gQ hd]
  simp only[oE,oS]
  rw[if_pos hj',if_neg (by omega),if_pos (by omega),ZDa hd]
  simp only[oS]
  rw[if_pos (by omega),gQ hj',ZDa hk]
  simp only[oS]
  rw[if_pos (ZAS.2 (Classical.byContradiction fun h=>hq fun _=>h))]
structure fresh (w:List Data)(d k i:Nat)(hd:d<w.length)(hk:k<w[d].ctors.length):Prop where
 data:i<d->∀h:i<w.length,w[i].name≠w[d].name
 ctor:i<d->∀h:i<w.length,∀j,0<=j->j<w[i].ctors.length->∀h:j<w[i].ctors.length,w[i].ctors[j].name≠w[d].ctors[k].name
 own:i=d->∀j,0<=j->j<k->∀h:j<w[d].ctors.length,w[d].ctors[j].name≠w[d].ctors[k].name
theorem P.YY (w:List Data)(hw:ZAH w)(d k:Nat)(hd:d<w.length)(hk:k<w[d].ctors.length)(hw4:w.length<=4)(hl:∀i,i<=d->∀h:i<w.length,w[i].ctors.length<=4):F.f21 w d k=some (!dec (∀i,0<=i->i<d+1->fresh w d k i hd hk)):=by
 unfold F.f21
 have key:F.f20 w d k 0=some (if dec (∀i,0<=i->i<d+1->fresh w d k i hd hk)=true then .go ()else .ret true):=by
  refine ZIj (n:=d+1) (r:=true) (Q:=fun i=>fresh w d k i hd hk) (L:=F.f20 w d k) (fun i hi=> ?_) (fun i hi hq=> ?_) (fun i hi hq=> ?_) _ 0 rfl
  ·rw[F.f20,if_neg (by omega)]
  ·rw[F.f20,if_pos (by omega)]
   by_cases h:i<d
   ·have hi':i<w.length:=by omega
    rw[if_pos (by omega),gQ hi',ZDa hd]
    simp only[oE,oS]
    rw[if_neg (fun e=>hq.data h hi' (ZAS.1 e)),P.YAT w hw d k i hd hk h (hl d (Nat.le_refl _) hd) (hl i (by omega) hi'),if_pos (ZG (hq.ctor h hi'))]
    simp only[oS]
    rw[if_pos (by omega)]
   ·obtain rfl:i=d:=by omega
    rw[if_neg (by omega),P.YAS w hw i k hd hk (hl i (Nat.le_refl _) hd),if_pos (ZG (hq.own rfl))]
    simp only[oE,oS]
    rw[if_pos (by omega)]
  ·rw[F.f20,if_pos (by omega)]
   by_cases h:i<d
   ·have hi':i<w.length:=by omega
    rw[if_pos (by omega),gQ hi',ZDa hd]
    simp only[oE,oS]
    by_cases hn:w[i].name=w[d].name
    ·rw[if_pos (ZAS.2 hn)]
    ·rw[if_neg (fun e=>hn (ZAS.1 e)),P.YAT w hw d k i hd hk h (hl d (Nat.le_refl _) hd) (hl i (by omega) hi'),if_neg (by rw[ZF fun hh=>hq ⟨fun _ _=>hn,fun _ _=>hh,fun e=>by omega⟩];simp)]
     rfl
   ·obtain rfl:i=d:=by omega
    rw[if_neg (by omega),P.YAS w hw i k hd hk (hl i (Nat.le_refl _) hd),if_neg (by rw[ZF fun hh=>hq ⟨fun e=>by omega,fun e=>by omega,fun _=>hh⟩];simp)]
    rfl
 rw[key]
 simp only[oE,oS]
 by_cases hall:∀i,0<=i->i<d+1->fresh w d k i hd hk
 ·rw[if_pos (ZG hall),ZG hall];rfl
 ·rw[if_neg (by rw[ZF hall];simp),ZF hall];rfl
theorem ZDQ (w:List Data)(d k:Nat)(hd:d<w.length)(hk:k<w[d].ctors.length):(∀i,0<=i->i<d+1->fresh w d k i hd hk)↔w[d].name∉(w.take d).map (·.name)/\w[d].ctors[k].name∉(w.take d).flatMap ZAD++(w[d].ctors.take k).map (·.name):=by
 constructor
 ·intro h
  refine⟨fun hm=> ?_,fun hm=> ?_⟩
  ·obtain⟨x,hx,e⟩:=List.mem_map.1 hm
   obtain⟨i,hi,rfl⟩:=List.mem_take_iff_getElem.1 hx
   exact(h i (by omega) (by omega)).data (by omega) (by omega) e
  ·rcases List.mem_append.1 hm with hm|hm
   ·obtain⟨x,hx,hc⟩:=List.mem_flatMap.1 hm
    obtain⟨i,hi,rfl⟩:=List.mem_take_iff_getElem.1 hx
    obtain⟨c,hc,e⟩:=List.mem_map.1 hc
    obtain⟨j,hj,rfl⟩:=List.getElem_of_mem hc
    exact(h i (by omega) (by omega)).ctor (by omega) (by omega) j (by omega) hj hj e
   ·obtain⟨c,hc,e⟩:=List.mem_map.1 hm
    obtain⟨j,hj,rfl⟩:=List.mem_take_iff_getElem.1 hc
    exact(h d (by omega) (by omega)).own rfl j (by omega) (by omega) (by omega) e
 ·rintro⟨h1,h2⟩ i _ hi
  refine⟨fun hid hiw e=>h1 (List.mem_map.2 ⟨w[i],List.mem_take_iff_getElem.2 ⟨i,by omega,rfl⟩,e⟩),fun hid hiw j _ hj hj' e=>h2 (List.mem_append_left _ (List.mem_flatMap.2 ⟨w[i],List.mem_take_iff_getElem.2 ⟨i,by omega,rfl⟩,List.mem_map.2 ⟨_,gM hj,e⟩⟩)),fun e j _ hj hj' e=>h2 (List.mem_append_right _ (List.mem_map.2 ⟨_,List.mem_take_iff_getElem.2 ⟨j,by omega,rfl⟩,e⟩))⟩
theorem P.Yw (w:List Data)(hw:ZAH w)(d:Nat)(hd:d<w.length)(hw4:w.length<=4)(hl:∀i,i<=d->∀h:i<w.length,w[i].ctors.length<=4):F.f22 w d 0=
  some (if dec (∀k,0<=k->k<w[d].ctors.length->∀h:k<w[d].ctors.length,w[d].name∉(w.take d).map (·.name)/\ctorAt w d w[d] k w[d].ctors[k])=true then .go ()else .ret false):=by
 have hl0:=hl d (Nat.le_refl _) hd
 refine ZIj (n:=w[d].ctors.length) (r:=false) (Q:=fun k=>∀h:k<w[d].ctors.length,w[d].name∉(w.take d).map (·.name)/\ctorAt w d w[d] k w[d].ctors[k]) (L:=F.f22 w d) (fun k hk=> ?_) (fun k hk hq=> ?_) (fun k hk hq=> ?_) _ 0 rfl
 ·rw[F.f22,gQ hd]
  simp only[oE,oS]
  rw[if_neg (by omega)]
 ·obtain⟨h1,h2⟩:=hq hk
  rw[F.f22,gQ hd]
  simp only[oE,oS]
  rw[if_pos hk,gQ hk]
  simp only[oS]
  rw[P.Yd _ _ (hw.2 _ (gM hd) _ (gM hk))]
  simp only[oS]
  rw[if_pos (ZG h2.ok),P.YY w hw d k hd hk hw4 hl]
  simp only[oS]
  rw[ZG ((ZDQ w d k hd hk).2 ⟨h1,h2.new⟩),if_neg (by simp),if_pos (by omega)]
 ·rw[F.f22,gQ hd]
  simp only[oE,oS]
  rw[if_pos hk,gQ hk]
  simp only[oS]
  rw[P.Yd _ _ (hw.2 _ (gM hd) _ (gM hk))]
  simp only[oS]
  by_cases h1:ZEM w.length w[d].ctors[k]
  ·rw[if_pos (ZG h1),P.YY w hw d k hd hk hw4 hl]
   simp only[oS]
   rw[ZF fun hh=>hq fun _=>⟨((ZDQ w d k hd hk).1 hh).1,⟨h1,((ZDQ w d k hd hk).1 hh).2⟩⟩,if_pos (by simp)]
  ·rw[if_neg (by rw[ZF h1];simp)]
theorem P.YN (w:List Data)(hw:ZAH w):F.f24 w=some (dec (ZP w)):=by
 unfold F.f24
 by_cases h4:4<w.length
 ·rw[if_pos h4,ZF fun hh=>by have:=hh.1;omega]
 rw[if_neg h4]
 -- the loop runs only on over types that are right
 have key:∀(m d:Nat),w.length-d=m->(∀i,i<d->∀h:i<w.length,w[i].ctors.length<=4)->F.f23 w d=some (if dec (∀i,d<=i->i<w.length->∀h:i<w.length,dataAt w i w[i])=true then .go ()else .ret false):=by
  intro m
  induction m with
  |zero=>
   intro d hm hl
   rw[F.f23,if_neg (by omega),if_pos (ZG fun i h1 h2=>by omega)]
  |succ m ih=>
   intro d hm hl
   have hd:d<w.length:=by omega
   rw[F.f23,if_pos hd,gQ hd]
   simp only[oE,oS]
   rw[P.YAW]
   simp only[oS]
   have no:¬dataAt w d w[d]->¬∀i,d<=i->i<w.length->∀h:i<w.length,dataAt w i w[i]:=fun h hh=>h (hh d (Nat.le_refl _) hd hd)
   by_cases h1:ZEs w[d].name
   ·rw[if_pos (ZG h1)]
    by_cases h2:w[d].ctors.length=0
    ·rw[if_pos h2,if_neg (by rw[ZF (no fun h=>by have:=h.some;omega)];simp)]
    by_cases h3:4<w[d].ctors.length
    ·rw[if_neg h2,if_pos h3,if_neg (by rw[ZF (no fun h=>by have:=h.few;omega)];simp)]
    have hl':∀i,i<=d->∀h:i<w.length,w[i].ctors.length<=4:=fun i hi h=>by
     by_cases e:i=d
     ·subst e;omega
     ·exact hl i (by omega) h
    rw[if_neg h2,if_neg h3,P.Yw w hw d hd (by omega) hl']
    simp only[oS]
    by_cases hq:∀k,0<=k->k<w[d].ctors.length->∀h:k<w[d].ctors.length,w[d].name∉(w.take d).map (·.name)/\ctorAt w d w[d] k w[d].ctors[k]
    ·have hda:dataAt w d w[d]:=⟨h1,(hq 0 (by omega) (by omega) (by omega)).1,by omega,by omega,fun k a b c=>(hq k a b c).2⟩
     rw[if_pos (ZG hq)]
     simp only
     rw[if_pos (by omega),ih (d+1) (by omega) fun i hi h=>hl' i (by omega) h]
     by_cases hall:∀i,d+1<=i->i<w.length->∀h:i<w.length,dataAt w i w[i]
     ·rw[if_pos (ZG hall),if_pos (ZG fun i a b c=> ?_)]
      by_cases e:i=d
      ·subst e;exact hda
      ·exact hall i (by omega) b c
     ·rw[if_neg (by rw[ZF hall];simp),if_neg (by rw[ZF fun hh=>hall fun i a b c=>hh i (by omega) b c];simp)]
    ·rw[if_neg (by rw[ZF hq];simp)]
     simp only
     rw[if_neg (by rw[ZF (no fun h=>hq fun k a b c=>⟨h.new,h.ctors k a b c⟩)];simp)]
   ·rw[if_neg (by rw[ZF h1];simp),if_neg (by rw[ZF (no fun h=>h1 h.name)];simp)]
 rw[key _ 0 rfl fun i hi=>by omega]
 simp only[oE,oS]
 by_cases hall:∀i,0<=i->i<w.length->∀h:i<w.length,dataAt w i w[i]
 ·rw[if_pos (ZG hall),ZG ⟨by omega,hall⟩]
 ·rw[if_neg (by rw[ZF hall];simp),ZF fun hh=>hall hh.2]
def ZZ (w:List Data)(t:Ty):Prop:=ZBW w.length t/\0<=t.index
theorem P.YAp (w:List Data)(t:Ty):F.f170 w t=some (dec (ZZ w t)):=by
 unfold F.f170
 rw[P.YV]
 simp only[oE,oS]
 by_cases h:ZBW w.length t
 ·rw[if_pos (ZG h),←ZAI];congr 1;exact ZL ⟨fun h'=>⟨h,h'⟩,fun h'=>h'.2⟩
 ·rw[if_neg (by rw[ZF h];simp),ZF fun h'=>h h'.1]
theorem P.YAZ (w:List Data)(t:Ty)(hw:w.length<=1048576):F.f111 w t=some (dec (ZZ w t)):=by
 unfold F.f111
 by_cases h:eq2 (t.data,t.index) (-1,0)
 ·rw[if_pos (ZG h),ZG ⟨.inl h,by have:=h.2;simp at this;omega⟩]
 rw[if_neg (by rw[ZF h];simp),P.YF,ZE (by omega) (by omega)]
 simp only[oE,oS]
 by_cases h1:0<=t.data/\t.data<=(w.length:Int) -1
 ·rw[if_pos (ZG h1),P.YF]
  simp only[oS]
  congr 1;exact ZL ⟨fun h'=>⟨.inr ⟨h1.1,by omega,by omega,h'.2⟩,h'.1⟩,fun h'=>h'.1.elim (fun h'=>absurd h' h) (fun h2=>⟨h'.2,h2.2.2.2⟩)⟩
 ·rw[if_neg (by rw[ZF h1];simp),ZF fun h'=>h'.1.elim (fun h'=>h h') (fun h'=>h1 ⟨h'.1,by have:=h'.2.1;omega⟩)]
def ZAN (w:List Data)(t:Ty):Prop:=ZP w/\ZZ w t
theorem P.Ym (w:List Data)(t:Ty)(hw:ZAH w):F.f171 w t=some (dec (ZAN w t)):=by
 unfold F.f171
 rw[P.YN w hw]
 simp only[oE,oS]
 by_cases h:ZP w
 ·rw[if_pos (ZG h),P.YAp]
  simp only[oS]
  congr 1;exact ZL ⟨fun h'=>⟨h,h'⟩,fun h'=>h'.2⟩
 ·rw[if_neg (by rw[ZF h];simp),ZF fun h'=>h h'.1]
theorem P.YO (w:List Data)(t:Ty)(hw:ZAH w):F.f112 w t=some (dec (ZAN w t)):=by
 unfold F.f112
 rw[P.Yh w hw]
 simp only[oE,oS]
 by_cases h:ZP w
 ·rw[if_pos (ZG h),P.YAZ w t hw.1]
  simp only[oS]
  congr 1;exact ZL ⟨fun h'=>⟨h,h'⟩,fun h'=>h'.2⟩
 ·rw[if_neg (by rw[ZF h];simp),ZF fun h'=>h h'.1]
theorem ZIr {w:List Data}(h:wtL Data.wt w<=1048576):ZAH w:=by
 refine⟨by have:=ZBg Data.wt w;omega,fun d hd c hc=> ?_⟩
 have h1:=ZAA Data.wt hd
 have h2:=ZAA Ctor.wt hc
 have e1:d.wt=d.name.size+wtL Ctor.wt d.ctors:=rfl
 have e2:c.wt=c.name.size+wtL Ty.wt c.args:=rfl
 omega
def tOk (w:List Data)(t:Ty):Prop:=t.data= -1∨(0<=t.data/\t.data<w.length)
theorem ZBZ {w:List Data}{t:Ty}(h:ZBW w.length t):tOk w t:=h.elim (fun h=>.inl h.1) (fun h=>.inr ⟨h.1,h.2.1⟩)
def ZKy (i:Int)(c:Ctor):Prop:=i=0∨c.index=0∨c.index=i
noncomputable def ZE1 (i:Int):Nat->List Ctor->List Int
 |_,[]=>[]
 |k,c::r=>(if dec (ZKy i c)=true then[(k:Int)]else[])++ZE1 i (k+1) r
theorem ZHD (i:Int):∀(k:Nat) (l:List Ctor),(ZE1 i k l).length<=l.length
 |_,[]=>by simp[ZE1]
 |k,c::r=>by
  have:=ZHD i (k+1) r
  unfold ZE1
  split<;>simp<;>omega
theorem ZHC (i:Int){x:Int}:∀{k:Nat} {l:List Ctor},x∈ZE1 i k l->(k:Int)<=x/\x<k+l.length
 |_,[],h=>by simp[ZE1]at h
 |k,c::r,h=>by
  unfold ZE1 at h
  rcases List.mem_append.1 h with h|h
  ·split at h
   ·simp at h;subst h;simp;omega
   ·simp at h
  ·have:=ZHC i h
   simp;omega
def ZV (w:List Data)(t:Ty):Data:=w.getD t.data.toNat Data.z
noncomputable def ZR (w:List Data)(t:Ty):List Int:=if t.data= -1 then[]else ZE1 t.index 0 (ZV w t).ctors
def Zb (w:List Data)(t:Ty)(c:Int):Ctor:=(ZV w t).ctors.getD c.toNat Ctor.z
def ZCf (t:Ty)(c:Ctor)(a:Ty):Ty:=if a.index= -1 then⟨a.data,if c.index=0 then t.index else c.index⟩else a
def ZO (w:List Data)(t:Ty)(c:Int):List Ty:=(Zb w t c).args.map (ZCf t (Zb w t c))
theorem ZCe {w:List Data}{t:Ty}(h:tOk w t)(hn:t.data≠-1):at? w t.data=some (ZV w t)/\ZV w t∈w/\∃h:t.data.toNat<w.length,ZV w t=w[t.data.toNat]:=by
 obtain⟨h1,h2⟩:=h.resolve_left hn
 have hlt:t.data.toNat<w.length:=by omega
 unfold at? ZV
 rw[if_pos h1,gQ hlt,List.getD_eq_getElem?_getD,gQ hlt]
 exact⟨rfl,gM hlt,hlt,rfl⟩
theorem Zg {w:List Data}(hw:ZP w){t:Ty}(h:tOk w t)(hn:t.data≠-1):(ZV w t).ctors.length<=4/\∀c,c∈(ZV w t).ctors->ZEM w.length c:=by
 obtain⟨_,_,hlt,e⟩:=ZCe h hn
 have hd:=hw.2 t.data.toNat (by omega) hlt hlt
 rw[e]
 refine⟨hd.few,fun c hc=> ?_⟩
 obtain⟨k,hk,rfl⟩:=List.getElem_of_mem hc
 exact(hd.ctors k (by omega) hk hk).ok
theorem P.Yx (w:List Data)(hw:ZP w)(t:Ty)(h:tOk w t)(hn:t.data≠-1):∀(m k:Nat) (out:List Int),(ZV w t).ctors.length-k=m->out.length<=k->k<=(ZV w t).ctors.length->
  F.f41 w t out k=some (out++ZE1 t.index k ((ZV w t).ctors.drop k)):=by
 have h4:=(Zg hw h hn).1
 intro m
 induction m with
 |zero=>
  intro k out hm ho hk
  rw[F.f41,(ZCe h hn).1]
  simp only[oE,oS]
  rw[if_neg (by omega),List.drop_eq_nil_of_le (by omega)];simp[ZE1]
 |succ m ih=>
  intro k out hm ho hk
  have hlt:k<(ZV w t).ctors.length:=by omega
  rw[F.f41,(ZCe h hn).1]
  simp only[oE,oS]
  rw[if_pos hlt,gQ hlt,List.drop_eq_getElem_cons hlt]
  simp only[oS,ZE1]
  have hf:F.f40 (ZV w t).ctors[k] t.index=some (dec (ZKy t.index (ZV w t).ctors[k])):=by
   unfold F.f40
   by_cases h1:(ZV w t).ctors[k].index=0
   ·rw[if_pos h1,ZG (.inr (.inl h1))]
   ·by_cases h2:t.index=0
    ·rw[if_neg h1,if_pos h2,ZG (.inl h2)]
    ·rw[if_neg h1,if_neg h2,←ZAI];congr 1;exact ZL ⟨fun h=>.inr (.inr h),fun h=>h.elim (fun h=>absurd h h2) (fun h=>h.elim (fun h=>absurd h h1) id)⟩
  rw[hf]
  simp only[oS]
  by_cases hfit:ZKy t.index (ZV w t).ctors[k]
  ·rw[if_pos (ZG hfit),if_pos (by omega),if_pos (by omega),ih (k+1) _ (by omega) (by simp;omega) (by omega),if_pos (ZG hfit)];simp
  ·rw[if_neg (by rw[ZF hfit];simp),if_pos (by omega),ih (k+1) _ (by omega) (by omega) (by omega),if_neg (by rw[ZF hfit];simp)];simp
theorem P.YM (w:List Data)(hw:ZP w)(t:Ty)(h:tOk w t):F.f42 w t=some (ZR w t):=by
 unfold F.f42 ZR
 by_cases hn:t.data= -1
 ·rw[if_pos hn,if_pos hn]
 ·rw[if_neg hn,if_neg hn,P.Yx w hw t h hn _ 0 [] rfl (by simp) (by omega)];simp
theorem P.YAA (w:List Data)(hw:ZP w)(t:Ty)(h:tOk w t)(hn:t.data≠-1):∀(m k:Nat) (out:List Int),(ZV w t).ctors.length-k=m->out.length<=k->k<=(ZV w t).ctors.length->
  F.f115 t (ZV w t) k out=some (out++ZE1 t.index k ((ZV w t).ctors.drop k)):=by
 have h4:=(Zg hw h hn).1
 intro m
 induction m with
 |zero=>
  intro k out hm ho hk
  rw[F.f115,if_neg (by omega),List.drop_eq_nil_of_le (by omega)];simp[ZE1]
 |succ m ih=>
  intro k out hm ho hk
  have hlt:k<(ZV w t).ctors.length:=by omega
  rw[F.f115,if_pos hlt,gQ hlt,List.drop_eq_getElem_cons hlt]
  simp only[oE,oS,ZE1]
  have yes:ZKy t.index (ZV w t).ctors[k]->(if out.length+1<=67108864 then F.f115 t (ZV w t) (k+1) (out++[(k:Int)])else none)=
    some (out++((if dec (ZKy t.index (ZV w t).ctors[k])=true then[(k:Int)]else[])++ZE1 t.index (k+1) ((ZV w t).ctors.drop (k+1)))):=by
   intro hfit
   rw[if_pos (by omega),ih (k+1) _ (by omega) (by simp;omega) (by omega),if_pos (ZG hfit)];simp
  by_cases h1:t.index=0
  ·rw[if_pos h1];exact yes (.inl h1)
  by_cases h2:(ZV w t).ctors[k].index=0
  ·rw[if_neg h1,if_pos h2];exact yes (.inr (.inl h2))
  by_cases h3:(ZV w t).ctors[k].index=t.index
  ·rw[if_neg h1,if_neg h2,if_pos h3];exact yes (.inr (.inr h3))
  ·have hfit:¬ZKy t.index (ZV w t).ctors[k]:=fun h=>h.elim h1 (fun h=>h.elim h2 h3)
   rw[if_neg h1,if_neg h2,if_neg h3,ih (k+1) _ (by omega) (by omega) (by omega),if_neg (by rw[ZF hfit];simp)];simp
theorem P.YAP (w:List Data)(hw:ZP w)(t:Ty)(h:tOk w t):F.f116 w t=some (ZR w t):=by
 unfold F.f116 ZR
 by_cases hn:t.data= -1
 ·rw[if_pos hn,if_pos hn]
 ·rw[if_neg hn,if_neg hn,(ZCe h hn).1]
  simp only[oE,oS]
  rw[P.YAA w hw t h hn _ 0 [] rfl (by simp) (by omega)];simp
theorem ZW {w:List Data}{t:Ty}{c:Int}(h:c∈ZR w t):t.data≠-1/\0<=c/\c<(ZV w t).ctors.length:=by
 unfold ZR at h
 split at h
 ·cases h
 ·next hn=>
  have:=ZHC t.index h
  exact⟨hn,by omega,by omega⟩
theorem ZBG {w:List Data}{t:Ty}{c:Int}(h:c∈ZR w t):at? (ZV w t).ctors c=some (Zb w t c)/\Zb w t c∈(ZV w t).ctors:=by
 obtain⟨_,h1,h2⟩:=ZW h
 have hlt:c.toNat<(ZV w t).ctors.length:=by omega
 unfold at? Zb
 rw[if_pos h1,gQ hlt,List.getD_eq_getElem?_getD,gQ hlt]
 exact⟨rfl,gM hlt⟩
theorem ZNC {w:List Data}(hw:ZP w){t:Ty}(ht:tOk w t){c:Int}(h:c∈ZR w t):(ZO w t c).length<=3/\∀a,a∈ZO w t c->tOk w a:=by
 have hc:=(Zg hw ht (ZW h).1).2 _ (ZBG h).2
 refine⟨by unfold ZO;rw[List.length_map];exact hc.2.1,fun a ha=> ?_⟩
 obtain⟨b,hb,rfl⟩:=List.mem_map.1 ha
 obtain⟨j,hj,rfl⟩:=List.getElem_of_mem hb
 have:=ZBZ (hc.2.2.2.2 j (by omega) hj)
 unfold ZCf
 split
 ·exact this
 ·exact this
theorem P.YE (w:List Data)(hw:ZP w)(t:Ty)(ht:tOk w t)(c:Int)(h:c∈ZR w t):F.f45 w t c=some (ZO w t c):=by
 have hc:=(Zg hw ht (ZW h).1).2 _ (ZBG h).2
 unfold F.f45
 rw[(ZCe ht (ZW h).1).1]
 simp only[oE,oS]
 rw[(ZBG h).1]
 simp only[oS]
 rw[ZEy (L:=F.f44 t (Zb w t c)) (a:=(Zb w t c).args) (g:=ZCf t (Zb w t c)) (f:=fun a=>some (ZCf t (Zb w t c) a)) (fun out i=> ?_) (fun _ _=>rfl) _ 0 [] rfl (by have:=hc.2.1;simp;omega)]
 ·simp[ZO]
 ·rw[F.f44]
  split
  ·cases(Zb w t c).args[i]? with
   |none=>rfl
   |some a=>
    simp only[oE,oS,F.f43,ZCf]
    split
    ·split<;>simp
    ·simp
  ·rfl
theorem P.YAD (w:List Data)(hw:ZP w)(t:Ty)(ht:tOk w t)(c:Int)(h:c∈ZR w t):F.f122 w t c=some (ZO w t c):=by
 have hc:=(Zg hw ht (ZW h).1).2 _ (ZBG h).2
 unfold F.f122
 rw[(ZCe ht (ZW h).1).1]
 simp only[oE,oS]
 rw[(ZBG h).1]
 simp only[oS]
 by_cases h0:(Zb w t c).index=0
 ·rw[if_pos h0,ZEy (L:=fun out i=>F.f120 t (Zb w t c) i out) (a:=(Zb w t c).args) (g:=ZCf t (Zb w t c)) (f:=fun a=>some (ZCf t (Zb w t c) a)) (fun out i=> ?_) (fun _ _=>rfl) _ 0 [] rfl (by have:=hc.2.1;simp;omega)]
  ·simp[ZO]
  ·show F.f120 t (Zb w t c) i out=_
   rw[F.f120]
   split
   ·cases(Zb w t c).args[i]? with
    |none=>rfl
    |some a=>
     simp only[oE,oS,ZCf]
     split
     ·first|rfl|rw[if_pos h0]
     ·rfl
   ·rfl
 ·rw[if_neg h0,ZEy (L:=fun out i=>F.f121 (Zb w t c) i out) (a:=(Zb w t c).args) (g:=ZCf t (Zb w t c)) (f:=fun a=>some (ZCf t (Zb w t c) a)) (fun out i=> ?_) (fun _ _=>rfl) _ 0 [] rfl (by have:=hc.2.1;simp;omega)]
  ·simp[ZO]
  ·show F.f121 (Zb w t c) i out=_
   rw[F.f121]
   split
   ·cases(Zb w t c).args[i]? with
    |none=>rfl
    |some a=>
     simp only[oE,oS,ZCf]
     split
     ·first|rfl|rw[if_neg h0]
     ·rfl
   ·rfl
theorem P.YAb (l:List Int)(n:Int):F.f65 l n=some (dec (n∈l)):=by
 unfold F.f65
 rw[ZIj (n:=l.length) (r:=true) (Q:=fun j=>∀h:j<l.length,l[j]≠n) (L:=F.f64 l n) (fun k hk=>by rw[F.f64,if_neg (by omega)])
  (fun k hk hq=>by
   rw[F.f64,if_pos hk,gQ hk]
   simp only[oE,oS]
   rw[if_neg (hq hk)])
  (fun k hk hq=>by
   rw[F.f64,if_pos hk,gQ hk]
   simp only[oE,oS]
   rw[if_pos (Classical.byContradiction fun h=>hq fun _=>h)]) _ 0 rfl]
 simp only[oE,oS]
 by_cases hm:n∈l
 ·obtain⟨j,hj,e⟩:=List.getElem_of_mem hm
  rw[if_neg (by rw[ZF fun hh=>hh j (by omega) hj hj e];simp),ZG hm]
 ·rw[if_pos (ZG fun j _ hj h e=>hm (by rw[←e];exact gM h)),ZF hm]
theorem P.YQ (l:List Int)(n:Int):F.f119 l n=some (dec (n∈l)):=by
 unfold F.f119 F.f118
 have key:∀(m k:Nat),l.length-k=m->∃r,F.f117 l n k=some r/\match r with| .ret j=>0<=j/\n∈l| .go _=>∀j,k<=j->∀h:j<l.length,l[j]≠n:=by
  intro m
  induction m with
  |zero=>intro k hm;rw[F.f117,if_neg (by omega)];exact⟨_,rfl,fun j h1 h2=>by omega⟩
  |succ m ih=>
   intro k hm
   have hk:k<l.length:=by omega
   rw[F.f117,if_pos hk,gQ hk]
   simp only[oE,oS]
   by_cases h:n=l[k]
   ·rw[if_pos h];exact⟨_,rfl,by omega,h▸gM hk⟩
   ·rw[if_neg h]
    obtain⟨r,hr,hx⟩:=ih (k+1) (by omega)
    refine⟨r,hr,?_⟩
    cases r with
    |ret j=>exact hx
    |go _=>
     intro j hj hl
     by_cases e:k=j
     ·subst e;exact fun e=>h e.symm
     ·exact hx j (by omega) hl
 obtain⟨r,hr,hx⟩:=key _ 0 rfl
 rw[hr]
 cases r with
 |ret j=>
  simp only[oE,oS]
  rw[ZG hx.2];simp[hx.1]
 |go _=>
  simp only[oE,oS]
  rw[ZF fun hm=>by obtain⟨j,hj,e⟩:=List.getElem_of_mem hm;exact hx j (by omega) hj e];simp
def pv (w:List Data)(holes:Bool):Nat->Ty->Value->Prop
 |0,_,_=>False
 |d+1,t,v=>(holes=true/\v.ctor= -2/\v.n=0/\v.kids.length=0)∨(¬(holes=true/\v.ctor= -2)/\
   ((t.data= -1/\v.ctor= -1/\0<=v.n/\v.n<=9/\v.kids.length=0)∨
   (t.data≠-1/\v.n=0/\v.ctor∈ZR w t/\v.kids.length=(ZO w t v.ctor).length/\
    ∀i,0<=i->i<(ZO w t v.ctor).length->∀(h:i<(ZO w t v.ctor).length) (h':i<v.kids.length),pv w holes d (ZO w t v.ctor)[i] v.kids[i])))
theorem ZLt (v:Value):v.wt=((v.kids.drop 0).map fun k=>1+k.wt).sum:=by
 rw[List.drop_zero,v.wt_eq]
 have:∀l:List Value,(l.map fun k=>1+k.wt).sum=wtL Value.wt l:=by
  intro l
  induction l with
  |nil=>rfl
  |cons a r ih=>simp[ih]
 exact(this _).symm
def rok (K:Nat)(r:ZA):Prop:=r.f0.length<=2000/\(∀x,x∈r.f0->0<=x/\x<=255)/\0<=r.f1/\r.f1<=(K:Int)
theorem rok.mono {K L:Nat}{r:ZA}(h:rok K r)(hl:K<=L):rok L r:=⟨h.1,h.2.1,h.2.2.1,by have:=h.2.2.2;omega⟩
theorem ZLs {a b:Int}(ha:0<=a)(hb:0<=b)(ha':a<4611686018427387904)(hb':b<4611686018427387904):0<=ZNM .i64 a b:=by
 unfold ZNM
 obtain⟨m,rfl⟩:=Int.eq_ofNat_of_zero_le ha
 obtain⟨n,rfl⟩:=Int.eq_ofNat_of_zero_le hb
 have hm:m<2^62:=by omega
 have hn:n<2^62:=by omega
 have h:(BitVec.ofInt IntKind.i64.bits (m:Int)^^^BitVec.ofInt IntKind.i64.bits (n:Int)).toNat<2^62:=by
  rw[BitVec.toNat_xor]
  refine Nat.xor_lt_two_pow ?_ ?_
  ·show(BitVec.ofInt 64 (m:Int)).toNat<2^62
   rw[BitVec.toNat_ofInt];omega
  ·show(BitVec.ofInt 64 (n:Int)).toNat<2^62
   rw[BitVec.toNat_ofInt];omega
 rw[ZE (by omega) (by omega)]
 exact Int.natCast_nonneg _
theorem ZEP {α:Type}{xs:List α}{i:Int}(h0:0<=i)(h1:i<xs.length):∃x,at? xs i=some x/\x∈xs:=by
 have hi:i.toNat<xs.length:=by omega
 refine⟨xs[i.toNat],?_,gM hi⟩
 unfold at?
 rw[if_pos h0,gQ hi]
theorem P.YG {K:Nat}{r:ZA}(h:rok K r)(hK:K<=1099511627776)(n:Int):∃v r',F.f1 r n=some (v,r')/\rok (K+1) r'/\0<=v/\(1<=n->v<n)/\(n<1->v=0):=by
 obtain⟨h1,h2,h3,h4⟩:=h
 unfold F.f1
 have e1:i64.wrap (r.f1+1)=r.f1+1:=ZE (by omega) (by omega)
 have e2:i64.wrap (r.f1+1-1)=r.f1:=by rw[ZE (by omega) (by omega)];omega
 have hr':rok (K+1) ⟨r.f0,r.f1+1⟩:=⟨h1,h2,by show 0<=r.f1+1;omega,by show r.f1+1<=((K+1:Nat):Int);omega⟩
 rw[e1,e2]
 by_cases hn:n<1
 ·rw[if_pos hn];exact⟨0,_,rfl,hr',by omega,by omega,fun _=>rfl⟩
 rw[if_neg hn]
 by_cases hl:r.f0.length=0
 ·rw[if_pos hl];exact⟨0,_,rfl,hr',by omega,by omega,fun _=>rfl⟩
 rw[if_neg hl]
 have tm:∀x:Int,0<=x->0<=x.tmod n/\x.tmod n<n:=fun x hx=>⟨Int.tmod_nonneg n hx,Int.tmod_lt_of_pos x (by omega)⟩
 have tl:∀x:Int,0<=x->0<=x.tmod (r.f0.length:Int)/\x.tmod (r.f0.length:Int)<r.f0.length:=fun x hx=>⟨Int.tmod_nonneg _ hx,Int.tmod_lt_of_pos x (by omega)⟩
 by_cases hk:r.f1<(r.f0.length:Int)
 ·rw[if_pos hk]
  obtain⟨x,hx,hm⟩:=ZEP h3 hk
  have hb:=h2 x hm
  rw[hx]
  simp only[oE,oS]
  rw[if_pos (by omega),ZE (by omega) (by omega)]
  have:=tm x hb.1
  exact⟨_,_,rfl,hr',this.1,fun _=>this.2,fun h=>by omega⟩
 ·rw[if_neg hk,if_pos (by omega)]
  have e7:i64.wrap (r.f1*7)=r.f1*7:=ZE (by omega) (by omega)
  have e73:i64.wrap (r.f1*7+3)=r.f1*7+3:=ZE (by omega) (by omega)
  rw[e7,e73]
  have t1:=tl r.f1 h3
  have t2:=tl (r.f1*7+3) (by omega)
  obtain⟨x,hx,hm⟩:=ZEP t1.1 t1.2
  obtain⟨y,hy,hm'⟩:=ZEP t2.1 t2.2
  have hb:=h2 x hm
  have hb':=h2 y hm'
  have hq0:0<=r.f1.tdiv (r.f0.length:Int):=Int.tdiv_nonneg h3 (by omega)
  have hq1:r.f1.tdiv (r.f0.length:Int)<=r.f1:=Int.tdiv_le_self _ h3
  rw[hx,hy]
  simp only[oE,oS]
  rw[if_pos (by omega)]
  generalize r.f1.tdiv (r.f0.length:Int)=q at hq0 hq1 ⊢
  rw[ZE (n:=x) (by omega) (by omega),ZE (n:=y) (by omega) (by omega),ZE (n:=q) (by omega) (by omega),ZE (n:=x*131) (by omega) (by omega),ZE (n:=y*1117) (by omega) (by omega),
   ZE (n:=r.f1*29) (by omega) (by omega),ZE (n:=q*53) (by omega) (by omega),ZE (n:=x*131+y*1117) (by omega) (by omega),ZE (n:=x*131+y*1117+r.f1*29) (by omega) (by omega),
   ZE (n:=x*131+y*1117+r.f1*29+q*53) (by omega) (by omega)]
  have hz0:0<=x*131+y*1117+r.f1*29+q*53:=by omega
  have hz1:x*131+y*1117+r.f1*29+q*53<4611686018427387904:=by omega
  generalize x*131+y*1117+r.f1*29+q*53=z at hz0 hz1 ⊢
  have hd0:0<=z.tdiv 64:=Int.tdiv_nonneg hz0 (by omega)
  have hd1:z.tdiv 64<=z:=Int.tdiv_le_self _ hz0
  rw[ZE (n:=z.tdiv 64) (by omega) (by omega)]
  have:=tm _ (ZLs hz0 hd0 hz1 (by omega))
  exact⟨_,_,rfl,hr',this.1,fun _=>this.2,fun h=>by omega⟩
theorem P.num {K:Nat}{r:ZA}(h:rok K r)(hK:K<=1099511627776)(l:List Int)(hl:l≠[]):∃v r',F.f54 r l=some (v,r')/\rok (K+1) r'/\v∈l:=by
 unfold F.f54
 obtain⟨v,r',e,h1,h2,h3,_⟩:=P.YG h hK (l.length:Int)
 have:0<l.length:=List.length_pos_iff.2 hl
 obtain⟨x,hx,hm⟩:=ZEP h2 (h3 (by omega))
 rw[e]
 simp only[oE,oS]
 rw[hx]
 exact⟨x,r',rfl,h1,hm⟩
def W0 :List Data:=[⟨⟨#[76]⟩,[⟨⟨#[78,105,108]⟩,[],0⟩,⟨⟨#[67,111,110,115]⟩,[⟨-1,0⟩,⟨0,0⟩],0⟩]⟩]
theorem ZLZ :F.f38 ⟨#[76,61,78,105,108,124,67,111,110,115,40,73,44,76,41]⟩=some (W0,true):=E.f38_le 100 _ _ (by kernel_rfl)
theorem ZLY :F.f53 W0=some [1,1,1,1]:=E.f53_le 100 _ _ (by kernel_rfl)
def W1 :List Data:=[⟨⟨#[66]⟩,[⟨⟨#[84,114,117]⟩,[],0⟩,⟨⟨#[70,108,115]⟩,[],0⟩]⟩,⟨⟨#[84]⟩,[⟨⟨#[76,101,97,102]⟩,[],0⟩,⟨⟨#[78,111,100,101]⟩,[⟨1,0⟩,⟨0,0⟩,⟨1,0⟩],0⟩]⟩]
theorem ZLX :F.f38 ⟨#[66,61,84,114,117,124,70,108,115,59,84,61,76,101,97,102,124,78,111,100,101,40,84,44,66,44,84,41]⟩=some (W1,true):=E.f38_le 100 _ _ (by kernel_rfl)
theorem ZLW :F.f53 W1=some [1,1,1,1,1,1,1,1]:=E.f53_le 100 _ _ (by kernel_rfl)
def W2 :List Data:=[⟨⟨#[69]⟩,[⟨⟨#[78,117,109]⟩,[⟨-1,0⟩],1⟩,⟨⟨#[66,111,108]⟩,[⟨1,0⟩],2⟩,⟨⟨#[65,100,100]⟩,[⟨0,1⟩,⟨0,1⟩],1⟩,⟨⟨#[73,102]⟩,[⟨0,2⟩,⟨0,-1⟩,⟨0,-1⟩],0⟩]⟩,⟨⟨#[66]⟩,[⟨⟨#[84,114,117]⟩,[],0⟩,⟨⟨#[70,108,115]⟩,[],0⟩]⟩]
theorem ZLV :F.f38 ⟨#[69,61,78,117,109,40,73,41,58,49,124,66,111,108,40,66,41,58,50,124,65,100,100,40,69,49,44,69,49,41,58,49,124,73,102,40,69,50,44,69,42,44,69,42,41,59,66,61,84,114,117,124,70,108,115]⟩=some (W2,true):=E.f38_le 100 _ _ (by kernel_rfl)
theorem ZLU :F.f53 W2=some [2,2,2,0,1,1,1,1]:=E.f53_le 100 _ _ (by kernel_rfl)
def W3 :List Data:=[⟨⟨#[79]⟩,[⟨⟨#[78,111,110]⟩,[],0⟩,⟨⟨#[83,111,109]⟩,[⟨-1,0⟩],0⟩]⟩,⟨⟨#[80]⟩,[⟨⟨#[80,97,105,114]⟩,[⟨0,0⟩,⟨0,0⟩],0⟩]⟩]
theorem ZLT :F.f38 ⟨#[79,61,78,111,110,124,83,111,109,40,73,41,59,80,61,80,97,105,114,40,79,44,79,41]⟩=some (W3,true):=E.f38_le 100 _ _ (by kernel_rfl)
theorem ZLS :F.f53 W3=some [1,1,1,1,2,2,2,2]:=E.f53_le 100 _ _ (by kernel_rfl)
def W4 :List Data:=[⟨⟨#[86]⟩,[⟨⟨#[69,110,100]⟩,[],1⟩,⟨⟨#[83,111,109,101]⟩,[⟨-1,0⟩,⟨0,1⟩],2⟩,⟨⟨#[84,119,111]⟩,[⟨0,-1⟩],0⟩]⟩]
theorem ZLR :F.f38 ⟨#[86,61,69,110,100,58,49,124,83,111,109,101,40,73,44,86,49,41,58,50,124,84,119,111,40,86,42,41]⟩=some (W4,true):=E.f38_le 100 _ _ (by kernel_rfl)
theorem ZLQ :F.f53 W4=some [1,1,2,0]:=E.f53_le 100 _ _ (by kernel_rfl)
def W5 :List Data:=[⟨⟨#[78]⟩,[⟨⟨#[78,101,118,101,114]⟩,[⟨0,0⟩],0⟩]⟩,⟨⟨#[66]⟩,[⟨⟨#[84,114,117]⟩,[],0⟩,⟨⟨#[70,108,115]⟩,[],0⟩,⟨⟨#[77,97,121]⟩,[⟨0,0⟩],0⟩]⟩]
theorem ZLP :F.f38 ⟨#[78,61,78,101,118,101,114,40,78,41,59,66,61,84,114,117,124,70,108,115,124,77,97,121,40,78,41]⟩=some (W5,true):=E.f38_le 100 _ _ (by kernel_rfl)
theorem ZLO :F.f53 W5=some [0,0,0,0,1,1,1,1]:=E.f53_le 100 _ _ (by kernel_rfl)
def W6 :List Data:=[⟨⟨#[83]⟩,[⟨⟨#[82,101,100]⟩,[],0⟩,⟨⟨#[71,114,101,101,110]⟩,[],0⟩,⟨⟨#[66,108,117,101]⟩,[],0⟩,⟨⟨#[77,105,120]⟩,[⟨0,0⟩,⟨0,0⟩],0⟩]⟩]
theorem ZLN :F.f38 ⟨#[83,61,82,101,100,124,71,114,101,101,110,124,66,108,117,101,124,77,105,120,40,83,44,83,41]⟩=some (W6,true):=E.f38_le 100 _ _ (by kernel_rfl)
theorem ZLM :F.f53 W6=some [1,1,1,1]:=E.f53_le 100 _ _ (by kernel_rfl)
def ZEY :List ByteArray:=[⟨#[76,61,78,105,108,124,67,111,110,115,40,73,44,76,41]⟩,⟨#[66,61,84,114,117,124,70,108,115,59,84,61,76,101,97,102,124,78,111,100,101,40,84,44,66,44,84,41]⟩,⟨#[69,61,78,117,109,40,73,41,58,49,124,66,111,108,40,66,41,58,50,124,65,100,100,40,69,49,44,69,49,41,58,49,124,73,102,40,69,50,44,69,42,44,69,42,41,59,66,61,84,114,117,124,70,108,115]⟩,⟨#[79,61,78,111,110,124,83,111,109,40,73,41,59,80,61,80,97,105,114,40,79,44,79,41]⟩,⟨#[86,61,69,110,100,58,49,124,83,111,109,101,40,73,44,86,49,41,58,50,124,84,119,111,40,86,42,41]⟩,⟨#[78,61,78,101,118,101,114,40,78,41,59,66,61,84,114,117,124,70,108,115,124,77,97,121,40,78,41]⟩,⟨#[83,61,82,101,100,124,71,114,101,101,110,124,66,108,117,101,124,77,105,120,40,83,44,83,41]⟩,ByteArray.empty]
theorem P.YA3 :F.f0=some ZEY:=rfl
def ZAM :List (List Data):=[W0,W1,W2,W3,W4,W5,W6]
theorem P.YA2 {K:Nat}{r:ZA}(h:rok K r)(hK:K<=1099511627776):∃w r',F.f39 r=some (w,r')/\rok (K+1) r'/\w∈ZAM:=by
 unfold F.f39
 rw[P.YA3]
 simp only[oE,oS]
 obtain⟨v,r',e,h1,h2,h3,_⟩:=P.YG h hK 7
 have e7:i64.wrap (((8:Nat):Int) -1)=7:=by rw[ZE (by omega) (by omega)];rfl
 have e8:ZEY.length=8:=rfl
 rw[e8,e7,e]
 simp only[oS]
 have h3:=h3 (by omega)
 have hv:v=0∨v=1∨v=2∨v=3∨v=4∨v=5∨v=6:=by omega
 rcases hv with rfl|rfl|rfl|rfl|rfl|rfl|rfl
 ·have:at? ZEY 0=some (⟨#[76,61,78,105,108,124,67,111,110,115,40,73,44,76,41]⟩:ByteArray):=rfl
  rw[this];simp only[oS]
  rw[ZLZ]
  exact⟨W0,r',rfl,h1,by simp[ZAM]⟩
 ·have:at? ZEY 1=some (⟨#[66,61,84,114,117,124,70,108,115,59,84,61,76,101,97,102,124,78,111,100,101,40,84,44,66,44,84,41]⟩:ByteArray):=rfl
  rw[this];simp only[oS]
  rw[ZLX]
  exact⟨W1,r',rfl,h1,by simp[ZAM]⟩
 ·have:at? ZEY 2=some (⟨#[69,61,78,117,109,40,73,41,58,49,124,66,111,108,40,66,41,58,50,124,65,100,100,40,69,49,44,69,49,41,58,49,124,73,102,40,69,50,44,69,42,44,69,42,41,59,66,61,84,114,117,124,70,108,115]⟩:ByteArray):=rfl
  rw[this];simp only[oS]
  rw[ZLV]
  exact⟨W2,r',rfl,h1,by simp[ZAM]⟩
 ·have:at? ZEY 3=some (⟨#[79,61,78,111,110,124,83,111,109,40,73,41,59,80,61,80,97,105,114,40,79,44,79,41]⟩:ByteArray):=rfl
  rw[this];simp only[oS]
  rw[ZLT]
  exact⟨W3,r',rfl,h1,by simp[ZAM]⟩
 ·have:at? ZEY 4=some (⟨#[86,61,69,110,100,58,49,124,83,111,109,101,40,73,44,86,49,41,58,50,124,84,119,111,40,86,42,41]⟩:ByteArray):=rfl
  rw[this];simp only[oS]
  rw[ZLR]
  exact⟨W4,r',rfl,h1,by simp[ZAM]⟩
 ·have:at? ZEY 5=some (⟨#[78,61,78,101,118,101,114,40,78,41,59,66,61,84,114,117,124,70,108,115,124,77,97,121,40,78,41]⟩:ByteArray):=rfl
  rw[this];simp only[oS]
  rw[ZLP]
  exact⟨W5,r',rfl,h1,by simp[ZAM]⟩
 ·have:at? ZEY 6=some (⟨#[83,61,82,101,100,124,71,114,101,101,110,124,66,108,117,101,124,77,105,120,40,83,44,83,41]⟩:ByteArray):=rfl
  rw[this];simp only[oS]
  rw[ZLN]
  exact⟨W6,r',rfl,h1,by simp[ZAM]⟩
def ZDY (code:List Int):Prop:=code.length<=maxLen/\∀x,x∈code->0<=x/\x<=255
theorem ZHH {code:List Int}(h:ZDY code)(hl:code.length<=2000):rok 0 ⟨code,0⟩:=⟨hl,h.2,Int.le_refl 0,Int.le_refl 0⟩
theorem ZIw {code:List Int}(h:ZDY code):rok 0 ⟨(code.drop 0).take (2000-0),0⟩:=⟨by simp;omega,fun x hx=>h.2 x (List.mem_of_mem_drop (List.mem_of_mem_take hx)),Int.le_refl 0,Int.le_refl 0⟩
theorem ZCl {w:List Data}(h:w∈ZAM):ZAH w:=by
 simp only[ZAM,List.mem_cons,List.not_mem_nil,or_false]at h
 rcases h with rfl|rfl|rfl|rfl|rfl|rfl|rfl<;>exact ZIr (by decide)
def tIx (w:List Data)(t:Ty):Prop:=t.data= -1∨(0<=t.data/\t.data<w.length/\0<=t.index/\t.index<=3)
theorem tIx.tOk {w:List Data}{t:Ty}(h:tIx w t):tOk w t:=h.imp id fun h=>⟨h.1,h.2.1⟩
def ZBp (T:List Int)(t:Ty):Int:=if t.data= -1 then 1 else T.getD (t.data*4+t.index).toNat 0
def ZBi (T:List Int):Int->List Ty->Int
 |m,[]=>m+1
 |m,a::r=>if ZBp T a=0 then 0 else ZBi T (if m<ZBp T a then ZBp T a else m) r
def ZCS (w:List Data)(T:List Int)(t:Ty)(c:Int):Int:=ZBi T 0 (ZO w t c)
def ZPC (i:Int)(c:Ctor):Bool:=decide (i=0)||decide (c.index=0)||decide (c.index=i)
def ZNT (w:List Data)(T:List Int):Bool:=decide (T.length=w.length*4)&& T.all (fun x=>decide (0<=x)&& decide (x<=2))&&
 (List.range w.length).all fun d=>(List.range 4).all fun i=>decide (T.getD (d*4+i) 0=0)||
  (List.range (w.getD d Data.z).ctors.length).any fun k=>ZPC i ((w.getD d Data.z).ctors.getD k Ctor.z)&& decide (ZCS w T ⟨d,i⟩ k=T.getD (d*4+i) 0)
theorem ZKz {i:Int}{c:Ctor}(h:ZPC i c=true):ZKy i c:=by
 simp only[ZPC,Bool.or_eq_true,decide_eq_true_eq]at h
 rcases h with(h|h)|h
 ·exact .inl h
 ·exact .inr (.inl h)
 ·exact .inr (.inr h)
theorem ZIs {i:Int}:∀{k:Nat} {l:List Ctor} {j:Nat} (hj:j<l.length),ZKy i l[j]->((k+j:Nat):Int)∈ZE1 i k l
 |k,c::r,0,hj,h=>by simp only[ZE1];rw[if_pos (ZG (show ZKy i c from h))];exact List.mem_append_left _ (by simp)
 |k,c::r,j+1,hj,h=>by
  simp only[ZE1]
  refine List.mem_append_right _ ?_
  have:=ZIs (k:=k+1) (l:=r) (j:=j) (by simpa using hj) h
  have e:k+1+j=k+(j+1):=by omega
  rwa[e]at this
structure TOk (w:List Data)(T:List Int):Prop where
 wok:ZP w
 len:T.length=w.length*4
 rng:∀k,0<=T.getD k 0/\T.getD k 0<=2
 has:∀t,tIx w t->t.data≠-1->ZBp T t≠0->∃c,c∈ZR w t/\ZCS w T t c=ZBp T t
theorem TOk.of {w:List Data}{T:List Int}(hw:ZP w)(h:ZNT w T=true):TOk w T:=by
 simp only[ZNT,Bool.and_eq_true,decide_eq_true_eq]at h
 obtain⟨⟨h1,h2⟩,h3⟩:=h
 refine⟨hw,h1,fun k=> ?_,fun t ht hn hd=> ?_⟩
 ·by_cases hk:k<T.length
  ·rw[List.getD_eq_getElem?_getD,gQ hk]
   have:=List.all_eq_true.1 h2 _ (gM hk)
   simpa using this
  ·rw[List.getD_eq_getElem?_getD,List.getElem?_eq_none (by omega)];simp
 ·obtain⟨q1,q2,q3,q4⟩:=ht.resolve_left hn
  have a1:=List.all_eq_true.1 h3 t.data.toNat (by simp;omega)
  have a2:=List.all_eq_true.1 a1 t.index.toNat (by simp;omega)
  simp only[Bool.or_eq_true,decide_eq_true_eq]at a2
  have e:(t.data*4+t.index).toNat=t.data.toNat*4+t.index.toNat:=by omega
  have ed:ZBp T t=T.getD (t.data.toNat*4+t.index.toNat) 0:=by unfold ZBp;rw[if_neg hn,e]
  have a3:=a2.resolve_left (by rw[←ed];exact hd)
  obtain⟨k,hk,hkk⟩:=List.any_eq_true.1 a3
  simp only[Bool.and_eq_true,decide_eq_true_eq]at hkk
  have et:(⟨(t.data.toNat:Int),(t.index.toNat:Int)⟩:Ty)=t:=by
   obtain⟨d,i⟩:=t
   simp only at q1 q3 ⊢
   rw[Int.toNat_of_nonneg q1,Int.toNat_of_nonneg q3]
  rw[et]at hkk
  have hk':k<(ZV w t).ctors.length:=by simpa[ZV]using hk
  refine⟨(k:Int),?_,by rw[hkk.2,ed]⟩
  unfold ZR
  rw[if_neg hn]
  have hf:=ZKz hkk.1
  rw[Int.toNat_of_nonneg q3]at hf
  have hg:(w.getD t.data.toNat Data.z).ctors.getD k Ctor.z=(ZV w t).ctors[k]:=by
   unfold ZV at hk' ⊢
   rw[List.getD_eq_getElem?_getD,gQ hk'];rfl
  rw[hg]at hf
  have:=ZIs (k:=0) hk' hf
  rwa[Nat.zero_add]at this
theorem TOk.dep {w:List Data}{T:List Int}(h:TOk w T)(t:Ty):0<=ZBp T t/\ZBp T t<=2:=by
 unfold ZBp;split
 ·omega
 ·exact h.rng _
theorem P.YL {w:List Data}{T:List Int}(h:TOk w T){t:Ty}(ht:tIx w t):F.f47 T t=some (ZBp T t):=by
 unfold F.f47 F.f46 ZBp
 by_cases hn:t.data= -1
 ·rw[if_pos hn,if_pos hn]
 ·obtain⟨q1,q2,q3,q4⟩:=ht.resolve_left hn
  have hw:=h.wok.1
  rw[if_neg hn,if_neg hn,ZE (n:=t.data*4) (by omega) (by omega),ZE (by omega) (by omega)]
  simp only[oE,oS]
  have hl:(t.data*4+t.index).toNat<T.length:=by rw[h.len];omega
  unfold at?
  rw[if_pos (by omega),gQ hl,List.getD_eq_getElem?_getD,gQ hl]
  rfl
theorem ZJ1 {w:List Data}(hw:ZP w){t:Ty}(ht:tIx w t){c:Int}(h:c∈ZR w t):∀a,a∈ZO w t c->tIx w a:=by
 have hc:=(Zg hw ht.tOk (ZW h).1).2 _ (ZBG h).2
 have hn:=(ZW h).1
 intro a ha
 obtain⟨b,hb,rfl⟩:=List.mem_map.1 ha
 obtain⟨j,hj,rfl⟩:=List.getElem_of_mem hb
 have:=hc.2.2.2.2 j (by omega) hj
 obtain⟨q1,q2,q3,q4⟩:=ht.resolve_left hn
 unfold ZCf
 rcases this with⟨p1,p2⟩|⟨p1,p2,p3,p4⟩
 ·rw[if_neg (by omega)];exact .inl p1
 ·split
  ·next e=>
   refine .inr ⟨p1,p2,?_,?_⟩
   ·show 0<=(if(Zb w t c).index=0 then t.index else(Zb w t c).index)
    split
    ·exact q3
    ·exact hc.2.2.1
   ·show(if(Zb w t c).index=0 then t.index else(Zb w t c).index)<=3
    split
    ·exact q4
    ·exact hc.2.2.2.1
  ·next e=>exact .inr ⟨p1,p2,by omega,p4⟩
theorem ZEk {w:List Data}{T:List Int}(h:TOk w T):∀(l:List Ty) (m:Int),0<=m->m<=2->0<=ZBi T m l/\ZBi T m l<=3/\(ZBi T m l≠0->m+1<=ZBi T m l/\∀a,a∈l->ZBp T a≠0/\ZBp T a+1<=ZBi T m l)
 | [],m,h0,h2=>⟨by simp only[ZBi];omega,by simp only[ZBi];omega,fun _=>⟨by simp only[ZBi];omega,fun a ha=>by cases ha⟩⟩
 |a::r,m,h0,h2=>by
  have hd:=h.dep a
  simp only[ZBi]
  by_cases ha:ZBp T a=0
  ·rw[if_pos ha];exact⟨by omega,by omega,fun h=>absurd rfl h⟩
  ·rw[if_neg ha]
   have hm:∃m',(if m<ZBp T a then ZBp T a else m)=m'/\0<=m'/\m'<=2/\m<=m'/\ZBp T a<=m':=by
    split
    ·exact⟨_,rfl,by omega,by omega,by omega,by omega⟩
    ·exact⟨_,rfl,by omega,by omega,by omega,by omega⟩
   obtain⟨m',e,k0,k2,k3,k4⟩:=hm
   rw[e]
   obtain⟨i1,i2,i3⟩:=ZEk h r m' k0 k2
   refine⟨i1,i2,fun hne=> ?_⟩
   obtain⟨j1,j2⟩:=i3 hne
   refine⟨by omega,fun b hb=> ?_⟩
   rcases List.mem_cons.1 hb with rfl|hb
   ·exact⟨ha,by omega⟩
   ·exact j2 b hb
def mR (n:Int):Lo Int Int:=if n=0 then .ret 0 else .go (n-1)
theorem P.Yk {w:List Data}{T:List Int}(h:TOk w T)(l:List Ty)(hl:∀a,a∈l->tIx w a):∀(n k:Nat) (m:Int),l.length-k=n->0<=m->m<=2->
  F.f48 T l m k=some (mR (ZBi T m (l.drop k))):=by
 intro n
 induction n with
 |zero=>
  intro k m hn h0 h2
  rw[F.f48,if_neg (by omega),List.drop_eq_nil_of_le (by omega)]
  show some (Lo.go m)=some (mR (m+1))
  unfold mR
  rw[if_neg (by omega)];congr 2;omega
 |succ n ih=>
  intro k m hn h0 h2
  have hk:k<l.length:=by omega
  have hd:=h.dep l[k]
  rw[F.f48,if_pos hk,gQ hk]
  simp only[oE,oS]
  rw[P.YL h (hl _ (gM hk)),List.drop_eq_getElem_cons hk]
  simp only[oS,ZBi]
  by_cases ha:ZBp T l[k]=0
  ·rw[if_pos ha,if_pos ha];rfl
  ·rw[if_neg ha,if_neg ha]
   by_cases hm:m<ZBp T l[k]
   ·rw[if_pos hm,if_pos hm,ih _ _ (by omega) (by omega) (by omega)]
   ·rw[if_neg hm,if_neg hm,ih _ _ (by omega) (by omega) (by omega)]
theorem P.YAV {w:List Data}{T:List Int}(h:TOk w T){t:Ty}(ht:tIx w t){c:Int}(hc:c∈ZR w t):F.f49 w T t c=some (ZCS w T t c):=by
 unfold F.f49
 rw[P.YE w h.wok t ht.tOk c hc]
 simp only[oE,oS]
 rw[P.Yk h _ (ZJ1 h.wok ht hc) _ 0 0 rfl (by omega) (by omega),List.drop_zero]
 simp only[oS]
 have:=ZEk h (ZO w t c) 0 (by omega) (by omega)
 unfold ZCS
 unfold mR
 by_cases h0:ZBi T 0 (ZO w t c)=0
 ·rw[if_pos h0,h0]
 ·rw[if_neg h0]
  show some (i64.wrap (ZBi T 0 (ZO w t c) -1+1))=_
  rw[ZE (by omega) (by omega)];congr 1;omega
def ZCa (w:List Data)(T:List Int)(t:Ty)(depth:Int)(c:Int):Bool:=decide (0<ZCS w T t c)&& (decide (ZCS w T t c<=depth)||decide (ZCS w T t c=ZBp T t))
theorem P.Yj {w:List Data}{T:List Int}(h:TOk w T){t:Ty}(ht:tIx w t)(r:ZA)(depth:Int)(l:List Int)(hl:∀c,c∈l->c∈ZR w t)(h8:l.length<=4):∀(n k:Nat) (out:List Int),l.length-k=n->out.length<=k->
  F.f55 r w T t depth l out k=some (out++(l.drop k).filter (ZCa w T t depth)):=by
 intro n
 induction n with
 |zero=>intro k out hn ho;rw[F.f55,if_neg (by omega),List.drop_eq_nil_of_le (by omega)];simp
 |succ n ih=>
  intro k out hn ho
  have hk:k<l.length:=by omega
  rw[F.f55,if_pos hk,gQ hk]
  simp only[oE,oS]
  rw[P.YAV h ht (hl _ (gM hk)),List.drop_eq_getElem_cons hk,P.YL h ht]
  simp only[oS]
  have yes:ZCa w T t depth l[k]=true->F.f55 r w T t depth l (out++[l[k]]) (k+1)=some (out++(l[k]::l.drop (k+1)).filter (ZCa w T t depth)):=fun hf=>by
   rw[ih (k+1) _ (by omega) (by simp;omega),List.filter_cons_of_pos hf];simp
  have no:ZCa w T t depth l[k]=false->F.f55 r w T t depth l out (k+1)=some (out++(l[k]::l.drop (k+1)).filter (ZCa w T t depth)):=fun hf=>by
   rw[ih (k+1) _ (by omega) (by omega),List.filter_cons_of_neg (by simp[hf])]
  by_cases h1:0<ZCS w T t l[k]
  ·rw[if_pos h1]
   by_cases h2:ZCS w T t l[k]<=depth
   ·rw[if_pos h2,if_pos (by omega)];exact yes (by simp[ZCa,h1,h2])
   ·rw[if_neg h2]
    by_cases h3:ZCS w T t l[k]=ZBp T t
    ·rw[if_pos h3,if_pos (by omega)];exact yes (by simp only[ZCa,h1,h3];simp[←h3,h1])
    ·rw[if_neg h3];exact no (by simp[ZCa,h2,h3])
  ·rw[if_neg h1];exact no (by simp[ZCa,h1])
theorem ZIt {w:List Data}(hw:ZP w){t:Ty}(ht:tOk w t):(ZR w t).length<=4:=by
 unfold ZR
 split
 ·simp
 ·next hn=>exact Nat.le_trans (ZHD _ _ _) (Zg hw ht hn).1
theorem ZNP (c n:Int)(ks:List Value):(⟨c,n,ks⟩:Value).wt=((ks.map fun k=>1+k.wt).sum):=by
 have:=ZLt ⟨c,n,ks⟩
 simpa using this
theorem P.YAn {w:List Data}{T:List Int}(h:TOk w T):∀(n:Nat) (t:Ty) (depth:Int) (K:Nat) (r:ZA),tIx w t->ZBp T t≠0->ZBp T t<=n->depth<=n->-1000000+n<=depth->n<=12->rok K r->K+4^n<=1099511627776->
  ∃v r',F.f56 r w T t depth=some (v,r')/\rok (K+4^n) r'/\pv w false n t v/\v.wt+1<=4^n/\(t.data≠-1->∀a,a∈ZO w t v.ctor->ZBp T a≠0)
 |0,t,depth,K,r,ht,hd,hdn,_,_,_,_,_=>by have:=h.dep t;omega
 |n+1,t,depth,K,r,ht,hd,hdn,hde,hlo,h12,hr,hK=>by
  have p4:1<=4^n:=Nat.one_le_pow _ _ (by omega)
  have p4':4^ (n+1)=4*4^n:=by rw[Nat.pow_succ];omega
  rw[F.f56]
  by_cases hn:t.data= -1
  ·rw[if_pos hn]
   obtain⟨v,r',e,h1,h2,h3,_⟩:=P.YG hr (by omega) 10
   have h3:=h3 (by omega)
   rw[e]
   refine⟨_,_,rfl,h1.mono (by omega),?_,?_,fun h=>absurd hn h⟩
   ·exact .inr ⟨by simp,.inl ⟨hn,rfl,h2,by show v<=9;omega,rfl⟩⟩
   ·rw[ZNP];simp;omega
  ·rw[if_neg hn,P.YM w h.wok t ht.tOk]
   simp only[oE,oS]
   rw[P.Yj h ht r depth _ (fun c hc=>hc) (ZIt h.wok ht.tOk) _ 0 [] rfl (by simp),List.drop_zero,List.nil_append]
   simp only[oS]
   obtain⟨c0,hc0,hm0⟩:=h.has t ht hn hd
   have hdt:=h.dep t
   have hf0:c0∈(ZR w t).filter (ZCa w T t depth):=List.mem_filter.2 ⟨hc0,by simp only[ZCa,hm0];simp;omega⟩
   have hpos:=List.length_pos_of_mem hf0
   obtain⟨v,r1,e,h1,h2,h3,_⟩:=P.YG hr (by omega) (((ZR w t).filter (ZCa w T t depth)).length:Int)
   obtain⟨c,hcx,hcm⟩:=ZEP h2 (h3 (by omega))
   rw[e];simp only[oS]
   rw[hcx];simp only[oS]
   obtain⟨hcl,hcf⟩:=List.mem_filter.1 hcm
   simp only[ZCa,Bool.and_eq_true,Bool.or_eq_true,decide_eq_true_eq]at hcf
   rw[P.YE w h.wok t ht.tOk c hcl]
   simp only[oS]
   obtain⟨g1,g2,g3⟩:=ZEk h (ZO w t c) 0 (by omega) (by omega)
   have g3:=g3 (by unfold ZCS at hcf;omega)
   have hal:=(ZNC h.wok ht.tOk hcl).1
   have hax:=ZJ1 h.wok ht hcl
   have hmn:ZCS w T t c<=(n:Int)+1:=by rcases hcf.2 with q|q<;>omega
   have kid:∀a,a∈ZO w t c->∀K r,rok K r->K+4^n<=1099511627776->∃v r',F.f56 r w T a (i64.wrap (depth-1))=some (v,r')/\rok (K+4^n) r'/\pv w false n a v/\v.wt+1<=4^n:=by
    intro a ha K r hr hK
    rw[ZE (by omega) (by omega)]
    obtain⟨q1,q2⟩:=g3.2 a ha
    obtain⟨v,r',e,k1,k2,k3,_⟩:=P.YAn h n a (depth-1) K r (hax a ha) q1 (by unfold ZCS at hmn;omega) (by omega) (by omega) (by omega) hr hK
    exact⟨v,r',e,k1,k2,k3⟩
   have loop:∀(m k:Nat) (z:List Int) (z33:Int) (out:List Value) (K:Nat),(ZO w t c).length-k=m->out.length=k->rok K ⟨z,z33⟩->K+m*4^n<=1099511627776->
     (∀i (hi:i<out.length) (hi':i<(ZO w t c).length),pv w false n (ZO w t c)[i] out[i])->((out.map fun k=>1+k.wt).sum)<=k*4^n->k<=(ZO w t c).length->
     ∃z' z33' out',F.f57 w T depth c (ZO w t c) z z33 out k=some (z',z33',out')/\rok (K+m*4^n) ⟨z',z33'⟩/\out'.length=(ZO w t c).length/\
      (∀i (hi:i<out'.length) (hi':i<(ZO w t c).length),pv w false n (ZO w t c)[i] out'[i])/\((out'.map fun k=>1+k.wt).sum)<=(ZO w t c).length*4^n:=by
    intro m
    induction m with
    |zero=>
     intro k z z33 out K hm ho hr hK hp hs hk
     rw[F.f57,if_neg (by omega)]
     have:k=(ZO w t c).length:=by omega
     subst this
     exact⟨z,z33,out,rfl,by simpa using hr,ho,hp,hs⟩
    |succ m ih=>
     intro k z z33 out K hm ho hr hK hp hs hkl
     have hk:k<(ZO w t c).length:=by omega
     rw[F.f57,if_pos hk,gQ hk]
     simp only[oE,oS]
     have e1:(m+1)*4^n=m*4^n+4^n:=by rw[Nat.succ_mul]
     obtain⟨v,r',e,k1,k2,k3⟩:=kid _ (gM hk) K ⟨z,z33⟩ hr (by omega)
     rw[e];simp only[oS]
     rw[if_pos (by omega)]
     have e2:(k+1)*4^n=k*4^n+4^n:=by rw[Nat.succ_mul]
     have key:=fun p1 p2=>ih (k+1) r'.f0 r'.f1 (out++[v]) (K+4^n) (by omega) (by simp[ho]) k1 (by omega) p1 p2 hk
     obtain⟨z',z33',out',q1,q2,q3⟩:=key (by
      intro i hi hi'
      by_cases hik:i<out.length
      ·rw[List.getElem_append_left hik];exact hp i hik hi'
      ·have:i=k:=by simp at hi;omega
       subst this
       rw[List.getElem_append_right (by omega)]
       simpa using k2) (by
      simp only[List.map_append,List.sum_append,List.map_cons,List.map_nil,List.sum_cons,List.sum_nil];omega)
     exact⟨z',z33',out',q1,q2.mono (by omega),q3⟩
   have m3:(ZO w t c).length*4^n<=3*4^n:=Nat.mul_le_mul_right _ hal
   obtain⟨z',z33',out',q1,q2,q3,q4,q5⟩:=loop _ 0 r1.f0 r1.f1 [] (K+1) rfl rfl h1 (by simp only[Nat.sub_zero];omega) (fun i hi=>by simp at hi) (by simp) (by omega)
   rw[q1];simp only[oS]
   refine⟨_,_,rfl,q2.mono (by simp only[Nat.sub_zero];omega),?_,?_,fun _ a ha=>(g3.2 a ha).1⟩
   ·refine .inr ⟨by simp,.inr ⟨hn,rfl,hcl,q3,fun i _ _ hi hi'=>q4 i hi' hi⟩⟩
   ·rw[ZNP];omega
theorem P.YAz {w:List Data}{T:List Int}(h:TOk w T)(n:Nat)(t:Ty)(depth:Int)(K:Nat)(r:ZA)(a1:tIx w t)(a2:ZBp T t≠0)(a3:ZBp T t<=n)(a4:depth<=n)(a5: -1000000+n<=depth)(a6:n<=12)(a7:rok K r)(a8:K+4^n<=1099511627776):
  ∃v r',F.f56 r w T t depth=some (v,r')/\rok (K+4^n) r'/\pv w false n t v/\v.wt+1<=4^n:=by
 obtain⟨v,r',e,k1,k2,k3,_⟩:=P.YAn h n t depth K r a1 a2 a3 a4 a5 a6 a7 a8
 exact⟨v,r',e,k1,k2,k3⟩
theorem ZKF {w:List Data}(hw:w∈ZAM):ZP w/\1<=w.length/\w.length<=2/\ZAH w/\∃T,F.f53 w=some T/\TOk w T:=by
 have hs:=ZCl hw
 have wok:F.f24 w=some true->ZP w:=fun h=>by rw[P.YN w hs]at h;exact ZDT.1 (Option.some.inj h)
 simp only[ZAM,List.mem_cons,List.not_mem_nil,or_false]at hw
 rcases hw with rfl|rfl|rfl|rfl|rfl|rfl|rfl
 ·have:=wok (E.f24_le 100 _ _ (by kernel_rfl));exact⟨this,by decide,by decide,hs,_,ZLY,TOk.of this (by decide)⟩
 ·have:=wok (E.f24_le 100 _ _ (by kernel_rfl));exact⟨this,by decide,by decide,hs,_,ZLW,TOk.of this (by decide)⟩
 ·have:=wok (E.f24_le 100 _ _ (by kernel_rfl));exact⟨this,by decide,by decide,hs,_,ZLU,TOk.of this (by decide)⟩
 ·have:=wok (E.f24_le 100 _ _ (by kernel_rfl));exact⟨this,by decide,by decide,hs,_,ZLS,TOk.of this (by decide)⟩
 ·have:=wok (E.f24_le 100 _ _ (by kernel_rfl));exact⟨this,by decide,by decide,hs,_,ZLQ,TOk.of this (by decide)⟩
 ·have:=wok (E.f24_le 100 _ _ (by kernel_rfl));exact⟨this,by decide,by decide,hs,_,ZLO,TOk.of this (by decide)⟩
 ·have:=wok (E.f24_le 100 _ _ (by kernel_rfl));exact⟨this,by decide,by decide,hs,_,ZLM,TOk.of this (by decide)⟩
theorem P.YAy {K:Nat}{r:ZA}(h:rok K r)(hK:K+300<=1099511627776):∃w t v r' T,F.f58 r=some (w,t,v,r')/\rok (K+300) r'/\w∈ZAM/\F.f53 w=some T/\TOk w T/\tIx w t/\t.index<=2/\0<=t.index/\ZBp T t≠0/\pv w false 4 t v/\v.wt+1<=256/\(t.data= -1->t.index=0):=by
 unfold F.f58
 obtain⟨w,r1,e1,h1,hw⟩:=P.YA2 h (by omega)
 obtain⟨hwo,hl1,hl2,hs,T,hT,hTo⟩:=ZKF hw
 obtain⟨p,r2,e2,h2,p0,p1,_⟩:=P.YG h1 (by omega) (w.length:Int)
 obtain⟨i,r3,e3,h3,hi⟩:=P.num h2 (by omega) [0,0,1,2] (by simp)
 obtain⟨d,r4,e4,h4,hd⟩:=P.num h3 (by omega) [3,2,4,1] (by simp)
 have hi:0<=i/\i<=2:=by simp at hi;omega
 have hd:1<=d/\d<=4:=by simp at hd;omega
 have p1:=p1 (by omega)
 have ht:tIx w ⟨p,i⟩:=.inr ⟨p0,p1,hi.1,by show i<=3;omega⟩
 rw[e1];simp only[oE,oS]
 rw[hT];simp only[oS]
 rw[e2];simp only[oS]
 rw[e3];simp only[oS]
 rw[P.YL hTo ht,e4];simp only[oS]
 split
 ·obtain⟨v,r',e,k1,k2,k3⟩:=P.YAz hTo 4 ⟨-1,0⟩ d _ r4 (.inl rfl) (by simp[ZBp]) (by simp[ZBp]) (by omega) (by omega) (by omega) h4 (by omega)
  rw[e]
  exact⟨w,⟨-1,0⟩,v,r',T,rfl,k1.mono (by omega),hw,hT,hTo,.inl rfl,by simp,by simp,by simp[ZBp],k2,k3,fun _=>rfl⟩
 ·next hne=>
  have:=hTo.dep ⟨p,i⟩
  obtain⟨v,r',e,k1,k2,k3⟩:=P.YAz hTo 4 ⟨p,i⟩ d _ r4 ht hne (by omega) (by omega) (by omega) (by omega) h4 (by omega)
  rw[e]
  exact⟨w,⟨p,i⟩,v,r',T,rfl,k1.mono (by omega),hw,hT,hTo,ht,hi.2,hi.1,hne,k2,k3,fun hh=>by have:p= -1:=hh;omega⟩
noncomputable def ZDp (l:List VarType)(n:Int):Int:=match ZF5 (fun x=>x.var=n) 0 l with
 |some j=>(j:Int)
 |none=> -1
theorem P.YD (l:List VarType)(n:Int):F.f79 l n=some (ZDp l n):=by
 unfold F.f79 ZDp
 rw[ZK0 (a:=l) (p:=fun x=>x.var=n) (L:=F.f78 l n) (fun k hk=>by rw[F.f78,if_neg (by omega)])
  (fun k hk hp=>by rw[F.f78,if_pos hk,gQ hk];simp only[oE,oS];rw[if_neg hp])
  (fun k hk hp=>by rw[F.f78,if_pos hk,gQ hk];simp only[oE,oS];rw[if_pos hp]) _ 0 rfl,List.drop_zero]
 cases ZF5 (fun x=>x.var=n) 0 l<;>rfl
theorem ZBn (l:List VarType)(n:Int):ZDp l n= -1∨∃(j:Nat) (h:j<l.length),ZDp l n=(j:Int)/\l[j].var=n/\∀i (hi:i<l.length),i<j->l[i].var≠n:=by
 unfold ZDp
 cases h:ZF5 (fun x:VarType=>x.var=n) 0 l with
 |none=>exact .inl rfl
 |some j=>
  obtain⟨_,h2,h3,h4⟩:=ZAp h
  exact .inr ⟨j,h2,rfl,h3,h4⟩
theorem ZEH (l:List VarType)(j:Nat)(hj:j<l.length):ZDp l l[j].var=(j:Int)↔∀i (hi:i<l.length),i<j->l[i].var≠l[j].var:=by
 constructor
 ·intro h
  rcases ZBn l l[j].var with q|⟨k,hk,q1,q2,q3⟩
  ·omega
  ·have:k=j:=by omega
   subst this;exact q3
 ·intro h
  unfold ZDp
  cases hf:ZF5 (fun x:VarType=>x.var=l[j].var) 0 l with
  |none=>exact absurd rfl (ZAq hf l[j] (gM hj))
  |some k=>
   obtain⟨_,h2,h3,h4⟩:=ZAp hf
   show(k:Int)=j
   have:¬k<j:=fun hlt=>h k h2 hlt h3
   have:¬j<k:=fun hlt=>h4 j hj (by omega) rfl
   omega
theorem P.YBB (v:Int):F.f114 v=some (dec (0<=v/\v<=5)):=by
 unfold F.f114;rw[P.YF];rfl
theorem ZER {w:List Data}(hw:ZP w){t:Ty}(ht:ZZ w t){c:Int}(h:c∈ZR w t):∀a,a∈ZO w t c->ZZ w a:=by
 have hc:=(Zg hw (ZBZ ht.1) (ZW h).1).2 _ (ZBG h).2
 have hn:=(ZW h).1
 intro a ha
 obtain⟨b,hb,rfl⟩:=List.mem_map.1 ha
 obtain⟨j,hj,rfl⟩:=List.getElem_of_mem hb
 have:=hc.2.2.2.2 j (by omega) hj
 have ht2:=ht.2
 rcases ht.1 with q|⟨q1,q2,q3,q4⟩
 ·exact absurd q.1 hn
 unfold ZCf
 rcases this with⟨p1,p2⟩|⟨p1,p2,p3,p4⟩
 ·rw[if_neg (by omega)];exact⟨.inl ⟨p1,p2⟩,by omega⟩
 ·split
  ·next e=>
   have hx:0<=(if(Zb w t c).index=0 then t.index else(Zb w t c).index)/\(if(Zb w t c).index=0 then t.index else(Zb w t c).index)<=3:=by
    split
    ·exact⟨ht2,q4⟩
    ·exact⟨hc.2.2.1,hc.2.2.2.1⟩
   exact⟨.inr ⟨p1,p2,by show -1<=(if(Zb w t c).index=0 then t.index else(Zb w t c).index);omega,hx.2⟩,hx.1⟩
  ·next e=>exact⟨.inr ⟨p1,p2,p3,p4⟩,by omega⟩
def ZAn (w:List Data)(t:Ty)(p:Pattern):Prop:=
 (p.op=1/\p.var=0/\p.n=0/\p.m=0/\p.ctor=0)∨
 (p.op=2/\0<=p.var/\p.var<=5/\p.n=0/\p.m=0/\p.ctor=0)∨
 (p.op=3/\p.var=0/\p.ctor=0/\t.data= -1/\0<=p.n/\p.n<=p.m/\p.m<=9)∨
 (p.op=4/\p.var=0/\p.n=0/\p.m=0/\p.ctor∈ZR w t)∨
 (p.op=5/\p.var=0/\p.n=0/\p.m=0/\p.ctor=0)∨
 (p.op=6/\0<=p.var/\p.var<=5/\p.n=0/\p.m=0/\p.ctor=0)
noncomputable def ZH (w:List Data)(t:Ty)(p:Pattern):List Ty:=if p.op=4 then ZO w t p.ctor else if p.op=5 then[t,t]else if p.op=6 then[t]else[]
theorem P.YAa (w:List Data)(hw:ZP w)(t:Ty)(ht:tOk w t)(p:Pattern):F.f66 w t p=some (dec (ZAn w t p)):=by
 unfold F.f66
 rw[P.YM w hw t ht]
 simp only[oE,oS,P.YAb]
 have yes:ZAn w t p->some true=some (dec (ZAn w t p)):=fun h=>by rw[ZG h]
 have no:¬ZAn w t p->some false=some (dec (ZAn w t p)):=fun h=>by rw[ZF h]
 repeat' split
 all_goals first
  |(refine no fun h=> ?_;unfold ZAn at h;omega)
  |(refine yes ?_;unfold ZAn;omega)
  |skip
 ·rw[←ZAI];congr 1;refine ZL ?_;unfold ZAn;omega
 ·congr 1;refine ZL ⟨fun h=>.inr (.inr (.inr (.inl ⟨by assumption,by assumption,by assumption,by assumption,h⟩))),fun h=> ?_⟩
  unfold ZAn at h
  rcases h with h|h|h|h|h|h
  ·omega
  ·omega
  ·omega
  ·exact h.2.2.2.2
  ·omega
  ·omega
theorem P.YJ (w:List Data)(hw:ZP w)(t:Ty)(ht:tOk w t)(p:Pattern)(h:ZAn w t p):F.f69 w t p=some (ZH w t p):=by
 unfold F.f69 ZH
 by_cases h4:p.op=4
 ·rw[if_pos h4,if_pos h4]
  have hc:p.ctor∈ZR w t:=by
   unfold ZAn at h
   rcases h with h|h|h|h|h|h
   ·omega
   ·omega
   ·omega
   ·exact h.2.2.2.2
   ·omega
   ·omega
  rw[P.YE w hw t ht _ hc];rfl
 ·rw[if_neg h4,if_neg h4]
  have k:F.f67 p.op=some (if p.op=5 then 2 else if p.op=6 then 1 else 0):=by
   unfold F.f67;split
   ·rfl
   ·split
    ·rfl
    ·rfl
  by_cases h5:p.op=5
  ·rw[if_pos h5]
   rw[if_pos h5]at k
   rw[F.f68,k]
   simp only[oE,oS]
   rw[if_pos (by omega),if_pos (by simp),if_pos (by omega),F.f68,k]
   simp only[oE,oS]
   rw[if_pos (by omega),if_pos (by simp),if_pos (by omega),F.f68,k]
   simp only[oE,oS]
   rw[if_neg (by omega)];simp
  ·rw[if_neg h5]
   rw[if_neg h5]at k
   by_cases h6:p.op=6
   ·rw[if_pos h6]
    rw[if_pos h6]at k
    rw[F.f68,k]
    simp only[oE,oS]
    rw[if_pos (by omega),if_pos (by simp),if_pos (by omega),F.f68,k]
    simp only[oE,oS]
    rw[if_neg (by omega)];simp
   ·rw[if_neg h6]
    rw[if_neg h6]at k
    rw[F.f68,k]
    simp only[oE,oS]
    rw[if_neg (by omega)];simp
theorem ZAm {w:List Data}(hw:ZP w){t:Ty}(ht:ZZ w t){p:Pattern}(h:ZAn w t p):∀a,a∈ZH w t p->ZZ w a:=by
 unfold ZH
 intro a ha
 split at ha
 ·next h4=>
  have hc:p.ctor∈ZR w t:=by
   unfold ZAn at h
   rcases h with h|h|h|h|h|h
   ·omega
   ·omega
   ·omega
   ·exact h.2.2.2.2
   ·omega
   ·omega
  exact ZER hw ht hc a ha
 ·split at ha
  ·simp at ha;subst ha;exact ht
  ·split at ha
   ·simp at ha;subst ha;exact ht
   ·cases ha
theorem P.YAs (p:Pattern)(c n v:Bool)(k:Int):F.f113 p c n v k=some (dec ((c=true∨p.ctor=0)/\(n=true∨(p.n=0/\p.m=0))/\(v=true∨p.var=0)/\(p.kids.length:Int)=k)):=by
 unfold F.f113
 cases c<;>cases n<;>cases v<;>simp only[Bool.false_eq_true,if_true,if_false,false_or,true_or,true_and]
 all_goals(repeat' split)
 all_goals first
  |(rw[←ZAI];done)
  |(rw[←ZAI];congr 1;refine ZL ?_;omega)
  |(rw[ZF];omega)
theorem P.YAe (w:List Data)(hw:ZP w)(t:Ty)(ht:tOk w t)(p:Pattern):
  ∃ts,F.f123 w t p=some (ts,dec (ZAn w t p/\p.kids.length=(ZH w t p).length))/\(ZAn w t p->ts=ZH w t p):=by
 unfold F.f123
 simp only[P.YAs,P.YBB,P.YAP w hw t ht,P.YQ,oE,oS,ZDT]
 by_cases h1:p.op=1
 ·rw[if_pos h1]
  have e:ZH w t p=[]:=by unfold ZH;rw[if_neg (by omega),if_neg (by omega),if_neg (by omega)]
  rw[e]
  refine⟨[],?_,fun _=>rfl⟩
  congr 2;refine ZL ?_;unfold ZAn;simp only[Bool.false_eq_true,false_or,List.length_nil];omega
 rw[if_neg h1]
 by_cases h2:p.op=2
 ·rw[if_pos h2]
  have e:ZH w t p=[]:=by unfold ZH;rw[if_neg (by omega),if_neg (by omega),if_neg (by omega)]
  rw[e]
  refine⟨[],?_,fun _=>rfl⟩
  split
  ·next hh=>
   simp only[Bool.false_eq_true,false_or,true_or,true_and]at hh
   congr 2;refine ZL ?_;unfold ZAn;simp only[List.length_nil,List.length_cons];omega
  ·next hh=>
   simp only[Bool.false_eq_true,false_or,true_or,true_and]at hh
   rw[ZF];unfold ZAn;simp only[List.length_nil,List.length_cons];omega
 rw[if_neg h2]
 by_cases h3:p.op=3
 ·rw[if_pos h3]
  have e:ZH w t p=[]:=by unfold ZH;rw[if_neg (by omega),if_neg (by omega),if_neg (by omega)]
  rw[e]
  refine⟨[],?_,fun _=>rfl⟩
  simp only[Bool.false_eq_true,false_or,true_or,true_and,List.length_nil]
  repeat' split
  all_goals first
   |(rw[←ZAI];congr 2;refine ZL ?_;unfold ZAn;omega)
   |(rw[ZF];unfold ZAn;omega)
 rw[if_neg h3]
 by_cases h4:p.op=4
 ·rw[if_pos h4]
  have e:ZH w t p=ZO w t p.ctor:=by unfold ZH;rw[if_pos h4]
  rw[e]
  by_cases hc:p.ctor∈ZR w t
  ·rw[if_pos hc,P.YAD w hw t ht _ hc]
   simp only[oS]
   refine⟨ZO w t p.ctor,?_,fun _=>rfl⟩
   congr 2;refine ZL ⟨fun h=>⟨.inr (.inr (.inr (.inl ⟨h4,?_,?_,?_,hc⟩))),?_⟩,fun h=> ?_⟩
   ·simp at h;exact h.2.1
   ·simp at h;exact h.1.1
   ·simp at h;exact h.1.2
   ·simp at h;omega
   ·obtain⟨h,hl⟩:=h
    unfold ZAn at h
    rcases h with h|h|h|h|h|h
    ·omega
    ·omega
    ·omega
    ·exact⟨.inl trivial,.inr ⟨h.2.2.1,h.2.2.2.1⟩,.inr h.2.1,by omega⟩
    ·omega
    ·omega
  ·rw[if_neg hc]
   have hn:¬ZAn w t p:=by
    intro h
    unfold ZAn at h
    rcases h with h|h|h|h|h|h
    ·omega
    ·omega
    ·omega
    ·exact hc h.2.2.2.2
    ·omega
    ·omega
   exact⟨[],by rw[ZF fun h=>hn h.1],fun h=>absurd h hn⟩
 rw[if_neg h4]
 by_cases h5:p.op=5
 ·rw[if_pos h5]
  have e:ZH w t p=[t,t]:=by unfold ZH;rw[if_neg (by omega),if_pos (by omega)]
  rw[e]
  refine⟨[t,t],?_,fun _=>rfl⟩
  congr 2;refine ZL ?_;unfold ZAn;simp only[Bool.false_eq_true,false_or,List.length_nil,List.length_cons];omega
 rw[if_neg h5]
 by_cases h6:p.op=6
 ·rw[if_pos h6]
  have e:ZH w t p=[t]:=by unfold ZH;rw[if_neg (by omega),if_neg (by omega),if_pos (by omega)]
  rw[e]
  refine⟨[t],?_,fun _=>rfl⟩
  split
  ·next hh=>
   simp only[Bool.false_eq_true,false_or,true_or,true_and]at hh
   congr 2;refine ZL ?_;unfold ZAn;simp only[List.length_nil,List.length_cons];omega
  ·next hh=>
   simp only[Bool.false_eq_true,false_or,true_or,true_and]at hh
   rw[ZF];unfold ZAn;simp only[List.length_nil,List.length_cons];omega
 rw[if_neg h6]
 have hn:¬ZAn w t p:=by unfold ZAn;omega
 exact⟨[],by rw[ZF fun h=>hn h.1],fun h=>absurd h hn⟩
def Zc (w:List Data):Nat->Ty->Pattern->Prop
 |0,_,_=>False
 |d+1,t,p=>ZAn w t p/\p.kids.length=(ZH w t p).length/\∀i,0<=i->i<(ZH w t p).length->∀(h:i<(ZH w t p).length) (h':i<p.kids.length),Zc w d (ZH w t p)[i] p.kids[i]
theorem P.YK (w:List Data)(hw:ZP w):∀(d:Nat) (t:Ty) (p:Pattern),ZZ w t->d<=10->F.f70 w t p d=some (dec (Zc w d t p))
 |0,t,p,ht,hd=>by rw[F.f70,if_pos (by omega),ZF (by simp[Zc])]
 |d+1,t,p,ht,hd=>by
  rw[F.f70,if_neg (by omega),P.YAa w hw t (ZBZ ht.1)]
  simp only[oE,oS]
  by_cases ho:ZAn w t p
  ·rw[if_pos (ZG ho),P.YJ w hw t (ZBZ ht.1) p ho]
   simp only[oS]
   have hts:=ZAm hw ht ho
   by_cases h4:p.kids.length=(ZH w t p).length
   ·rw[if_pos h4,ZIj (n:=(ZH w t p).length) (r:=false) (Q:=fun i=>∀(h:i<(ZH w t p).length) (h':i<p.kids.length),Zc w d (ZH w t p)[i] p.kids[i]) (L:=F.f71 w p ((d+1:Nat):Int) (ZH w t p))
     (fun k hk=>by rw[F.f71,if_neg (by omega)])
     (fun k hk hq=>by
      have hk':k<p.kids.length:=by omega
      rw[F.f71,if_pos hk,gQ hk,gQ hk']
      simp only[oE,oS]
      rw[ZE (by omega) (by omega),show((d+1:Nat):Int) -1=(d:Int)from by omega,P.YK w hw d _ _ (hts _ (gM hk)) (by omega)]
      simp only[oS]
      rw[if_pos (ZG (hq hk hk'))])
     (fun k hk hq=>by
      have hk':k<p.kids.length:=by omega
      rw[F.f71,if_pos hk,gQ hk,gQ hk']
      simp only[oE,oS]
      rw[ZE (by omega) (by omega),show((d+1:Nat):Int) -1=(d:Int)from by omega,P.YK w hw d _ _ (hts _ (gM hk)) (by omega)]
      simp only[oS]
      rw[if_neg (by rw[ZF fun h=>hq fun _ _=>h];simp)]) _ 0 rfl]
    simp only[oS]
    by_cases hall:∀i,0<=i->i<(ZH w t p).length->∀(h:i<(ZH w t p).length) (h':i<p.kids.length),Zc w d (ZH w t p)[i] p.kids[i]
    ·rw[if_pos (ZG hall),ZG ⟨ho,h4,hall⟩]
    ·rw[if_neg (by rw[ZF hall];simp),ZF fun h=>hall h.2.2]
   ·rw[if_neg h4,ZF fun h=>h4 h.2.1]
  ·rw[if_neg (by rw[ZF ho];simp),ZF fun h=>ho h.1]
theorem P.YAr (v:Pattern)(hv:v.wt<=1048576):∀(most:Nat),most<=60->∃c:Nat,F.f72 v most=some (c:Int)/\1<=c/\c<=1+v.wt/\(1+v.wt<=most->c=1+v.wt)/\(most<1+v.wt->most<c):=by
 induction v using Pattern.ind with
 |_ v ih=>
  intro most hm
  have hw:=v.wt_eq
  have key:∀(m i:Nat) (n:Nat),v.kids.length-i=m->1<=n->n+((v.kids.drop i).map fun k=>1+k.wt).sum<=1+v.wt->
    ∃c:Nat,F.f73 v most n i=some (c:Int)/\n<=c/\c<=n+((v.kids.drop i).map fun k=>1+k.wt).sum/\(n+((v.kids.drop i).map fun k=>1+k.wt).sum<=most->c=n+((v.kids.drop i).map fun k=>1+k.wt).sum)/\(most<n+((v.kids.drop i).map fun k=>1+k.wt).sum->most<c):=by
   intro m
   induction m with
   |zero=>
    intro i n hmi hn hb
    rw[F.f73,if_neg (by omega),List.drop_eq_nil_of_le (by omega)]
    exact⟨n,rfl,by omega,by simp,by simp,by simp⟩
   |succ m ih2=>
    intro i n hmi hn hb
    have hi:i<v.kids.length:=by omega
    rw[List.drop_eq_getElem_cons hi]at hb ⊢
    simp only[List.map_cons,List.sum_cons]at hb ⊢
    rw[F.f73,if_pos hi]
    by_cases hle:n<=most
    ·rw[if_pos (by omega),gQ hi]
     simp only[oE,oS]
     have hk:v.kids[i].wt<=1048576:=by omega
     obtain⟨c,h1,h2,h3,h4,h5⟩:=ih v.kids[i] (gM hi) hk (most-n) (by omega)
     rw[ZE (by omega) (by omega),show((most:Int) - (n:Int))=((most-n:Nat):Int)from by omega,h1]
     simp only[oS]
     rw[ZE (by omega) (by omega),show((n:Int)+(c:Int))=((n+c:Nat):Int)from by omega]
     obtain⟨c',g1,g2,g3,g4,g5⟩:=ih2 (i+1) (n+c) (by omega) (by omega) (by omega)
     refine⟨c',g1,by omega,by omega,fun h=> ?_,fun h=> ?_⟩
     ·have:=h4 (by omega)
      have:=g4 (by omega)
      omega
     ·by_cases hx:1+v.kids[i].wt<=most-n
      ·have:=h4 hx
       exact g5 (by omega)
      ·have:=h5 (by omega)
       omega
    ·rw[if_neg (by omega)]
     exact⟨n,rfl,by omega,by omega,fun h=>by omega,fun h=>by omega⟩
  have hs:((v.kids.drop 0).map fun k=>1+k.wt).sum=v.wt:=by
   rw[List.drop_zero,hw]
   have:∀l:List Pattern,(l.map fun k=>1+k.wt).sum=wtL Pattern.wt l:=by
    intro l
    induction l with
    |nil=>rfl
    |cons a r ih=>simp[ih]
   exact this _
  obtain⟨c,h1,h2,h3,h4,h5⟩:=key _ 0 1 rfl (by omega) (by omega)
  rw[hs]at h3 h4 h5
  unfold F.f72
  have h1':F.f73 v most 1 0=some (c:Int):=h1
  rw[h1']
  exact⟨c,rfl,by omega,h3,h4,h5⟩
theorem ZG6 (v:Pattern):v.wt=((v.kids.drop 0).map fun k=>1+k.wt).sum:=by
 rw[List.drop_zero,v.wt_eq]
 have:∀l:List Pattern,(l.map fun k=>1+k.wt).sum=wtL Pattern.wt l:=by
  intro l
  induction l with
  |nil=>rfl
  |cons a r ih=>simp[ih]
 exact(this _).symm
noncomputable def ZT (w:List Data):Nat->Ty->Pattern->List VarType
 |0,_,_=>[]
 |d+1,t,p=>(if p.op=2∨p.op=6 then[⟨p.var,t⟩]else[])++(((ZH w t p).zip p.kids).take (if p.op=5 then 1 else p.kids.length)).flatMap fun x=>ZT w d x.1 x.2
theorem ZFh {f:Ty×Pattern->List VarType}(hf:∀x,(f x).length<=1+x.2.wt):∀(ts:List Ty) (ks:List Pattern) (n:Nat),(((ts.zip ks).take n).flatMap f).length<=wtL Pattern.wt ks
 | [],ks,n=>by simp
 |t::ts,[],n=>by simp
 |t::ts,k::ks,0=>by simp
 |t::ts,k::ks,n+1=>by
  have h1:=ZFh hf ts ks n
  have h2:=hf (t,k)
  simp only[List.zip_cons_cons,List.take_succ_cons,List.flatMap_cons,List.length_append,ZAv]at h1 h2 ⊢
  omega
theorem ZBB (w:List Data):∀(d:Nat) (t:Ty) (p:Pattern),(ZT w d t p).length<=1+p.wt
 |0,t,p=>by simp[ZT]
 |d+1,t,p=>by
  have:=ZFh (f:=fun x=>ZT w d x.1 x.2) (fun x=>ZBB w d x.1 x.2) (ZH w t p) p.kids (if p.op=5 then 1 else p.kids.length)
  rw[ZT,List.length_append,p.wt_eq]
  have h1:(if p.op=2∨p.op=6 then[(⟨p.var,t⟩:VarType)]else[]).length<=1:=by split<;>simp
  omega
theorem ZC6 {w:List Data}{p:Pattern}{ts:List Ty}(hl:p.kids.length=ts.length)(h5:p.op≠5){f:Ty×Pattern->List VarType}{L:List VarType->Nat->Option (List VarType)}
  (hL:∀out i,L out i=if i<ts.length then(if i=0 then ts[i]? >>=fun x=>p.kids[i]? >>=fun y=>F.f74 out w x y>>=fun v=>L v (i+1)else(if p.op=5 then some out else ts[i]? >>=fun x=>p.kids[i]? >>=fun y=>F.f74 out w x y>>=fun v=>L v (i+1)))else some out)
  (hf:∀x:Ty×Pattern,(f x).length<=1+x.2.wt)
  (ih:∀i (h:i<ts.length) (h':i<p.kids.length) (out:List VarType),out.length+(1+p.kids[i].wt)<=67108864->F.f74 out w ts[i] p.kids[i]=some (out++f (ts[i],p.kids[i]))):
  ∀(m i:Nat) (out:List VarType),ts.length-i=m->out.length+((p.kids.drop i).map fun k=>1+k.wt).sum<=67108864->L out i=some (out++((ts.zip p.kids).drop i).flatMap f):=by
 intro m
 induction m with
 |zero=>
  intro i out hm hb
  rw[hL,if_neg (by omega),List.drop_eq_nil_of_le (by simp;omega)];simp
 |succ m ihm=>
  intro i out hm hb
  have hi:i<ts.length:=by omega
  have hi':i<p.kids.length:=by omega
  rw[List.drop_eq_getElem_cons hi']at hb
  simp only[List.map_cons,List.sum_cons]at hb
  have e:(ts[i]? >>=fun x=>p.kids[i]? >>=fun y=>F.f74 out w x y>>=fun v=>L v (i+1))=some (out++((ts.zip p.kids).drop i).flatMap f):=by
   rw[gQ hi,gQ hi']
   simp only[oE,oS]
   rw[ih i hi hi' out (by omega)]
   simp only[oS]
   have:=hf (ts[i],p.kids[i])
   simp only at this
   rw[ihm (i+1) _ (by omega) (by rw[List.length_append];omega),List.drop_eq_getElem_cons (l:=ts.zip p.kids) (i:=i) (by simp;omega)]
   simp
  rw[hL,if_pos hi,if_neg h5,e]
  split<;>rfl
theorem Zk {w:List Data}{t:Ty}{p:Pattern}(h:ZAn w t p)(h5:p.op=5):ZH w t p=[t,t]:=by unfold ZH;rw[if_neg (by omega),if_pos h5]
theorem P.YA (w:List Data)(hw:ZP w):∀(d:Nat) (t:Ty) (p:Pattern) (out:List VarType),ZZ w t->Zc w d t p->out.length+(1+p.wt)<=67108864->F.f74 out w t p=some (out++ZT w d t p)
 |0,t,p,out,ht,hs,hb=>hs.elim
 |d+1,t,p,out,ht,hs,hb=>by
  obtain⟨ho,hl,hk⟩:=hs
  have hts:=ZAm hw ht ho
  have hsum:=ZG6 p
  have ih:∀i (h:i<(ZH w t p).length) (h':i<p.kids.length) (out:List VarType),out.length+(1+p.kids[i].wt)<=67108864->F.f74 out w (ZH w t p)[i] p.kids[i]=some (out++(fun x:Ty×Pattern=>ZT w d x.1 x.2) ((ZH w t p)[i],p.kids[i])):=
   fun i h h' out hb=>P.YA w hw d _ _ out (hts _ (gM h)) (hk i (by omega) h h h') hb
  have hf:∀x:Ty×Pattern,((fun x:Ty×Pattern=>ZT w d x.1 x.2) x).length<=1+x.2.wt:=fun x=>ZBB w d x.1 x.2
  have full:∀n,p.kids.length<=n->((ZH w t p).zip p.kids).take n=(ZH w t p).zip p.kids:=fun n hn=>List.take_of_length_le (by simp;omega)
  rw[F.f74,P.YJ w hw t (ZBZ ht.1) p ho]
  simp only[oE,oS]
  by_cases h2:p.op=2
  ·rw[if_pos h2,if_pos (by omega),ZC6 (f:=fun x=>ZT w d x.1 x.2) (L:=F.f77 w p (ZH w t p)) hl (by omega) (fun out i=>by rw[F.f77]) hf ih _ 0 _ rfl (by simp at hsum ⊢;omega)]
   simp only[oS]
   rw[ZT,if_pos (.inl h2),if_neg (by omega),full _ (Nat.le_refl _)];simp
  ·rw[if_neg h2]
   by_cases h6:p.op=6
   ·rw[if_pos h6,if_pos (by omega),ZC6 (f:=fun x=>ZT w d x.1 x.2) (L:=F.f75 w p (ZH w t p)) hl (by omega) (fun out i=>by rw[F.f75]) hf ih _ 0 _ rfl (by simp at hsum ⊢;omega)]
    simp only[oS]
    rw[ZT,if_pos (.inr h6),if_neg (by omega),full _ (Nat.le_refl _)];simp
   ·rw[if_neg h6]
    by_cases h5:p.op=5
    ·have et:=Zk ho h5
     rw[et]at hl
     have h0:0<p.kids.length:=by rw[hl];simp
     have h0':0<(ZH w t p).length:=by rw[et];simp
     have hw0:1+p.kids[0].wt<=p.wt:=by
      rw[hsum,List.drop_zero]
      obtain⟨a,r,e⟩:=List.exists_cons_of_length_pos h0
      simp[e]
     have e0:=ih 0 h0' h0 out (by omega)
     rw[F.f76,if_pos h0',if_pos rfl,gQ h0',gQ h0]
     simp only[oE,oS]
     rw[e0]
     simp only[oS]
     rw[F.f76,if_pos (by rw[et];simp),if_neg (by omega),if_pos h5]
     simp only[oS]
     rw[ZT,if_neg (by omega),if_pos h5]
     have e1:((ZH w t p).zip p.kids).take 1=[((ZH w t p)[0],p.kids[0])]:=by
      obtain⟨a,r,e⟩:=List.exists_cons_of_length_pos h0
      obtain⟨b,r',e'⟩:=List.exists_cons_of_length_pos h0'
      simp[e,e']
     rw[e1];simp
    ·rw[ZC6 (f:=fun x=>ZT w d x.1 x.2) (L:=F.f76 w p (ZH w t p)) hl h5 (fun out i=>by rw[F.f76]) hf ih _ 0 _ rfl (by simp at hsum ⊢;omega)]
     simp only[oS]
     rw[ZT,if_neg (by omega),if_neg h5,full _ (Nat.le_refl _)];simp
def ZF4 (l:List VarType):Prop:=(l.map VarType.var).Nodup
def ZGF (a b:List VarType):Prop:=a.length=b.length/\∀x,x∈a->x∈b
theorem ZEj (l:List VarType):ZF4 l↔∀i j (hi:i<l.length) (hj:j<l.length),i<j->l[i].var≠l[j].var:=by
 unfold ZF4 List.Nodup
 rw[List.pairwise_map,List.pairwise_iff_getElem]
theorem ZEI {l:List VarType}{n:Int}(h:ZDp l n= -1):∀x,x∈l->x.var≠n:=by
 unfold ZDp at h
 cases hf:ZF5 (fun x:VarType=>x.var=n) 0 l with
 |none=>exact ZAq hf
 |some j=>rw[hf]at h;simp only at h;omega
theorem ZNQ {a b:VarType}(h:a.var=b.var)(h2:eq2 (a.type.data,a.type.index) (b.type.data,b.type.index)):a=b:=by
 obtain⟨v,d,i⟩:=a
 obtain⟨v',d',i'⟩:=b
 simp only[eq2]at h h2
 obtain⟨rfl,rfl⟩:=h2
 subst h;rfl
theorem P.Yc (l:List VarType):F.f82 l 0=some (if dec (ZF4 l)=true then .go ()else .ret false):=by
 rw[ZIj (n:=l.length) (r:=false) (Q:=fun j=>∀h:j<l.length,ZDp l l[j].var=(j:Int)) (L:=F.f82 l) (fun k hk=>by rw[F.f82,if_neg (by omega)])
  (fun k hk hq=>by
   rw[F.f82,if_pos hk,gQ hk]
   simp only[oE,oS,P.YD]
   rw[if_pos (hq hk)])
  (fun k hk hq=>by
   rw[F.f82,if_pos hk,gQ hk]
   simp only[oE,oS,P.YD]
   rw[if_neg fun h=>hq fun _=>h]) _ 0 rfl]
 congr 2
 rw[ZL]
 rw[ZEj]
 constructor
 ·intro h i j hi hj hij
  exact(ZEH l j hj).1 (h j (by omega) hj hj) i hi hij
 ·intro h j _ _ hj
  exact(ZEH l j hj).2 fun i hi hij=>h i j hi hj hij
theorem P.YAM (a b:List VarType)(hb:ZF4 b):F.f81 a b=some (dec (ZGF a b)):=by
 unfold F.f81
 have step:∀k (hk:k<a.length),F.f80 a b k=if dec (a[k]∈b)=true then F.f80 a b (k+1)else some (.ret false):=by
  intro k hk
  rw[F.f80,if_pos hk,gQ hk]
  simp only[oE,oS,P.YD]
  rcases ZBn b a[k].var with h|⟨j,hj,h1,h2,h3⟩
  ·rw[if_pos (by omega),if_neg]
   rw[ZF fun hm=>ZEI h _ hm rfl];simp
  ·rw[if_neg (by omega),h1,ZJ0,gQ hj]
   simp only[oS]
   by_cases he:eq2 (b[j].type.data,b[j].type.index) (a[k].type.data,a[k].type.index)
   ·rw[if_pos (ZG he),if_pos (ZG (by rw[←ZNQ h2 he];exact gM hj))]
   ·rw[if_neg (by rw[ZF he];simp),if_neg]
    rw[ZF fun hm=> ?_];· simp
    obtain⟨i,hi,e⟩:=List.getElem_of_mem hm
    have hij:i=j:=by
     rw[ZEj]at hb
     rcases Nat.lt_trichotomy i j with hlt|heq|hlt
     ·exact absurd (by rw[e,h2]) (hb i j hi hj hlt)
     ·exact heq
     ·exact absurd (by rw[e,h2]) (hb j i hj hi hlt)
    subst hij
    exact he (by rw[e];exact⟨rfl,rfl⟩)
 rw[ZIj (n:=a.length) (r:=false) (Q:=fun j=>∀h:j<a.length,a[j]∈b) (L:=F.f80 a b) (fun k hk=>by rw[F.f80,if_neg (by omega)])
  (fun k hk hq=>by rw[step k hk,if_pos (ZG (hq hk))])
  (fun k hk hq=>by rw[step k hk,if_neg (by rw[ZF fun h=>hq fun _=>h];simp)]) _ 0 rfl]
 simp only[oE,oS]
 by_cases h:∀j,0<=j->j<a.length->∀h:j<a.length,a[j]∈b
 ·rw[if_pos (ZG h),←ZAI]
  have hx:∀x,x∈a->x∈b:=fun x hx=>by obtain⟨j,hj,e⟩:=List.getElem_of_mem hx;rw[←e];exact h j (by omega) hj hj
  show some (dec (a.length=b.length))=some (dec (ZGF a b))
  congr 1;exact ZL ⟨fun hl=>⟨hl,hx⟩,fun hs=>hs.1⟩
 ·rw[if_neg (by rw[ZF h];simp),ZF fun hs=>h fun j _ hj _=>hs.2 _ (gM hj)]
theorem ZLe {a b:VarType}:eq3 (a.var,a.type.data,a.type.index) (b.var,b.type.data,b.type.index)↔a=b:=by
 obtain⟨v,d,i⟩:=a
 obtain⟨v',d',i'⟩:=b
 simp[eq3]
theorem P.YB (l:List VarType)(n:VarType):F.f126 l n=some (dec (n∈l)):=by
 unfold F.f126 F.f125
 rw[ZK0 (a:=l) (p:=fun x=>n=x) (L:=F.f124 l n) (fun k hk=>by rw[F.f124,if_neg (by omega)])
  (fun k hk hp=>by
   rw[F.f124,if_pos hk,gQ hk]
   simp only[oE,oS]
   rw[if_neg (by rw[ZF fun h=>hp (ZLe.1 h)];simp)])
  (fun k hk hp=>by
   rw[F.f124,if_pos hk,gQ hk]
   simp only[oE,oS]
   rw[if_pos (ZG (ZLe.2 hp))]) _ 0 rfl,List.drop_zero]
 cases h:ZF5 (fun x:VarType=>n=x) 0 l with
 |none=>
  simp only[oE,oS]
  rw[ZF fun hm=>ZAq h _ hm rfl];simp
 |some j=>
  obtain⟨_,h2,h3,_⟩:=ZAp h
  simp only[oE,oS]
  rw[ZG (by rw[h3];exact gM h2)];simp
theorem P.Yz (a b:List VarType):F.f131 a b=some (dec (ZGF a b)):=by
 unfold F.f131
 by_cases hl:a.length=b.length
 ·rw[if_pos hl]
  unfold F.f130 F.f129
  have one:∀q,F.f127 q b=some (!dec (q∈b)):=by
   intro q;unfold F.f127;rw[P.YB];rfl
  rw[ZK0 (a:=a) (p:=fun x=>¬x∈b) (L:=F.f128 a b) (fun k hk=>by rw[F.f128,if_neg (by omega)])
   (fun k hk hp=>by
    rw[F.f128,if_pos hk,gQ hk]
    simp only[oE,oS,one]
    rw[if_neg (by rw[ZG (Classical.byContradiction hp)];simp)])
   (fun k hk hp=>by
    rw[F.f128,if_pos hk,gQ hk]
    simp only[oE,oS,one]
    rw[if_pos (by rw[ZF hp];simp)]) _ 0 rfl,List.drop_zero]
  cases h:ZF5 (fun x:VarType=>¬x∈b) 0 a with
  |none=>
   simp only[oE,oS]
   rw[ZG ⟨hl,fun x hx=>Classical.byContradiction (ZAq h x hx)⟩];simp
  |some j=>
   obtain⟨_,h2,h3,_⟩:=ZAp h
   simp only[oE,oS]
   rw[ZF fun hs=>h3 (hs.2 _ (gM h2))];simp
 ·rw[if_neg hl,ZF fun h=>hl h.1]
def ZE2 (w:List Data):Nat->Ty->Pattern->Prop
 |0,_,_=>False
 |d+1,t,p=>(∀i,0<=i->i<(ZH w t p).length->∀(h:i<(ZH w t p).length) (h':i<p.kids.length),ZE2 w d (ZH w t p)[i] p.kids[i])/\
   if p.op=5 then(∀(h0:0<p.kids.length) (h1:1<p.kids.length),ZGF (ZT w d t p.kids[0]) (ZT w d t p.kids[1]))else ZF4 (ZT w (d+1) t p)
theorem ZC1 {w:List Data}{d:Nat}{t:Ty}{p:Pattern}(ho:ZAn w t p)(h5:p.op=5)(h0:0<p.kids.length):ZT w (d+1) t p=ZT w d t p.kids[0]:=by
 have et:=Zk ho h5
 rw[ZT,if_neg (by omega),if_pos h5,et]
 obtain⟨a,r,e⟩:=List.exists_cons_of_length_pos h0
 simp[e]
theorem ZBO {w:List Data}:∀{d:Nat} {t:Ty} {p:Pattern},Zc w d t p->ZE2 w d t p->ZF4 (ZT w d t p)
 |0,t,p,hs,hl=>hs.elim
 |d+1,t,p,hs,hl=>by
  obtain⟨ho,hlen,hk⟩:=hs
  obtain⟨h1,h2⟩:=hl
  by_cases h5:p.op=5
  ·have et:=Zk ho h5
   have h0:0<p.kids.length:=by rw[hlen,et];simp
   have h0':0<(ZH w t p).length:=by rw[et];simp
   rw[ZC1 ho h5 h0]
   have e0:(ZH w t p)[0]=t:=by simp[et]
   have a:=hk 0 (Nat.le_refl _) h0' h0' h0
   have b:=h1 0 (Nat.le_refl _) h0' h0' h0
   rw[e0]at a b
   exact ZBO a b
  ·rw[if_neg h5]at h2;exact h2
theorem P.YT (w:List Data)(hw:ZP w):∀(d:Nat) (t:Ty) (p:Pattern),ZZ w t->Zc w d t p->p.wt<=1048576->F.f83 w t p=some (dec (ZE2 w d t p))
 |0,t,p,ht,hs,hb=>hs.elim
 |d+1,t,p,ht,hs,hb=>by
  have hs':=hs
  obtain⟨ho,hl,hk⟩:=hs
  have hts:=ZAm hw ht ho
  have hsum:=p.wt_eq
  have hkw:∀k (h:k<p.kids.length),1+p.kids[k].wt<=p.wt:=fun k h=>by have:=ZAA Pattern.wt (gM h);omega
  have ih:∀k (h:k<(ZH w t p).length) (h':k<p.kids.length),F.f83 w (ZH w t p)[k] p.kids[k]=some (dec (ZE2 w d (ZH w t p)[k] p.kids[k])):=
   fun k h h'=>P.YT w hw d _ _ (hts _ (gM h)) (hk k (by omega) h h h') (by have:=hkw k h';omega)
  rw[F.f83,P.YJ w hw t (ZBZ ht.1) p ho]
  simp only[oE,oS]
  rw[ZIj (n:=(ZH w t p).length) (r:=false) (Q:=fun i=>∀(h:i<(ZH w t p).length) (h':i<p.kids.length),ZE2 w d (ZH w t p)[i] p.kids[i]) (L:=F.f84 w t p (ZH w t p))
   (fun k hk=>by rw[F.f84,if_neg (by omega)])
   (fun k hk hq=>by
    have hk':k<p.kids.length:=by omega
    rw[F.f84,if_pos hk,gQ hk,gQ hk']
    simp only[oE,oS]
    rw[ih k hk hk']
    simp only[oS]
    rw[if_pos (ZG (hq hk hk'))])
   (fun k hk hq=>by
    have hk':k<p.kids.length:=by omega
    rw[F.f84,if_pos hk,gQ hk,gQ hk']
    simp only[oE,oS]
    rw[ih k hk hk']
    simp only[oS]
    rw[if_neg (by rw[ZF fun h=>hq fun _ _=>h];simp)]) _ 0 rfl]
  simp only[oS]
  by_cases hall:∀i,0<=i->i<(ZH w t p).length->∀(h:i<(ZH w t p).length) (h':i<p.kids.length),ZE2 w d (ZH w t p)[i] p.kids[i]
  ·rw[if_pos (ZG hall)]
   simp only
   by_cases h5:p.op=5
   ·have et:=Zk ho h5
    have h0:0<p.kids.length:=by rw[hl,et];simp
    have h1:1<p.kids.length:=by rw[hl,et];simp
    have h0':0<(ZH w t p).length:=by rw[et];simp
    have h1':1<(ZH w t p).length:=by rw[et];simp
    have e0:(ZH w t p)[0]=t:=by simp[et]
    have e1:(ZH w t p)[1]=t:=by simp[et]
    have a0:=hk 0 (Nat.le_refl _) h0' h0' h0
    have a1:=hk 1 (by omega) h1' h1' h1
    have b1:=hall 1 (by omega) h1' h1' h1
    rw[e0]at a0
    rw[e1]at a1 b1
    rw[if_pos h5,gQ h0,gQ h1]
    simp only[oS]
    rw[P.YA w hw d t _ [] ht a0 (by have:=hkw 0 h0;simp;omega),P.YA w hw d t _ [] ht a1 (by have:=hkw 1 h1;simp;omega)]
    simp only[oS,List.nil_append]
    rw[P.YAM _ _ (ZBO a1 b1)]
    simp only[oS]
    congr 1
    refine ZL ⟨fun h=>⟨hall,?_⟩,fun h=> ?_⟩
    ·rw[if_pos h5];exact fun _ _=>h
    ·have:=h.2;rw[if_pos h5]at this;exact this h0 h1
   ·rw[if_neg h5,P.YA w hw (d+1) t p [] ht hs' (by simp;omega)]
    simp only[oS,List.nil_append]
    rw[P.Yc]
    simp only[oS]
    by_cases hn:ZF4 (ZT w (d+1) t p)
    ·rw[if_pos (ZG hn),ZG ⟨hall,by rw[if_neg h5];exact hn⟩]
    ·rw[if_neg (by rw[ZF hn];simp),ZF fun h=>hn (by have:=h.2;rwa[if_neg h5]at this)]
  ·rw[if_neg (by rw[ZF hall];simp),ZF fun h=>hall h.1]
theorem ZG5 {f:Ty×Pattern->List VarType}{x:VarType}:∀{ts:List Ty} {ks:List Pattern} {n:Nat},x∈(((ts.zip ks).take n).flatMap f)->∃i,∃(h:i<ts.length) (h':i<ks.length),x∈f (ts[i],ks[i])
 | [],ks,n,h=>by simp at h
 |t::ts,[],n,h=>by simp at h
 |t::ts,k::ks,0,h=>by simp at h
 |t::ts,k::ks,n+1,h=>by
  simp only[List.zip_cons_cons,List.take_succ_cons,List.flatMap_cons,List.mem_append]at h
  rcases h with h|h
  ·exact⟨0,by simp,by simp,by simpa using h⟩
  ·obtain⟨i,h1,h2,h3⟩:=ZG5 h
   exact⟨i+1,by simpa using h1,by simpa using h2,by simpa using h3⟩
theorem ZC2 {w:List Data}(hw:ZP w):∀{d:Nat} {t:Ty} {p:Pattern},ZZ w t->Zc w d t p->∀x,x∈ZT w d t p->0<=x.var/\x.var<=5/\ZZ w x.type
 |0,t,p,ht,hs=>hs.elim
 |d+1,t,p,ht,hs=>by
  obtain⟨ho,hl,hk⟩:=hs
  intro x hx
  rw[ZT,List.mem_append]at hx
  rcases hx with hx|hx
  ·split at hx
   ·next h=>
    simp at hx;subst hx
    unfold ZAn at ho
    refine⟨?_,?_,ht⟩<;>simp only<;>omega
   ·cases hx
  ·obtain⟨i,h,h',hm⟩:=ZG5 hx
   exact ZC2 hw (ZAm hw ht ho _ (gM h)) (hk i (by omega) h h h') x hm
theorem ZPV {R:Type}{vs:List VarType}{r:R}{M:(Nat->Bool)->Nat->Option (Lo R Unit)}(hv:∀x,x∈vs->0<=x.var/\x.var<=5)
  (hM:∀s i,M s i=if i<vs.length then vs[i]? >>=fun x=>if 0<=x.var/\x.var.toNat<6 then(if s x.var.toNat=true then some (.ret r)else M (ZHk s x.var.toNat true) (i+1))else none else some (.go ())):
  ∀(m i:Nat) (s:Nat->Bool),vs.length-i=m->M s i=some (if dec (ZF4 (vs.drop i)/\∀x,x∈vs.drop i->s x.var.toNat=false)=true then .go ()else .ret r):=by
 intro m
 induction m with
 |zero=>
  intro i s hm
  rw[hM,if_neg (by omega),List.drop_eq_nil_of_le (by omega),if_pos (ZG ⟨by simp[ZF4],by simp⟩)]
 |succ m ih=>
  intro i s hm
  have hi:i<vs.length:=by omega
  have hr:=hv _ (gM hi)
  rw[hM,if_pos hi,gQ hi]
  simp only[oE,oS]
  rw[if_pos (by omega),List.drop_eq_getElem_cons hi]
  by_cases h:s vs[i].var.toNat=true
  ·rw[if_pos h,if_neg]
   rw[ZF fun hh=> ?_];· simp
   have:=hh.2 vs[i] (List.mem_cons_self ..)
   rw[h]at this;cases this
  ·rw[if_neg h,ih (i+1) _ (by omega)]
   congr 2
   rw[ZL]
   have hs:s vs[i].var.toNat=false:=by simpa using h
   constructor
   ·rintro⟨h1,h2⟩
    refine⟨?_,fun x hx=> ?_⟩
    ·unfold ZF4 at h1 ⊢
     rw[List.map_cons,List.nodup_cons]
     refine⟨fun hm=> ?_,h1⟩
     obtain⟨y,hy,e⟩:=List.mem_map.1 hm
     have:=h2 y hy
     rw[e]at this
     simp[ZHk]at this
    ·rcases List.mem_cons.1 hx with rfl|hx
     ·exact hs
     ·have:=h2 x hx
      unfold ZHk at this
      split at this
      ·cases this
      ·exact this
   ·rintro⟨h1,h2⟩
    unfold ZF4 at h1 ⊢
    rw[List.map_cons,List.nodup_cons]at h1
    refine⟨h1.2,fun x hx=> ?_⟩
    unfold ZHk
    have hx':=hv x (List.mem_of_mem_drop hx)
    rw[if_neg fun e=>h1.1 (List.mem_map.2 ⟨x,hx,by omega⟩)]
    exact h2 x (List.mem_cons_of_mem _ hx)
abbrev ZOk (w:List Data)(d:Nat)(ts:List Ty)(ks:List Pattern)(i:Nat):Prop:=∀j,i<=j->j<ts.length->∀(h:j<ts.length) (h':j<ks.length),Zc w d ts[j] ks[j]/\ZE2 w d ts[j] ks[j]
def ZB6 (w:List Data)(d:Nat)(t:Ty)(p:Pattern)(count:Nat)(vs:List VarType)(b:Bool)(c:Nat):Prop:=
 (b=true↔Zc w d t p/\ZE2 w d t p/\count+(1+p.wt)<=60)/\(b=true->c=count+(1+p.wt)/\vs=ZT w d t p)
theorem P.YAq (w:List Data)(d:Nat)(hd:d+1<=10)(p:Pattern)(hp:p.wt<=1048576)(ts:List Ty)(hl:ts.length=p.kids.length)(hts:∀a,a∈ts->ZZ w a)(h5:p.op≠5)
  (L:Int->List VarType->Nat->Option (Lo ((List VarType)×Bool×Int) (Int×(List VarType))))
  (hL:∀z vars i,L z vars i=if i<p.kids.length then p.kids[i]? >>=fun x=>ts[i]? >>=fun y=>F.f135 w y x (i64.wrap (((11- (d+1):Nat):Int)+1)) z>>=fun r=>if r.2.1=true then(if p.op=5 then(if i=1 then F.f131 vars r.1>>=fun b=>if b=true then L r.2.2 vars (i+1)else some (.ret ([],false,r.2.2))else(if vars.length+r.1.length<=67108864 then L r.2.2 (vars++r.1) (i+1)else none))else(if vars.length+r.1.length<=67108864 then L r.2.2 (vars++r.1) (i+1)else none))else some (.ret ([],false,r.2.2))else some (.go (z,vars)))
  (ih:∀(t:Ty) (x:Pattern) (count:Nat),ZZ w t->x.wt<=1048576->count<=60->∃vs b c,F.f135 w t x ((11-d:Nat):Int) (count:Int)=some (vs,b,((c:Nat):Int))/\ZB6 w d t x count vs b c):
  ∀(m i z:Nat) (vars:List VarType),p.kids.length-i=m->z<=60->vars.length+((p.kids.drop i).map fun k=>1+k.wt).sum<=67108864->∃o,L z vars i=some o/\
   match o with
   | .ret (vs,b,c)=>b=false/\∃c':Nat,c=(c':Int)/\¬(ZOk w d ts p.kids i/\z+((p.kids.drop i).map fun k=>1+k.wt).sum<=60)
   | .go (c,vs)=>c=((z+((p.kids.drop i).map fun k=>1+k.wt).sum:Nat):Int)/\vs=vars++((ts.zip p.kids).drop i).flatMap (fun x=>ZT w d x.1 x.2)/\ZOk w d ts p.kids i/\z+((p.kids.drop i).map fun k=>1+k.wt).sum<=60:=by
 intro m
 induction m with
 |zero=>
  intro i z vars hm hz hb
  rw[hL,if_neg (by omega)]
  refine⟨_,rfl,?_⟩
  rw[List.drop_eq_nil_of_le (by omega),List.drop_eq_nil_of_le (by simp;omega)]
  exact⟨by simp,by simp,fun j h1 h2=>by omega,by simpa using hz⟩
 |succ m ihm=>
  intro i z vars hm hz hb
  have hi:i<p.kids.length:=by omega
  have hi':i<ts.length:=by omega
  have hkw:=ZAA Pattern.wt (gM hi)
  have hpw:=p.wt_eq
  rw[List.drop_eq_getElem_cons hi]at hb ⊢
  simp only[List.map_cons,List.sum_cons]at hb ⊢
  rw[hL,if_pos hi,gQ hi,gQ hi']
  simp only[oE,oS]
  rw[ZE (by omega) (by omega),show(((11- (d+1):Nat):Int)+1)=((11-d:Nat):Int)from by omega]
  obtain⟨vs,b,c,h1,h2,h3⟩:=ih ts[i] p.kids[i] z (hts _ (gM hi')) (by omega) hz
  rw[h1]
  simp only[oS]
  cases b with
  |true=>
   rw[if_pos rfl,if_neg h5]
   obtain⟨hc,hv⟩:=h3 rfl
   obtain⟨hp1,hp2,hle⟩:=h2.1 rfl
   have hvl:=ZBB w d ts[i] p.kids[i]
   rw[←hv]at hvl
   rw[if_pos (by omega)]
   obtain⟨o,g1,g2⟩:=ihm (i+1) c (vars++vs) (by omega) (by omega) (by rw[List.length_append];omega)
   refine⟨o,g1,?_⟩
   cases o with
   |ret r=>
    obtain⟨vs',b',c'⟩:=r
    obtain⟨q1,c2,q2,q3⟩:=g2
    exact⟨q1,c2,q2,fun hh=>q3 ⟨fun j a b e f=>hh.1 j (by omega) b e f,by omega⟩⟩
   |go r=>
    obtain⟨c2,vs2⟩:=r
    obtain⟨q1,q2,q3,q4⟩:=g2
    refine⟨by rw[q1];congr 1;omega,?_,fun j a b e f=> ?_,by omega⟩
    ·rw[q2,List.drop_eq_getElem_cons (l:=ts.zip p.kids) (i:=i) (by simp;omega),hv];simp
    ·by_cases hj:i=j
     ·subst hj;exact⟨hp1,hp2⟩
     ·exact q3 j (by omega) b e f
  |false=>
   rw[if_neg (by simp)]
   refine⟨_,rfl,rfl,c,rfl,fun hh=> ?_⟩
   have hk:=hh.1 i (Nat.le_refl _) hi' hi' hi
   have:=h2.2 ⟨hk.1,hk.2,by omega⟩
   cases this
theorem P.Ye (w:List Data)(hw:ZP w):∀(d:Nat) (t:Ty) (p:Pattern) (count:Nat),d<=10->ZZ w t->p.wt<=1048576->count<=60->
  ∃vs b c,F.f135 w t p ((11-d:Nat):Int) (count:Int)=some (vs,b,((c:Nat):Int))/\ZB6 w d t p count vs b c
 |d,t,p,count,hd,ht,hp,hc=>by
  have e1:i64.wrap ((count:Int)+1)=((count+1:Nat):Int):=by rw[ZE (by omega) (by omega)];omega
  have no:∀(h:¬(Zc w d t p/\ZE2 w d t p/\count+(1+p.wt)<=60)) (c:Nat),∃vs b c',(some (([]:List VarType),false,(c:Int)):Option (List VarType×Bool×Int))=some (vs,b,((c':Nat):Int))/\ZB6 w d t p count vs b c':=
   fun h c=>⟨[],false,c,rfl,⟨fun h=>(by cases h),fun hh=>absurd hh h⟩,fun h=>by cases h⟩
  rw[F.f135,e1]
  by_cases h60:60<((count+1:Nat):Int)
  ·rw[if_pos h60];exact no (fun h=>by omega) _
  rw[if_neg h60]
  match d,hd with
  |0,_=>
   rw[if_pos (by omega)]
   exact no (fun h=>h.1.elim) _
  |d+1,hd=>
   rw[if_neg (by omega)]
   obtain⟨ts,h1,h2⟩:=P.YAe w hw t (ZBZ ht.1) p
   rw[h1]
   simp only[oE,oS]
   by_cases hs:ZAn w t p/\p.kids.length=(ZH w t p).length
   ·rw[if_pos (ZG hs)]
    obtain⟨ho,hl⟩:=hs
    obtain rfl:=h2 ho
    have hts:=ZAm hw ht ho
    have hwt:=ZG6 p
    have ihx:∀(t:Ty) (x:Pattern) (count:Nat),ZZ w t->x.wt<=1048576->count<=60->∃vs b c,F.f135 w t x ((11-d:Nat):Int) (count:Int)=some (vs,b,((c:Nat):Int))/\ZB6 w d t x count vs b c:=
     fun t x c ht hx hc=>P.Ye w hw d t x c (by omega) ht hx hc
    have shape_of:∀{i:Nat},ZOk w d (ZH w t p) p.kids 0->Zc w (d+1) t p:=fun h=>⟨ho,hl,fun i _ hi h1 h2=>(h i (by omega) hi h1 h2).1⟩
    by_cases h5:p.op=5
    ·rw[if_neg (by omega),if_neg (by omega)]
     have et:=Zk ho h5
     have h0:0<p.kids.length:=by rw[hl,et];simp
     have h1':1<p.kids.length:=by rw[hl,et];simp
     have hl2:p.kids.length=2:=by rw[hl,et];rfl
     have e0:(ZH w t p)[0]? =some t:=by rw[et];rfl
     have e1:(ZH w t p)[1]? =some t:=by rw[et];rfl
     have hsum:p.wt=(1+p.kids[0].wt)+(1+p.kids[1].wt):=by
      have e:p.kids=[p.kids[0],p.kids[1]]:=List.ext_getElem (by simp[hl2]) (fun i h1 h2=>by
       have:i=0∨i=1:=by omega
       rcases this with rfl|rfl<;>rfl)
      rw[hwt,List.drop_zero]
      conv=>lhs;rw[e]
      simp
     have ed:i64.wrap (((11- (d+1):Nat):Int)+1)=((11-d:Nat):Int):=by rw[ZE (by omega) (by omega)];omega
     obtain⟨v0,b0,c0,a1,a2,a3⟩:=ihx t p.kids[0] (count+1) ht (by omega) (by omega)
     have kid0:Zc w (d+1) t p->ZE2 w (d+1) t p->(Zc w d t p.kids[0]/\ZE2 w d t p.kids[0])/\(Zc w d t p.kids[1]/\ZE2 w d t p.kids[1])/\ZGF (ZT w d t p.kids[0]) (ZT w d t p.kids[1]):=by
      rintro⟨_,_,hk⟩ ⟨q1,q2⟩
      rw[if_pos h5]at q2
      have x0':0<(ZH w t p).length:=by rw[et];simp
      have x1':1<(ZH w t p).length:=by rw[et];simp
      have y0:(ZH w t p)[0]=t:=by simp[et]
      have y1:(ZH w t p)[1]=t:=by simp[et]
      have k0:=hk 0 (Nat.le_refl _) x0' x0' h0
      have k1:=hk 1 (by omega) x1' x1' h1'
      have l0:=q1 0 (Nat.le_refl _) x0' x0' h0
      have l1:=q1 1 (by omega) x1' x1' h1'
      rw[y0]at k0 l0
      rw[y1]at k1 l1
      exact⟨⟨k0,l0⟩,⟨k1,l1⟩,q2 h0 h1'⟩
     rw[F.f137,if_pos h0,gQ h0,e0]
     simp only[oE,oS]
     rw[ed,a1]
     simp only[oS]
     cases b0 with
     |false=>
      rw[if_neg (by simp)]
      simp only[oS]
      exact no (fun h=>by
       have:=a2.2 ⟨(kid0 h.1 h.2.1).1.1,(kid0 h.1 h.2.1).1.2,by omega⟩
       cases this) _
     |true=>
      obtain⟨hc0,rfl⟩:=a3 rfl
      obtain⟨s0,l0,z0⟩:=a2.1 rfl
      have hv0:=ZBB w d t p.kids[0]
      rw[if_pos rfl,if_pos h5,if_neg (by omega),if_pos (by simp;omega),F.f137,if_pos h1',gQ h1',e1]
      simp only[oE,oS]
      obtain⟨v1,b1,c1,g1,g2,g3⟩:=ihx t p.kids[1] c0 ht (by omega) (by omega)
      rw[ed,g1]
      simp only[oS]
      cases b1 with
      |false=>
       rw[if_neg (by simp)]
       simp only[oS]
       exact no (fun h=>by
        have:=g2.2 ⟨(kid0 h.1 h.2.1).2.1.1,(kid0 h.1 h.2.1).2.1.2,by omega⟩
        cases this) _
      |true=>
       obtain⟨hc1,rfl⟩:=g3 rfl
       obtain⟨s1,l1,z1⟩:=g2.1 rfl
       rw[if_pos rfl,if_pos h5,if_pos trivial,P.Yz]
       simp only[oS,List.nil_append]
       by_cases hsv:ZGF (ZT w d t p.kids[0]) (ZT w d t p.kids[1])
       ·rw[if_pos (ZG hsv),F.f137,if_neg (by omega)]
        simp only[oS]
        have kk:∀i,0<=i->i<(ZH w t p).length->∀(h:i<(ZH w t p).length) (h':i<p.kids.length),Zc w d (ZH w t p)[i] p.kids[i]/\ZE2 w d (ZH w t p)[i] p.kids[i]:=by
         intro i _ _ h h'
         have ei:(ZH w t p)[i]=t:=by
          have:i=0∨i=1:=by omega
          rcases this with rfl|rfl<;>simp[et]
         rw[ei]
         have:i=0∨i=1:=by omega
         rcases this with rfl|rfl
         ·exact⟨s0,l0⟩
         ·exact⟨s1,l1⟩
        have sh:Zc w (d+1) t p:=⟨ho,hl,fun i a b c e=>(kk i a b c e).1⟩
        have li:ZE2 w (d+1) t p:=⟨fun i a b c e=>(kk i a b c e).2,by rw[if_pos h5];exact fun _ _=>hsv⟩
        have hnd:=ZBO sh li
        have hvk:=ZC2 hw ht sh
        rw[ZC1 ho h5 h0]at hnd hvk
        rw[ZPV (vs:=ZT w d t p.kids[0]) (M:=F.f133 ((c1:Int),ZT w d t p.kids[0])) (r:=([],false,(c1:Int))) (fun x hx=>⟨(hvk x hx).1,(hvk x hx).2.1⟩) (fun s i=>by rw[F.f133]) _ 0 _ rfl,List.drop_zero,if_pos (ZG ⟨hnd,fun _ _=>rfl⟩)]
        exact⟨_,true,c1,rfl,⟨fun _=>⟨sh,li,by omega⟩,fun _=>rfl⟩,fun _=>⟨by omega,(ZC1 ho h5 h0).symm⟩⟩
       ·rw[if_neg (by rw[ZF hsv];simp)]
        simp only[oS]
        exact no (fun h=>hsv (kid0 h.1 h.2.1).2.2) _
    ·have kidx:Zc w (d+1) t p->ZE2 w (d+1) t p->ZOk w d (ZH w t p) p.kids 0:=fun a b i hi hlt h h'=>⟨a.2.2 i hi hlt h h',b.1 i hi hlt h h'⟩
     have fin:∀(v00:List VarType) (hv00:v00.length<=1) (hv:v00=if p.op=2∨p.op=6 then[(⟨p.var,t⟩:VarType)]else[])
       (L:Int->List VarType->Nat->Option (Lo ((List VarType)×Bool×Int) (Int×(List VarType))))
       (hL:∀z vars i,L z vars i=if i<p.kids.length then p.kids[i]? >>=fun x=>(ZH w t p)[i]? >>=fun y=>F.f135 w y x (i64.wrap (((11- (d+1):Nat):Int)+1)) z>>=fun r=>if r.2.1=true then(if p.op=5 then(if i=1 then F.f131 vars r.1>>=fun b=>if b=true then L r.2.2 vars (i+1)else some (.ret ([],false,r.2.2))else(if vars.length+r.1.length<=67108864 then L r.2.2 (vars++r.1) (i+1)else none))else(if vars.length+r.1.length<=67108864 then L r.2.2 (vars++r.1) (i+1)else none))else some (.ret ([],false,r.2.2))else some (.go (z,vars)))
       (M:Int×List VarType->(Nat->Bool)->Nat->Option (Lo ((List VarType)×Bool×Int) Unit))
       (hM:∀q s i,M q s i=if i<q.2.length then q.2[i]? >>=fun x=>if 0<=x.var/\x.var.toNat<6 then(if s x.var.toNat=true then some (.ret ([],false,q.1))else M q (ZHk s x.var.toNat true) (i+1))else none else some (.go ())),
       ∃vs b c,((L ((count+1:Nat):Int) v00 0).bind fun o=>match o with
        | .ret r0=>some r0
        | .go s=>(M s (fun _=>false) 0).bind fun o=>match o with
         | .ret r0=>some r0
         | .go _=>some (s.2,true,s.1))=some (vs,b,((c:Nat):Int))/\ZB6 w (d+1) t p count vs b c:=by
      intro v00 hv00 hv L hL M hM
      obtain⟨o,g1,g2⟩:=P.YAq w d hd p hp (ZH w t p) hl.symm hts h5 L hL ihx _ 0 (count+1) v00 rfl (by omega) (by rw[←hwt];omega)
      rw[g1]
      simp only[oS]
      rw[←hwt]at g2
      cases o with
      |ret r=>
       obtain⟨vs,b,c⟩:=r
       obtain⟨rfl,c',rfl,q3⟩:=g2
       exact⟨vs,false,c',rfl,⟨fun h=>(by cases h),fun hh=>absurd ⟨kidx hh.1 hh.2.1,by have:=hh.2.2;omega⟩ q3⟩,fun h=>by cases h⟩
      |go s=>
       obtain⟨c,vs⟩:=s
       obtain⟨rfl,q2,q3,q4⟩:=g2
       have hvs:vs=ZT w (d+1) t p:=by
        rw[q2,ZT,hv,if_neg h5,List.take_of_length_le (by simp;omega)];simp
       have sh:Zc w (d+1) t p:=⟨ho,hl,fun i a b c e=>(q3 i a b c e).1⟩
       have hvk:=ZC2 hw ht sh
       rw[←hvs]at hvk
       dsimp only
       rw[ZPV (vs:=vs) (M:=M (((count+1+p.wt:Nat):Int),vs)) (r:=([],false,((count+1+p.wt:Nat):Int))) (fun x hx=>⟨(hvk x hx).1,(hvk x hx).2.1⟩) (fun s i=>by rw[hM]) _ 0 _ rfl,List.drop_zero]
       simp only[oS]
       by_cases hn:ZF4 vs
       ·rw[if_pos (ZG ⟨hn,fun _ _=>by first|rfl|trivial⟩)]
        exact⟨vs,true,count+1+p.wt,rfl,⟨fun _=>⟨sh,⟨fun i a b c e=>(q3 i a b c e).2,by rw[if_neg h5,←hvs];exact hn⟩,by omega⟩,fun _=>rfl⟩,fun _=>⟨by omega,hvs⟩⟩
       ·rw[if_neg (by rw[ZF fun h=>hn h.1];simp)]
        exact no (fun h=>hn (by have:=h.2.1.2;rw[if_neg h5,←hvs]at this;exact this)) _
     by_cases h2:p.op=2
     ·rw[if_pos h2]
      exact fin [⟨p.var,t⟩] (by simp) (by rw[if_pos (.inl h2)]) (F.f138 w p ((11- (d+1):Nat):Int) (ZH w t p,dec (ZAn w t p/\p.kids.length=(ZH w t p).length))) (fun z vars i=>by rw[F.f138]) F.f134 (fun q s i=>by rw[F.f134])
     ·rw[if_neg h2]
      by_cases h6:p.op=6
      ·rw[if_pos h6]
       exact fin [⟨p.var,t⟩] (by simp) (by rw[if_pos (.inr h6)]) (F.f136 w p ((11- (d+1):Nat):Int) (ZH w t p,dec (ZAn w t p/\p.kids.length=(ZH w t p).length))) (fun z vars i=>by rw[F.f136]) F.f132 (fun q s i=>by rw[F.f132])
      ·rw[if_neg h6]
       exact fin [] (by simp) (by rw[if_neg (by omega)]) (F.f137 w p ((11- (d+1):Nat):Int) (ZH w t p,dec (ZAn w t p/\p.kids.length=(ZH w t p).length))) (fun z vars i=>by rw[F.f137]) F.f133 (fun q s i=>by rw[F.f133])
   ·rw[if_neg (by rw[ZF hs];simp)]
    exact no (fun h=>hs ⟨h.1.1,h.1.2.1⟩) _
termination_by d=>d
def ZAl (w:List Data)(t:Ty)(p:Pattern):Prop:=Zc w 10 t p/\ZE2 w 10 t p/\1+p.wt<=60
theorem P.YAG (w:List Data)(hw:ZP w)(t:Ty)(ht:ZZ w t)(p:Pattern)(hp:p.wt<=1048576):F.f85 w t p=some (dec (ZAl w t p)):=by
 unfold F.f85
 have e10:F.f70 w t p 10=some (dec (Zc w 10 t p)):=P.YK w hw 10 t p ht (by omega)
 rw[e10]
 simp only[oE,oS]
 by_cases h1:Zc w 10 t p
 ·rw[if_pos (ZG h1)]
  obtain⟨c,g1,g2,g3,g4,g5⟩:=P.YAr p hp 60 (by omega)
  have g1':F.f72 p 60=some (c:Int):=g1
  rw[g1']
  simp only[oS]
  by_cases hc:1+p.wt<=60
  ·rw[if_pos (by have:=g4 hc;omega),P.YT w hw 10 t p ht h1 hp]
   simp only[oS]
   congr 1;exact ZL ⟨fun h=>⟨h1,h,hc⟩,fun h=>h.2.1⟩
  ·rw[if_neg (by have:=g5 (by omega);omega),ZF fun h=>hc h.2.2]
 ·rw[if_neg (by rw[ZF h1];simp),ZF fun h=>h1 h.1]
theorem P.YI (w:List Data)(hw:ZP w)(t:Ty)(ht:ZZ w t)(p:Pattern)(hp:p.wt<=1048576):∃vs,F.f139 w t p=some (vs,dec (ZAl w t p))/\(ZAl w t p->vs=ZT w 10 t p):=by
 unfold F.f139
 obtain⟨vs,b,c,g1,g2,g3⟩:=P.Ye w hw 10 t p 0 (by omega) ht hp (by omega)
 have g1':F.f135 w t p 1 0=some (vs,b,(c:Int)):=g1
 rw[g1']
 simp only[oE,oS]
 have hb:b=dec (ZAl w t p):=by
  cases b with
  |true=>rw[ZG];obtain⟨a,b,c⟩:=g2.1 rfl;exact⟨a,b,by omega⟩
  |false=>rw[ZF];intro h;have:=g2.2 ⟨h.1,h.2.1,by have:=h.2.2;omega⟩;cases this
 subst hb
 exact⟨vs,rfl,fun h=>(g3 (ZG h)).2⟩
def gOk (g:Guard)(vs:List VarType):Prop:=(g.op=0/\g.var=0/\g.n=0)∨((g.op=1∨g.op=2)/\0<=g.n/\g.n<=9/\(⟨g.var,⟨-1,0⟩⟩:VarType)∈vs)
theorem P.YAO (g:Guard)(vs:List VarType):F.f140 g vs=some (dec (gOk g vs)):=by
 unfold F.f140
 simp only[P.YF,P.YB,oE,oS]
 by_cases h0:g.op=0
 ·rw[if_pos h0];congr 1;refine ZL ?_;unfold gOk eq3;simp only;omega
 ·rw[if_neg h0]
  by_cases h1:1<=g.op/\g.op<=2
  ·rw[if_pos (ZG h1)]
   by_cases h2:0<=g.n/\g.n<=9
   ·rw[if_pos (ZG h2)];congr 1
    refine ZL ⟨fun h=>.inr ⟨by omega,h2.1,h2.2,h⟩,fun h=> ?_⟩
    rcases h with h|h
    ·omega
    ·exact h.2.2.2
   ·rw[if_neg (by rw[ZF h2];simp),ZF]
    rintro(h|h)
    ·omega
    ·exact h2 ⟨h.2.1,h.2.2.1⟩
  ·rw[if_neg (by rw[ZF h1];simp),ZF]
   rintro(h|h)
   ·omega
   ·omega
theorem P.YAL (w:List Data)(g:Guard)(vs:List VarType)(hn:ZF4 vs)(ht:∀x,x∈vs->ZZ w x.type):F.f172 g vs=some (dec (gOk g vs)):=by
 unfold F.f172
 have key:g.op=1∨g.op=2->(if g.n<0 then some false else if 9<g.n then some false else(F.f79 vs g.var)>>=fun v21=>if 0<=v21 then(at? vs v21)>>=fun x25=>some (decide (x25.type.data=(-1)))else some false)=some (dec (gOk g vs)):=by
  intro hop
  by_cases a1:g.n<0
  ·rw[if_pos a1,ZF];rintro(h|h)<;>omega
  rw[if_neg a1]
  by_cases a2:9<g.n
  ·rw[if_pos a2,ZF];rintro(h|h)<;>omega
  rw[if_neg a2,P.YD]
  simp only[oE,oS]
  rcases ZBn vs g.var with h|⟨j,hj,h1,h2,h3⟩
  ·rw[if_neg (by omega),ZF]
   rintro(h'|h')
   ·omega
   ·exact ZEI h _ h'.2.2.2 rfl
  ·rw[if_pos (by omega),h1,ZJ0,gQ hj]
   simp only[oS]
   rw[←ZAI];congr 1
   refine ZL ⟨fun h=>.inr ⟨hop,by omega,by omega,?_⟩,fun h=> ?_⟩
   ·have hty:=ht _ (gM hj)
    have hi:vs[j].type.index=0:=by unfold ZZ ZBW at hty;omega
    have:(⟨g.var,⟨-1,0⟩⟩:VarType)=vs[j]:=ZNQ (by simp[h2]) ⟨by simp[h],by simp[hi]⟩
    rw[this];exact gM hj
   ·rcases h with h|h
    ·omega
    ·obtain⟨i,hi,e⟩:=List.getElem_of_mem h.2.2.2
     have hij:i=j:=by
      rw[ZEj]at hn
      rcases Nat.lt_trichotomy i j with hlt|heq|hlt
      ·exact absurd (by rw[e,h2]) (hn i j hi hj hlt)
      ·exact heq
      ·exact absurd (by rw[e,h2]) (hn j i hj hi hlt)
     subst hij
     rw[e]
 by_cases h0:g.op=0
 ·rw[if_pos h0]
  by_cases h1:g.var=0
  ·rw[if_pos h1,←ZAI];congr 1;refine ZL ⟨fun h=>.inl ⟨h0,h1,h⟩,fun h=> ?_⟩
   rcases h with h|h
   ·exact h.2.2
   ·omega
  ·rw[if_neg h1,ZF];rintro(h|h)<;>omega
 ·rw[if_neg h0]
  by_cases h1:g.op=1
  ·rw[if_pos h1];exact key (.inl h1)
  ·rw[if_neg h1]
   by_cases h2:g.op=2
   ·rw[if_pos h2];exact key (.inr h2)
   ·rw[if_neg h2,ZF];rintro(h|h)<;>omega
def ZJs (w:List Data)(t:Ty)(c:Clause):Prop:=ZAl w t c.pat/\gOk c.guard (ZT w 10 t c.pat)
theorem P.YAo (w:List Data)(hw:ZP w)(t:Ty)(ht:ZZ w t)(c:Clause)(hp:c.pat.wt<=1048576):F.f173 w t c=some (dec (ZJs w t c)):=by
 unfold F.f173
 rw[P.YAG w hw t ht _ hp]
 simp only[oE,oS]
 by_cases h:ZAl w t c.pat
 ·rw[if_pos (ZG h),P.YA w hw 10 t c.pat [] ht h.1 (by simp;omega)]
  simp only[oS,List.nil_append]
  rw[P.YAL w _ _ (ZBO h.1 h.2.1) (fun x hx=>(ZC2 hw ht h.1 x hx).2.2)]
  simp only[oS]
  congr 1;exact ZL ⟨fun g=>⟨h,g⟩,fun g=>g.2⟩
 ·rw[if_neg (by rw[ZF h];simp),ZF fun g=>h g.1]
theorem P.YAC (w:List Data)(hw:ZP w)(t:Ty)(ht:ZZ w t)(c:Clause)(hp:c.pat.wt<=1048576):F.f141 w t c=some (dec (ZJs w t c)):=by
 unfold F.f141
 obtain⟨vs,h1,h2⟩:=P.YI w hw t ht c.pat hp
 rw[h1]
 simp only[oE,oS]
 by_cases h:ZAl w t c.pat
 ·rw[if_pos (ZG h),P.YAO,h2 h]
  simp only[oS]
  congr 1;exact ZL ⟨fun g=>⟨h,g⟩,fun g=>g.2⟩
 ·rw[if_neg (by rw[ZF h];simp),ZF fun g=>h g.1]
def ZPX (v:Int):Nat->Pattern->Prop
 |0,_=>False
 |d+1,p=>(∃i,∃h:i<p.kids.length,ZPX v d p.kids[i])∨((p.op=2∨p.op=6)/\p.var=v)
theorem ZBY (a b c d e:Int):(⟨a,b,c,d,e,[]⟩:Pattern).wt=0:=by rw[Pattern.wt_eq];rfl
theorem ZNO (a b c d e:Int)(k:Pattern):(⟨a,b,c,d,e,[k]⟩:Pattern).wt=1+k.wt:=by rw[Pattern.wt_eq];simp
theorem ZNN (a b c d e:Int)(k l:Pattern):(⟨a,b,c,d,e,[k,l]⟩:Pattern).wt=2+k.wt+l.wt:=by rw[Pattern.wt_eq];simp;omega
theorem ZIk {α:Type}(f:α->Nat):∀(l:List α) (i:Nat) (h:i<l.length) (x:α),wtL f (l.set i x)+f l[i]=wtL f l+f x
 |a::l,0,h,x=>by simp;omega
 |a::l,i+1,h,x=>by
  have:=ZIk f l i (by simpa using h) x
  simp;omega
theorem P.Yg (p:Pattern)(hp:p.wt<=67108864):F.f202 p=some p:=by
 induction p using Pattern.ind with
 |_ p ih=>
  have hw:=p.wt_eq
  rw[F.f202,ZEy (a:=p.kids) (g:=id) (f:=F.f202) (L:=F.f203 p) (fun out i=>by rw[F.f203]) (fun x hx=>ih x hx (by have:=ZAA Pattern.wt hx;omega)) _ 0 [] rfl (by have:=ZBg Pattern.wt p.kids;simp;omega)]
  simp
  cases p;rfl
theorem P.Ys (w:List Data)(hw:ZP w)(t:Ty)(ht:ZZ w t)(p:Pattern)(hp:p.wt<=1048576):F.f200 w t p=some (dec (ZAl w t p)):=by
 unfold F.f200
 obtain⟨vs,h1,_⟩:=P.YI w hw t ht p hp
 rw[h1];rfl
def hv (d:Nat)(p:Pattern):Prop:=∃v,ZPX v d p
theorem ZAz {α:Type}{l:List α}(h:l.length=2):l=[l[0]'(by omega),l[1]'(by omega)]:=by
 match l,h with
 | [x,y],_=>rfl
def ZOT (w:List Data)(t:Ty)(l:List Clause):Prop:=ZAN w t/\l.length<=8/\∀c,c∈l->ZJs w t c
theorem P.YZ (w:List Data)(hw:ZAH w)(t:Ty)(l:List Clause)(hp:∀c,c∈l->c.pat.wt<=1048576):F.f175 w t l=some (dec (ZOT w t l)):=by
 unfold F.f175
 rw[P.Ym w t hw]
 simp only[oE,oS]
 by_cases h1:ZAN w t
 ·rw[if_pos (ZG h1)]
  by_cases h2:8<l.length
  ·rw[if_pos h2,ZF fun h=>by have:=h.2.1;omega]
  ·rw[if_neg h2]
   have hl:∀k,k<=l.length->F.f174 w t l (l.length-k)=some (if dec (∀c,c∈l.drop (l.length-k)->ZJs w t c)=true then .go ()else .ret false):=by
    intro k
    induction k with
    |zero=>intro _;rw[F.f174,if_neg (by omega),if_pos (ZG fun c hc=>by simp at hc)]
    |succ k ih=>
     intro hk
     have hi:l.length- (k+1)<l.length:=by omega
     rw[F.f174,if_pos hi,gQ hi]
     simp only[oE,oS]
     rw[P.YAo w h1.1 t h1.2 _ (hp _ (gM hi))]
     simp only[oS]
     have e1:l.length- (k+1)+1=l.length-k:=by omega
     have e2:l.drop (l.length- (k+1))=l[l.length- (k+1)]::l.drop (l.length-k):=by rw[List.drop_eq_getElem_cons hi,e1]
     by_cases hc:ZJs w t l[l.length- (k+1)]
     ·rw[if_pos (ZG hc),e1,ih (by omega),e2]
      rw[ZL (q:=∀c,c∈l[l.length- (k+1)]::l.drop (l.length-k)->ZJs w t c) ⟨fun h c hc'=>by
       rcases List.mem_cons.1 hc' with rfl|hc'
       ·exact hc
       ·exact h c hc',fun h c hc'=>h c (List.mem_cons_of_mem _ hc')⟩]
     ·rw[if_neg (by rw[ZF hc];simp),e2,if_neg (by rw[ZF fun h=>hc (h _ (List.mem_cons_self ..))];simp)]
   have:=hl l.length (Nat.le_refl _)
   rw[Nat.sub_self,List.drop_zero]at this
   rw[this]
   simp only[oS]
   by_cases h3:∀c,c∈l->ZJs w t c
   ·rw[if_pos (ZG h3)];simp only;rw[ZG ⟨h1,by omega,h3⟩]
   ·rw[if_neg (by rw[ZF h3];simp)];simp only;rw[ZF fun h=>h3 h.2.2]
 ·rw[if_neg (by rw[ZF h1];simp),ZF fun h=>h1 h.1]
theorem P.Yb (w:List Data)(hw:ZAH w)(t:Ty)(l:List Clause)(hp:∀c,c∈l->c.pat.wt<=1048576):F.f146 w t l=some (dec (ZOT w t l)):=by
 unfold F.f146
 rw[P.YO w t hw]
 simp only[oE,oS]
 by_cases h1:ZAN w t
 ·rw[if_pos (ZG h1)]
  by_cases h2:l.length<=8
  ·rw[if_pos h2]
   unfold F.f145 F.f144
   have one:∀c,c∈l->F.f142 c w t=some (dec (¬ZJs w t c)):=by
    intro c hc
    unfold F.f142
    rw[P.YAC w h1.1 t h1.2 c (hp c hc)]
    simp only[oE,oS]
    by_cases a:ZJs w t c
    ·rw[ZG a,ZF (by simp[a])];rfl
    ·rw[ZF a,ZG a];rfl
   rw[ZK0 (a:=l) (p:=fun c=>¬ZJs w t c) (L:=F.f143 l w t) (fun k hk=>by rw[F.f143,if_neg (by omega)])
    (fun k hk hp=>by rw[F.f143,if_pos hk,gQ hk];simp only[oE,oS];rw[one _ (gM hk)];simp only[oS];rw[if_neg (by rw[ZF hp];simp)])
    (fun k hk hp=>by rw[F.f143,if_pos hk,gQ hk];simp only[oE,oS];rw[one _ (gM hk)];simp only[oS];rw[if_pos (ZG hp)]) _ 0 rfl,List.drop_zero]
   cases hf:ZF5 (fun c=>¬ZJs w t c) 0 l with
   |none=>
    have:=ZAq hf
    simp only[oE,oS]
    rw[ZG ⟨h1,h2,fun c hc=>Classical.byContradiction fun h=>this c hc h⟩];rfl
   |some j=>
    obtain⟨_,h3,h4,_⟩:=ZAp hf
    simp only[oE,oS]
    rw[ZF fun h=>h4 (h.2.2 _ (gM h3))];simp
  ·rw[if_neg h2,ZF fun h=>h2 h.2.1]
 ·rw[if_neg (by rw[ZF h1];simp),ZF fun h=>h1 h.1]
theorem P.Yr {w:List Data}{d e:Nat}{as:List Ty}{depth x:Int}(hd:i64.wrap (depth-1)=(d:Int))
  (ih:∀a,a∈as->∀K r,rok K r->K+e<=1099511627776->∃p r',F.f59 r w a (d:Int)=some (p,r')/\rok (K+e) r'/\p.wt+1<=e):
  ∀(k K:Nat) (z:List Int) (z32:Int) (out:List Pattern),k<=as.length->rok K ⟨z,z32⟩->K+k*e<=1099511627776->out.length+k<=67108864->
   ∃z' z32' out',F.f60 w depth x as z z32 out (as.length-k)=some (z',z32',out')/\rok (K+k*e) ⟨z',z32'⟩/\wtL Pattern.wt out'<=wtL Pattern.wt out+k*e
 |0,K,z,z32,out,hk,hr,hK,ho=>by
  rw[F.f60,if_neg (by omega)]
  exact⟨z,z32,out,rfl,hr.mono (by omega),by omega⟩
 |k+1,K,z,z32,out,hk,hr,hK,ho=>by
  have hi:as.length- (k+1)<as.length:=by omega
  rw[Nat.add_mul,Nat.one_mul]at hK
  obtain⟨p,r1,e1,h1,h2⟩:=ih _ (gM hi) K ⟨z,z32⟩ hr (by omega)
  obtain⟨z',z32',out',f1,f2,f3⟩:=P.Yr hd ih k (K+e) r1.f0 r1.f1 (out++[p]) (by omega) h1 (by omega) (by simp;omega)
  rw[F.f60,if_pos hi,gQ hi]
  simp only[oE,oS]
  rw[hd,e1]
  simp only[oS]
  rw[if_pos (by omega)]
  have ei:as.length- (k+1)+1=as.length-k:=by omega
  rw[ei]
  refine⟨z',z32',out',f1,f2.mono (by rw[Nat.add_mul];omega),?_⟩
  have:wtL Pattern.wt (out++[p])=wtL Pattern.wt out+(1+p.wt):=by simp[wtL];omega
  rw[Nat.add_mul];omega
theorem P.YAx {w:List Data}(hw:ZP w):∀(d:Nat) (t:Ty) (K:Nat) (r:ZA),ZZ w t->d<=12->rok K r->K+8^d<=1099511627776->
  ∃p r',F.f59 r w t (d:Int)=some (p,r')/\rok (K+8^d) r'/\p.wt+1<=8^d
 |0,t,K,r,ht,hd,hr,hK=>by
  rw[F.f59,if_pos (by omega)]
  exact⟨_,_,rfl,hr.mono (by omega),by rw[ZBY];simp⟩
 |1,t,K,r,ht,hd,hr,hK=>by
  rw[F.f59,if_pos (by omega)]
  exact⟨_,_,rfl,hr.mono (by omega),by rw[ZBY];simp⟩
 |d+2,t,K,r,ht,hd,hr,hK=>by
  have hpos:1<=8^d:=Nat.pow_pos (show 0<8 by omega)
  have e8:8^ (d+2)=64*8^d:=by rw[Nat.pow_succ,Nat.pow_succ];omega
  have e7:8^ (d+1)=8*8^d:=by rw[Nat.pow_succ];omega
  have hwr:i64.wrap (((d+2:Nat):Int) -1)=((d+1:Nat):Int):=by rw[ZE (by omega) (by omega)];omega
  have ih:=fun(a:Ty) (ha:ZZ w a) (K:Nat) (r:ZA) hr hK=>P.YAx hw (d+1) a K r ha (by omega) hr hK
  rw[e8]at hK ⊢
  rw[e7]at ih
  generalize 8^d=q at hpos hK ih ⊢
  rw[F.f59,if_neg (by omega)]
  obtain⟨v1,r1,e1,h1,a1,b1,_⟩:=P.YG hr (by omega) 4
  rw[e1]
  simp only[oE,oS]
  split
  ·exact⟨_,_,rfl,h1.mono (by omega),by rw[ZBY];omega⟩
  obtain⟨v2,r2,e2,h2,a2,b2,_⟩:=P.YG h1 (by omega) 6
  rw[e2]
  simp only[oS]
  split
  ·rw[hwr]
   obtain⟨p1,r3,e3,h3,w3⟩:=ih t ht _ r2 h2 (by omega)
   obtain⟨p2,r4,e4,h4,w4⟩:=ih t ht _ r3 h3 (by omega)
   rw[e3]
   simp only[oS]
   rw[e4]
   exact⟨_,_,rfl,h4.mono (by omega),by rw[ZNN];show 2+p1.wt+p2.wt+1<=_;omega⟩
  ·split
   ·obtain⟨v3,r3,e3,h3,a3,b3,_⟩:=P.YG h2 (by omega) 10
    obtain⟨v4,r4,e4,h4,a4,b4,_⟩:=P.YG h3 (by omega) (i64.wrap (10-v3))
    obtain⟨v5,r5,e5,h5,a5,b5,_⟩:=P.YG h4 (by omega) 2
    rw[e3]
    simp only[oS]
    rw[e4]
    simp only[oS]
    rw[e5]
    exact⟨_,_,rfl,h5.mono (by omega),by rw[ZBY];omega⟩
   ·next hn=>
    rw[P.YM w hw t (ZBZ ht.1)]
    simp only[oS]
    split
    ·exact⟨_,_,rfl,h2.mono (by omega),by rw[ZBY];omega⟩
    ·next hl=>
     obtain⟨v3,r3,e3,h3,a3,b3,_⟩:=P.YG h2 (by omega) ((ZR w t).length:Int)
     have b3:=b3 (by omega)
     obtain⟨c,hc,hm⟩:=ZEP a3 b3
     rw[e3]
     simp only[oS]
     rw[hc]
     simp only[oS]
     rw[P.YE w hw t (ZBZ ht.1) c hm]
     simp only[oS]
     have hal:(ZO w t c).length<=3:=by
      have:=(Zg hw (ZBZ ht.1) (ZW hm).1).2 _ (ZBG hm).2
      unfold ZO;rw[List.length_map];exact this.2.1
     have hmul:(ZO w t c).length*(8*q)<=3*(8*q):=Nat.mul_le_mul_right _ hal
     obtain⟨z',z32',out',f1,f2,f3⟩:=P.Yr (x:=c) hwr (fun a ha K r hr hK=>ih a (ZER hw ht hm a ha) K r hr hK) (ZO w t c).length _ r3.f0 r3.f1 [] (Nat.le_refl _) h3 (by omega) (by simp;omega)
     rw[Nat.sub_self]at f1
     rw[f1]
     refine⟨_,_,rfl,f2.mono (by omega),?_⟩
     rw[Pattern.wt_eq]
     simp at f3
     show wtL Pattern.wt out'+1<=_
     omega
theorem P.YW {p:Pattern}{L:List Int->Int->List Pattern->Nat->Int->Option ((List Int)×Int×(List Pattern)×Int)}
  (hL:∀z z12 out i next,L z z12 out i next=if i<p.kids.length then
   (p.kids[i]?)>>=fun x=>
   (F.f61 (⟨z,z12⟩:ZA) x next)>>=fun v17=>
   if out.length+1<=67108864 then
    L v17.2.2.f0 v17.2.2.f1 (out++[v17.1]) (i+1) v17.2.1
   else none
  else
   some (z,z12,out,next))
  (ih:∀k,k∈p.kids->∀(n:Int) (K:Nat) (r:ZA),0<=n->n<=7->rok K r->K+3*(1+k.wt)<=1099511627776->k.wt<=1048576->
   ∃p' n' r',F.f61 r k n=some (p',n',r')/\rok (K+3*(1+k.wt)) r'/\0<=n'/\n'<=7/\p'.wt+1<=2*(1+k.wt)):
  ∀(k K:Nat) (z:List Int) (z12:Int) (out:List Pattern) (next:Int),k<=p.kids.length->rok K ⟨z,z12⟩->K+3*wtL Pattern.wt (p.kids.drop (p.kids.length-k))<=1099511627776->wtL Pattern.wt p.kids<=1048576->out.length+k<=67108864->0<=next->next<=7->
   ∃z' z12' out' next',L z z12 out (p.kids.length-k) next=some (z',z12',out',next')/\rok (K+3*wtL Pattern.wt (p.kids.drop (p.kids.length-k))) ⟨z',z12'⟩/\0<=next'/\next'<=7/\
    wtL Pattern.wt out'<=wtL Pattern.wt out+2*wtL Pattern.wt (p.kids.drop (p.kids.length-k))
 |0,K,z,z12,out,next,hk,hr,hK,hb,ho,n0,n7=>by
  rw[hL,if_neg (by omega)]
  exact⟨z,z12,out,next,rfl,hr.mono (by omega),n0,n7,by omega⟩
 |k+1,K,z,z12,out,next,hk,hr,hK,hb,ho,n0,n7=>by
  have hi:p.kids.length- (k+1)<p.kids.length:=by omega
  have ei:p.kids.length- (k+1)+1=p.kids.length-k:=by omega
  have hd:p.kids.drop (p.kids.length- (k+1))=p.kids[p.kids.length- (k+1)]::p.kids.drop (p.kids.length-k):=by rw[List.drop_eq_getElem_cons hi,ei]
  have hm:=ZAA Pattern.wt (gM hi)
  rw[hd,ZAv]at hK ⊢
  obtain⟨p',n',r1,e1,h1,q1,q2,q3⟩:=ih _ (gM hi) next K ⟨z,z12⟩ n0 n7 hr (by omega) (by omega)
  obtain⟨z',z12',out',next',f1,f2,f3,f4,f5⟩:=P.YW hL ih k _ r1.f0 r1.f1 (out++[p']) n' (by omega) h1 (by omega) hb (by simp;omega) q1 q2
  rw[hL,if_pos hi,gQ hi]
  simp only[oE,oS]
  rw[e1]
  simp only[oS]
  rw[if_pos (by omega),ei]
  refine⟨z',z12',out',next',f1,f2.mono (by omega),f3,f4,?_⟩
  have:wtL Pattern.wt (out++[p'])=wtL Pattern.wt out+(1+p'.wt):=by simp[wtL];omega
  omega
theorem P.YA8 (p : Pattern) : ∀ (n : Int) (K : Nat) (r : ZA), 0 <= n -> n <= 7 -> rok K r -> K + 3 * (1 + p.wt) <= 1099511627776 -> p.wt <= 1048576 ->
   ∃p' n' r',F.f61 r p n=some (p',n',r')/\rok (K+3*(1+p.wt)) r'/\0<=n'/\n'<=7/\p'.wt+1<=2*(1+p.wt):=by
 induction p using Pattern.ind with
 |_ p ih=>
  intro n K r n0 n7 hr hK hb
  have hwt:=p.wt_eq
  have hlen:=ZBg Pattern.wt p.kids
  have same:p.wt+1<=2*(1+p.wt):=by omega
  rw[F.f61]
  split
  ·exact⟨_,_,_,rfl,hr.mono (by omega),n0,n7,same⟩
  split
  ·exact⟨_,_,_,rfl,hr.mono (by omega),n0,n7,same⟩
  split
  ·exact⟨_,_,_,rfl,hr.mono (by omega),n0,n7,same⟩
  have tail:∀(K':Nat) (z':List Int) (z12':Int) (out':List Pattern) (next':Int),rok K' ⟨z',z12'⟩->K'+1<=K+3*(1+p.wt)->0<=next'->next'<=7->wtL Pattern.wt out'<=2*p.wt->
    ∃p' n' r',(if next'<=5 then
     (F.f1 (⟨z',z12'⟩:ZA) 6).bind fun v24=>
     if v24.1=0 then
      some ((⟨6,0,0,0,next',[(⟨p.op,p.ctor,p.n,p.m,p.var,out'⟩:Pattern)]⟩:Pattern),i64.wrap (next'+1),v24.2)
     else
      some ((⟨p.op,p.ctor,p.n,p.m,p.var,out'⟩:Pattern),next',v24.2)
    else
     some ((⟨p.op,p.ctor,p.n,p.m,p.var,out'⟩:Pattern),next',(⟨z',z12'⟩:ZA)))=some (p',n',r')/\rok (K+3*(1+p.wt)) r'/\0<=n'/\n'<=7/\p'.wt+1<=2*(1+p.wt):=by
   intro K' z' z12' out' next' hr' hK' m0 m7 hout
   have hown:(⟨p.op,p.ctor,p.n,p.m,p.var,out'⟩:Pattern).wt=wtL Pattern.wt out':=by rw[Pattern.wt_eq]
   split
   ·obtain⟨v,r1,e1,h1,a1,b1,_⟩:=P.YG hr' (by omega) 6
    rw[e1]
    simp only[oS]
    have hwn:i64.wrap (next'+1)=next'+1:=ZE (by omega) (by omega)
    rw[hwn]
    split
    ·refine⟨_,_,_,rfl,h1.mono (by omega),by omega,by omega,?_⟩
     rw[ZNO,hown];omega
    ·refine⟨_,_,_,rfl,h1.mono (by omega),by omega,by omega,?_⟩
     rw[hown];omega
   ·refine⟨_,_,_,rfl,hr'.mono (by omega),m0,m7,?_⟩
    rw[hown];omega
  split
  ·obtain⟨v,r1,e1,h1,a1,b1,_⟩:=P.YG hr (by omega) 2
   rw[e1]
   simp only[oE,oS]
   have hwn:i64.wrap (n+1)=n+1:=ZE (by omega) (by omega)
   split
   ·rw[hwn]
    exact⟨_,_,_,rfl,h1.mono (by omega),by omega,by omega,by rw[ZBY];omega⟩
   ·obtain⟨z',z12',out',next',f1,f2,f3,f4,f5⟩:=P.YW (p:=p) (L:=F.f62 p n) (fun z z12 out i next=>by rw[F.f62]) ih p.kids.length _ r1.f0 r1.f1 [] n (Nat.le_refl _) h1 (by rw[Nat.sub_self,List.drop_zero];omega) (by omega) (by simp;omega) n0 n7
    rw[Nat.sub_self]at f1;rw[Nat.sub_self,List.drop_zero]at f2 f5
    rw[f1]
    simp only[oS]
    simp at f5
    exact tail _ z' z12' out' next' f2 (by omega) f3 f4 (by omega)
  ·obtain⟨z',z12',out',next',f1,f2,f3,f4,f5⟩:=P.YW (p:=p) (L:=F.f63 p n) (fun z z12 out i next=>by rw[F.f63]) ih p.kids.length _ r.f0 r.f1 [] n (Nat.le_refl _) hr (by rw[Nat.sub_self,List.drop_zero];omega) (by omega) (by simp;omega) n0 n7
   rw[Nat.sub_self]at f1;rw[Nat.sub_self,List.drop_zero]at f2 f5
   rw[f1]
   simp only[oE,oS]
   simp at f5
   exact tail _ z' z12' out' next' f2 (by omega) f3 f4 (by omega)
theorem ZOd (w:List Data)(t:Ty):ZAl w t ⟨1,0,0,0,0,[]⟩:=by
 have hp:ZH w t ⟨1,0,0,0,0,[]⟩=[]:=by simp[ZH]
 refine⟨⟨.inl ⟨rfl,rfl,rfl,rfl,rfl⟩,by rw[hp];rfl,fun i _ h=>by rw[hp]at h;simp at h⟩,⟨fun i _ h=>by rw[hp]at h;simp at h,?_⟩,by rw[ZBY];omega⟩
 rw[if_neg (by simp)]
 simp[ZF4,ZT]
theorem P.YA7 {w:List Data}(hw:ZP w){t:Ty}(ht:ZZ w t){K:Nat}{r:ZA}(hr:rok K r)(hK:K+20000<=1099511627776):∃p r',F.f86 r w t=some (p,r')/\rok (K+20000) r'/\ZAl w t p:=by
 unfold F.f86
 obtain⟨v,r1,e1,h1,hv⟩:=P.num hr (by omega) [3,2,4,1] (by simp)
 obtain⟨d,rfl,hd⟩:∃d:Nat,v=(d:Int)/\d<=4:=by
  simp at hv
  exact⟨v.toNat,by omega,by omega⟩
 have h8:8^d<=4096:=Nat.le_trans (Nat.pow_le_pow_right (n:=8) (by omega) hd) (by decide)
 obtain⟨p,r2,e2,h2,hp⟩:=P.YAx hw d t _ r1 ht (by omega) h1 (by omega)
 obtain⟨q,n,r3,e3,h3,_,_,hq⟩:=P.YA8 p 0 _ r2 (by omega) (by omega) h2 (by omega) (by omega)
 rw[e1]
 simp only[oE,oS]
 rw[e2]
 simp only[oS]
 rw[e3]
 simp only[oS]
 rw[P.YAG w hw t ht q (by omega)]
 simp only[oS]
 by_cases h:ZAl w t q
 ·rw[if_pos (ZG h)]
  exact⟨_,_,rfl,h3.mono (by omega),h⟩
 ·rw[if_neg (by rw[ZF h];simp)]
  exact⟨_,_,rfl,h3.mono (by omega),ZOd w t⟩
theorem P.YC (v:Pattern×ZA)(vs:List VarType):∀(k K:Nat) (z:List Int) (z4 z5 z6 z7:Int),k<=vs.length->rok K ⟨z,z4⟩->K+3*k<=1099511627776->
  ∃z' z4' z5' z6' z7',F.f87 v z z4 z5 z6 z7 vs (vs.length-k)=some (z',z4',z5',z6',z7')/\rok (K+3*k) ⟨z',z4'⟩
 |0,K,z,z4,z5,z6,z7,hk,hr,hK=>by
  rw[F.f87,if_neg (by omega)]
  exact⟨z,z4,z5,z6,z7,rfl,hr.mono (by omega)⟩
 |k+1,K,z,z4,z5,z6,z7,hk,hr,hK=>by
  have hi:vs.length- (k+1)<vs.length:=by omega
  have ei:vs.length- (k+1)+1=vs.length-k:=by omega
  rw[F.f87,if_pos hi,gQ hi]
  simp only[oE,oS]
  rw[ei]
  split
  ·obtain⟨v1,r1,e1,h1,_⟩:=P.YG hr (by omega) 2
   rw[e1]
   simp only[oS]
   split
   ·obtain⟨v2,r2,e2,h2,_⟩:=P.YG h1 (by omega) 2
    obtain⟨v3,r3,e3,h3,_⟩:=P.YG h2 (by omega) 10
    rw[e2]
    simp only[oS]
    rw[e3]
    simp only[oS]
    obtain⟨a,b,c,d,e,f1,f2⟩:=P.YC v vs k _ r3.f0 r3.f1 (i64.wrap (1+v2)) (vs[vs.length- (k+1)]).var v3 (by omega) h3 (by omega)
    exact⟨a,b,c,d,e,f1,f2.mono (by omega)⟩
   ·obtain⟨a,b,c,d,e,f1,f2⟩:=P.YC v vs k _ r1.f0 r1.f1 z5 z6 z7 (by omega) h1 (by omega)
    exact⟨a,b,c,d,e,f1,f2.mono (by omega)⟩
  ·obtain⟨a,b,c,d,e,f1,f2⟩:=P.YC v vs k _ z z4 z5 z6 z7 (by omega) hr (by omega)
   exact⟨a,b,c,d,e,f1,f2.mono (by omega)⟩
theorem P.YAw {w:List Data}(hw:ZP w){t:Ty}(ht:ZZ w t){K:Nat}{r:ZA}(hr:rok K r)(hK:K+21000<=1099511627776):∃c r',F.f88 r w t=some (c,r')/\rok (K+21000) r'/\ZAl w t c.pat:=by
 unfold F.f88
 obtain⟨p,r1,e1,h1,hp⟩:=P.YA7 hw ht hr (by omega)
 rw[e1]
 simp only[oE,oS]
 have hl:=ZBB w 10 t p
 have hb:=hp.2.2
 rw[P.YA w hw 10 t p [] ht hp.1 (by simp;omega)]
 simp only[oS,List.nil_append]
 obtain⟨a,b,c,d,e,f1,f2⟩:=P.YC (p,r1) (ZT w 10 t p) (ZT w 10 t p).length _ r1.f0 r1.f1 0 0 0 (Nat.le_refl _) h1 (by omega)
 rw[Nat.sub_self]at f1
 rw[f1]
 exact⟨_,_,rfl,f2.mono (by omega),hp⟩
theorem P.YAY {K:Nat}{r:ZA}(hr:rok K r)(hK:K+2<=1099511627776)(p:Pattern)(hp:p.wt<=1048576):∃p' r',F.f93 r p=some (p',r')/\rok (K+2) r'/\p'.wt<=p.wt+1:=by
 have hwt:=p.wt_eq
 have hlen:=ZBg Pattern.wt p.kids
 have own:∀(a b c d e:Int) (ks:List Pattern),(⟨a,b,c,d,e,ks⟩:Pattern).wt=wtL Pattern.wt ks:=fun a b c d e ks=>by rw[Pattern.wt_eq]
 unfold F.f93
 rw[if_pos (by omega)]
 obtain⟨v,r1,e1,h1,_⟩:=P.YG hr (by omega) 30
 rw[e1]
 simp only[oE,oS]
 split
 ·obtain⟨v2,r2,e2,h2,_⟩:=P.num h1 (by omega) [0,7,1,2,5] (by simp)
  rw[e2];exact⟨_,_,rfl,h2,by rw[own];omega⟩
 split
 ·obtain⟨v2,r2,e2,h2,_⟩:=P.num h1 (by omega) [6,-1,1] (by simp)
  rw[e2];exact⟨_,_,rfl,h2,by rw[own];omega⟩
 split
 ·obtain⟨v2,r2,e2,h2,_⟩:=P.num h1 (by omega) [9,-1,1] (by simp)
  rw[e2];exact⟨_,_,rfl,h2,by rw[own];omega⟩
 split
 ·rw[if_pos (by omega)]
  refine⟨_,_,rfl,h1.mono (by omega),?_⟩
  rw[own]
  have:wtL Pattern.wt (p.kids++[⟨2,0,0,0,0,[]⟩])=wtL Pattern.wt p.kids+(1+Pattern.wt ⟨2,0,0,0,0,[]⟩):=by simp[wtL];omega
  rw[this,ZBY];omega
 split
 ·split
  ·next h0=>
   rw[gQ h0]
   refine⟨_,_,rfl,h1.mono (by omega),?_⟩
   rw[own]
   have:=ZIk Pattern.wt p.kids 0 h0 ⟨2,0,0,0,0,[]⟩
   rw[ZBY]at this
   omega
  ·exact⟨_,_,rfl,h1.mono (by omega),by omega⟩
 split
 ·obtain⟨v2,r2,e2,h2,_⟩:=P.num h1 (by omega) [10,-1,5] (by simp)
  rw[e2];exact⟨_,_,rfl,h2,by rw[own];omega⟩
 ·exact⟨_,_,rfl,h1.mono (by omega),by omega⟩
def Tree.nodes :Tree->Nat
 |⟨_,_,_,_,branches,els⟩=>1+(branches.attach.map fun⟨b,_⟩=>Tree.nodes b.tree).sum+(els.attach.map fun⟨k,_⟩=>Tree.nodes k).sum
termination_by t=>SizeOf.sizeOf t
decreasing_by
 ·rename_i h
  have:=List.sizeOf_lt_of_mem h
  cases b
  simp at this ⊢
  omega
 ·rename_i h
  have:=List.sizeOf_lt_of_mem h
  simp
  omega
theorem P.YH (l:List Int)(h:l.length<=67108864):F.f157 l=some l:=by unfold F.f157;rw[if_pos h]
def ZIx :Nat->Tree->Prop
 |0,_=>False
 |n+1,x=>(0<=x.op/\x.op<=2/\x.els.length<=1/\x.branches.length<=10)/\(∀b,b∈x.branches->ZIx n b.tree)/\∀y,y∈x.els->ZIx n y
def right (x:Tree):Prop:=ZIx x.nodes x
def ZHE (w:List Data):Nat->Ty->Pattern->Prop
 |0,_,_=>False
 |d+1,t,p=>ZAn w t p/\p.op≠5/\p.kids.length=(ZH w t p).length/\∀i (h:i<(ZH w t p).length) (h':i<p.kids.length),ZHE w d (ZH w t p)[i] p.kids[i]
theorem ZDB {w:List Data}:∀{d:Nat} {t:Ty} {p:Pattern},ZHE w d t p->ZHE w (d+1) t p
 |0,_,_,h=>h.elim
 |d+1,t,p,⟨h1,h2,h3,h4⟩=>⟨h1,h2,h3,fun i h h'=>ZDB (h4 i h h')⟩
theorem ZIl :∀{a b:List Pattern},a.length=b.length->(∀i (h:i<a.length) (h':i<b.length),a[i].wt<=b[i].wt)->wtL Pattern.wt a<=wtL Pattern.wt b
 | [],[],_,_=>Nat.le_refl _
 | [],_::_,h,_=>by simp at h
 |_::_,[],h,_=>by simp at h
 |x::a,y::b,h,hh=>by
  have h0:=hh 0 (by simp) (by simp)
  have:=ZIl (a:=a) (b:=b) (by simpa using h) fun i hi hi'=>by have:=hh (i+1) (by simpa using hi) (by simpa using hi');simpa using this
  simp only[ZAv,List.getElem_cons_zero]at h0 ⊢
  omega
theorem P.YAt (p:Pattern)(l:List (List Pattern)):∀(m i:Nat) (out:List Pattern),l.length-i=m->out.length+m<=67108864->F.f180 p l out i=some (out++(l.drop i).map fun x=>⟨p.op,p.ctor,p.n,p.m,p.var,x⟩)
 |0,i,out,hm,hb=>by rw[F.f180,if_neg (by omega),List.drop_eq_nil_of_le (by omega)];simp
 |m+1,i,out,hm,hb=>by
  have hi:i<l.length:=by omega
  rw[F.f180,if_pos hi,gQ hi]
  simp only[oE,oS]
  rw[if_pos (by omega),P.YAt p l m (i+1) _ (by omega) (by simp;omega),List.drop_eq_getElem_cons hi,List.map_cons]
  simp[←List.map_drop]
def ZND :Pattern:=⟨1,0,0,0,0,[]⟩
theorem P.YBA :F.f92=some ZND:=rfl
theorem ZLH :ZND.wt=0:=by rw[Pattern.wt_eq];rfl
theorem P.YA4 {w:List Data}(hw:ZP w){t:Ty}(ht:ZZ w t):∀(k K:Nat) (z:List Int) (z2:Int) (out:List Clause),k<=5->rok K ⟨z,z2⟩->K+k*21000<=1099511627776->out.length+k<=100->(∀c,c∈out->ZAl w t c.pat)->
  ∃z' z2' l,F.f89 w t z z2 out (k:Int)=some (z',z2',l)/\rok (K+k*21000) ⟨z',z2'⟩/\l.length=out.length+k/\∀c,c∈l->ZAl w t c.pat
 |0,K,z,z2,out,hk,hr,hK,ho,hp=>by
  rw[F.f89,if_neg (by omega)]
  exact⟨_,_,_,rfl,hr.mono (by omega),rfl,hp⟩
 |k+1,K,z,z2,out,hk,hr,hK,ho,hp=>by
  have hw1:i64.wrap (((k+1:Nat):Int) -1)=(k:Int):=by rw[ZE (by omega) (by omega)];omega
  obtain⟨c,r',e,h1,h2⟩:=P.YAw hw ht hr (by omega)
  rw[F.f89,if_pos (by omega),e,hw1]
  simp only[oE,oS]
  rw[if_pos (by omega)]
  obtain⟨z',z2',l,e2,q1,q2,q3⟩:=P.YA4 hw ht k (K+21000) r'.f0 r'.f1 (out++[c]) (by omega) h1 (by omega) (by simp;omega) (fun x h=>by
   rcases List.mem_append.1 h with h|h
   ·exact hp x h
   ·rw[List.mem_singleton.1 h];exact h2)
  exact⟨z',z2',l,e2,q1.mono (by omega),by simp at q2;omega,q3⟩
theorem P.YA6 {w:List Data}(hw:ZP w){t:Ty}(ht:ZZ w t){K:Nat}{r:ZA}(hr:rok K r)(hK:K+106000<=1099511627776):∃l r',F.f90 r w t=some (l,r')/\rok (K+106000) r'/\l.length<=5/\∀c,c∈l->ZAl w t c.pat:=by
 unfold F.f90
 obtain⟨v,r1,e1,h1,hv⟩:=P.num hr (by omega) [3,2,4,5,1,0] (by simp)
 obtain⟨k,rfl,hk⟩:∃k:Nat,v=(k:Int)/\k<=5:=by
  simp at hv
  exact⟨v.toNat,by omega,by omega⟩
 obtain⟨z',z2',l,e2,q1,q2,q3⟩:=P.YA4 hw ht k _ r1.f0 r1.f1 [] hk h1 (by omega) (by simp;omega) (by simp)
 rw[e1]
 simp only[oE,oS]
 rw[e2]
 exact⟨_,_,rfl,q1.mono (by omega),by simp at q2;simp only;omega,q3⟩
theorem P.Yo (v:Int×ZA):∀(k:Nat) (out:List Clause),out.length+k=9->(∀c,c∈out->c.pat.wt<=1000010)->∃l,F.f94 v out=some l/\l.length=9/\∀c,c∈l->c.pat.wt<=1000010
 |0,out,h,hp=>by rw[F.f94,if_neg (by omega)];exact⟨_,rfl,by omega,hp⟩
 |k+1,out,h,hp=>by
  rw[F.f94,if_pos (by omega),if_pos (by omega)]
  exact P.Yo v k (out++[⟨⟨1,0,0,0,0,[]⟩,⟨0,0,0⟩⟩]) (by simp;omega) (fun c hc=>by
   rcases List.mem_append.1 hc with hc|hc
   ·exact hp c hc
   ·rw[List.mem_singleton.1 hc];simp only;rw[ZBY];omega)
theorem P.Yp {K:Nat}{r:ZA}(hr:rok K r)(hK:K+5<=1099511627776)(l:List Clause)(hl:l.length<=8)(hp:∀c,c∈l->c.pat.wt<=1000000):∃l' r',F.f95 r l=some (l',r')/\rok (K+5) r'/\l'.length<=9/\∀c,c∈l'->c.pat.wt<=1000010:=by
 have hp':∀c,c∈l->c.pat.wt<=1000010:=fun c h=>by have:=hp c h;omega
 have setOk:∀x:Clause,x.pat.wt<=1000010->∀c,c∈l.set 0 x->c.pat.wt<=1000010:=fun x hx c hc=>by
  rcases List.mem_or_eq_of_mem_set hc with h|h
  ·exact hp' c h
  ·rw[h];exact hx
 unfold F.f95
 rw[if_pos (by omega)]
 obtain⟨v,r1,e1,h1,_⟩:=P.YG hr (by omega) 24
 rw[e1]
 simp only[oE,oS]
 split
 ·split
  ·next h0=>
   obtain⟨v2,r2,e2,h2,_⟩:=P.num h1 (by omega) [1,2,3,-1] (by simp)
   obtain⟨v3,r3,e3,h3,_⟩:=P.num h2 (by omega) [0,5,9] (by simp)
   obtain⟨v4,r4,e4,h4,_⟩:=P.num h3 (by omega) [3,10,-1] (by simp)
   rw[e2]
   simp only[oS]
   rw[e3]
   simp only[oS]
   rw[e4]
   simp only[oS]
   rw[gQ h0]
   exact⟨_,_,rfl,h4.mono (by omega),by simp;omega,setOk _ (by simpa using hp' _ (gM h0))⟩
  ·exact⟨_,_,rfl,h1.mono (by omega),by omega,hp'⟩
 split
 ·split
  ·next h0=>
   have hx:=hp _ (gM h0)
   obtain⟨p2,r2,e2,h2,w2⟩:=P.YAY h1 (by omega) l[0].pat (by omega)
   obtain⟨p3,r3,e3,h3,w3⟩:=P.YAY h2 (by omega) p2 (by omega)
   rw[gQ h0]
   simp only[oS]
   rw[e2]
   simp only[oS]
   rw[e3]
   exact⟨_,_,rfl,h3.mono (by omega),by simp;omega,setOk _ (by show p3.wt<=_;omega)⟩
  ·exact⟨_,_,rfl,h1.mono (by omega),by omega,hp'⟩
 split
 ·obtain⟨l',e2,q1,q2⟩:=P.Yo (v,r1) (9-l.length) l (by omega) hp'
  rw[e2]
  exact⟨_,_,rfl,h1.mono (by omega),by omega,q2⟩
 ·exact⟨_,_,rfl,h1.mono (by omega),by omega,hp'⟩
theorem P.YA1 {K:Nat}{r:ZA}(hr:rok K r)(hK:K+107000<=1099511627776):∃w t l v r' T,F.f91 r=some (w,t,l,v,r')/\rok (K+107000) r'/\w∈ZAM/\F.f53 w=some T/\TOk w T/\ZZ w t/\l.length<=5/\(∀c,c∈l->ZAl w t c.pat)/\pv w false 4 t v/\v.wt+1<=256:=by
 obtain⟨w,t,v,r1,T,e1,h1,hw,hT',hT,a1,a2,a3,_,hv,hvw,a4⟩:=P.YAy hr (by omega)
 have ht:ZZ w t:=by
  refine⟨?_,a3⟩
  rcases a1 with q|⟨q1,q2,q3,q4⟩
  ·exact .inl ⟨q,a4 q⟩
  ·exact .inr ⟨q1,q2,by omega,q4⟩
 obtain⟨l,r2,e2,h2,l1,l2⟩:=P.YA6 hT.wok ht h1 (by omega)
 unfold F.f91
 rw[e1]
 simp only[oE,oS]
 rw[e2]
 exact⟨w,t,l,v,r2,T,rfl,h2.mono (by omega),hw,hT',hT,ht,l1,l2,hv,hvw⟩
theorem P.YR (code:List Int)(hc:ZDY code):∃w t l T,F.f96 code=some (w,t,l)/\w∈ZAM/\F.f53 w=some T/\TOk w T/\ZZ w t/\l.length<=9/\∀c,c∈l->c.pat.wt<=1000010:=by
 have key:∀r,rok 0 r->∃w t l T,((F.f91 r)>>=fun v=>
   if 0<v.2.2.1.length then
    (F.f1 v.2.2.2.2 4)>>=fun v9=>
    if v9.1=0 then
     (F.f92)>>=fun v13=>
     if v.2.2.1.length+1<=67108864 then
      (F.f95 v9.2 (v.2.2.1++[(⟨v13,(⟨0,0,0⟩:Guard)⟩:Clause)]))>>=fun v16=>
      some (v.1,v.2.1,v16.1)
     else none
    else
     (F.f95 v9.2 v.2.2.1)>>=fun v18=>
     some (v.1,v.2.1,v18.1)
   else
    (F.f95 v.2.2.2.2 v.2.2.1)>>=fun v20=>
    some (v.1,v.2.1,v20.1))=some (w,t,l)/\w∈ZAM/\F.f53 w=some T/\TOk w T/\ZZ w t/\l.length<=9/\∀c,c∈l->c.pat.wt<=1000010:=by
  intro r hr
  obtain⟨w,t,l,v,r1,T,e1,h1,hw,hT',hT,ht,l1,l2,_⟩:=P.YA1 hr (by omega)
  have hlw:∀c,c∈l->c.pat.wt<=1000000:=fun c h=>by have:=(l2 c h).2.2;omega
  rw[e1]
  simp only[oE,oS]
  split
  ·obtain⟨v9,r2,e2,h2,_⟩:=P.YG h1 (by omega) 4
   rw[e2]
   simp only[oS]
   split
   ·rw[P.YBA]
    simp only[oS]
    rw[if_pos (by omega)]
    obtain⟨l',r3,e3,_,q1,q2⟩:=P.Yp h2 (by omega) (l++[⟨ZND,⟨0,0,0⟩⟩]) (by simp;omega) (fun c h=>by
     rcases List.mem_append.1 h with h|h
     ·exact hlw c h
     ·rw[List.mem_singleton.1 h];simp only;rw[ZLH];omega)
    rw[e3]
    exact⟨_,_,_,T,rfl,hw,hT',hT,ht,q1,q2⟩
   ·obtain⟨l',r3,e3,_,q1,q2⟩:=P.Yp h2 (by omega) l (by omega) hlw
    rw[e3]
    exact⟨_,_,_,T,rfl,hw,hT',hT,ht,q1,q2⟩
  ·obtain⟨l',r3,e3,_,q1,q2⟩:=P.Yp h1 (by omega) l (by omega) hlw
   rw[e3]
   exact⟨_,_,_,T,rfl,hw,hT',hT,ht,q1,q2⟩
 unfold F.f96
 split
 ·rw[if_pos (by omega)];exact key _ (ZIw hc)
 ·exact key _ (ZHH hc (by omega))
theorem P.YP (code:List Int)(hc:ZDY code):∃w t l T,F.f97 code=some (w,t,l)/\w∈ZAM/\F.f53 w=some T/\TOk w T/\ZZ w t/\l.length<=9/\∀c,c∈l->c.pat.wt<=1000010:=by
 obtain⟨w,t,l,T,e,hw,hT',hT,ht,l1,l2⟩:=P.YR code hc
 have key:∀r,rok 0 r->∃l',(if 0<l.length then
   if l.length<8 then
    (F.f1 r 2)>>=fun v12=>
    if v12.1=0 then
     (F.f1 v12.2 (l.length:Int))>>=fun v16=>
     (at? l v16.1)>>=fun x=>
     if l.length+1<=67108864 then
      some (w,t,l++[x])
     else none
    else
     some (w,t,l)
   else
    some (w,t,l)
  else
   some (w,t,l))=some (w,t,l')/\l'.length<=9/\∀c,c∈l'->c.pat.wt<=1000010:=by
  intro r hr
  split
  ·next h0=>
   split
   ·obtain⟨v12,r2,e2,h2,_⟩:=P.YG hr (by omega) 2
    rw[e2]
    simp only[oE,oS]
    split
    ·obtain⟨v16,r3,e3,h3,a1,a2,_⟩:=P.YG h2 (by omega) (l.length:Int)
     have a3:=a2 (by omega)
     obtain⟨k,rfl⟩:∃k:Nat,v16=(k:Int):=⟨v16.toNat,by omega⟩
     have hk:k<l.length:=by omega
     rw[e3]
     simp only[oS]
     rw[ZDa hk]
     simp only[oS]
     rw[if_pos (by omega)]
     refine⟨_,rfl,by simp;omega,fun c h=> ?_⟩
     rcases List.mem_append.1 h with h|h
     ·exact l2 c h
     ·rw[List.mem_singleton.1 h];exact l2 _ (gM hk)
    ·exact⟨_,rfl,l1,l2⟩
   ·exact⟨_,rfl,l1,l2⟩
  ·exact⟨_,rfl,l1,l2⟩
 unfold F.f97
 rw[e]
 simp only[oE,oS]
 split
 ·rw[if_pos (by omega)]
  obtain⟨l',e2,q⟩:=key _ (ZIw hc)
  exact⟨w,t,l',T,e2,hw,hT',hT,ht,q⟩
 ·obtain⟨l',e2,q⟩:=key _ (ZHH hc (by omega))
  exact⟨w,t,l',T,e2,hw,hT',hT,ht,q⟩
theorem ZLu (l:List Pattern)(x:Pattern):wtL Pattern.wt (l++[x])=wtL Pattern.wt l+(1+x.wt):=by simp[wtL];omega
def ZAG :List Nat->Nat
 | []=>1
 |a::r=>a*ZAG r
def Pattern.alts :Pattern->Nat
 |⟨op,_,_,_,_,kids⟩=>if op=5 then(kids.map fun k=>Pattern.alts k).sum else ZAG (kids.map fun k=>Pattern.alts k)
theorem ZDe (p:Pattern):p.alts=if p.op=5 then(p.kids.map Pattern.alts).sum else ZAG (p.kids.map Pattern.alts):=by
 cases p;rw[Pattern.alts]
theorem ZMb (a b:Nat):min (min a 401+min b 401) 401=min (a+b) 401:=by omega
theorem ZMa (a b:Nat):min (min a 401*min b 401) 401=min (a*b) 401:=by
 by_cases ha:a<=401
 ·by_cases hb:b<=401
  ·rw[Nat.min_eq_left ha,Nat.min_eq_left hb]
  ·rw[Nat.min_eq_left ha,Nat.min_eq_right (by omega:401<=b)]
   rcases Nat.eq_zero_or_pos a with rfl|h
   ·simp
   ·have h1:1*401<=a*401:=Nat.mul_le_mul_right _ h
    have h2:1*b<=a*b:=Nat.mul_le_mul_right _ h
    omega
 ·rw[Nat.min_eq_right (by omega:401<=a)]
  rcases Nat.eq_zero_or_pos b with rfl|h
  ·simp
  ·have h0:1<=min b 401:=by omega
   have h1:401*1<=401*min b 401:=Nat.mul_le_mul_left _ h0
   have h2:a*1<=a*b:=Nat.mul_le_mul_left _ h
   omega
theorem P.Yu (p:Pattern):F.f147 p=some ((min p.alts 401:Nat):Int):=by
 induction p using Pattern.ind with
 |_ p ih=>
  have e:=ZDe p
  rw[F.f147]
  by_cases h5:p.op=5
  ·rw[if_pos h5]at e ⊢
   have key:∀(m i n:Nat),p.kids.length-i=m->F.f148 p i ((min n 401:Nat):Int)=some ((min (n+((p.kids.drop i).map Pattern.alts).sum) 401:Nat):Int):=by
    intro m
    induction m with
    |zero=>intro i n hm;rw[F.f148,if_neg (by omega),List.drop_eq_nil_of_le (by omega)];simp
    |succ m ihm=>
     intro i n hm
     have hi:i<p.kids.length:=by omega
     rw[F.f148,if_pos hi,gQ hi]
     simp only[oE,oS]
     rw[if_pos h5,ih _ (gM hi)]
     simp only[oS]
     have hw:i64.wrap (((min n 401:Nat):Int)+((min p.kids[i].alts 401:Nat):Int))=((min n 401+min p.kids[i].alts 401:Nat):Int):=by rw[ZE (by omega) (by omega)];omega
     have hr:(if 401<((min n 401+min p.kids[i].alts 401:Nat):Int)then 401 else((min n 401+min p.kids[i].alts 401:Nat):Int))=((min (n+p.kids[i].alts) 401:Nat):Int):=by
      rw[←ZMb];split<;>omega
     rw[hw,hr,ihm (i+1) _ (by omega),List.drop_eq_getElem_cons hi,List.map_cons,List.sum_cons,Nat.add_assoc]
   have k0:=key _ 0 0 rfl
   rw[List.drop_zero,Nat.zero_add,←e]at k0
   rw[show F.f148 p 0 0=some ((min p.alts 401:Nat):Int)from k0]
   rfl
  ·rw[if_neg h5]at e ⊢
   have key:∀(m i n:Nat),p.kids.length-i=m->F.f149 p i ((min n 401:Nat):Int)=some ((min (n*ZAG ((p.kids.drop i).map Pattern.alts)) 401:Nat):Int):=by
    intro m
    induction m with
    |zero=>intro i n hm;rw[F.f149,if_neg (by omega),List.drop_eq_nil_of_le (by omega)];simp[ZAG]
    |succ m ihm=>
     intro i n hm
     have hi:i<p.kids.length:=by omega
     rw[F.f149,if_pos hi,gQ hi]
     simp only[oE,oS]
     rw[if_neg h5,ih _ (gM hi)]
     simp only[oS]
     have hb:min n 401*min p.kids[i].alts 401<=401*401:=Nat.mul_le_mul (by omega) (by omega)
     have hw:i64.wrap (((min n 401:Nat):Int)*((min p.kids[i].alts 401:Nat):Int))=((min n 401*min p.kids[i].alts 401:Nat):Int):=by
      rw[←Int.natCast_mul,ZE (by omega) (by omega)]
     have hr:(if 401<((min n 401*min p.kids[i].alts 401:Nat):Int)then 401 else((min n 401*min p.kids[i].alts 401:Nat):Int))=((min (n*p.kids[i].alts) 401:Nat):Int):=by
      rw[←ZMa]
      generalize min n 401*min p.kids[i].alts 401=z
      split<;>omega
     rw[hw,hr,ihm (i+1) _ (by omega),List.drop_eq_getElem_cons hi,List.map_cons,ZAG,Nat.mul_assoc]
   have k0:=key _ 0 1 rfl
   rw[List.drop_zero,Nat.one_mul,←e]at k0
   rw[show F.f149 p 0 1=some ((min p.alts 401:Nat):Int)from k0]
   rfl
theorem ZB7 :∀{l:List Nat},(∀x,x∈l->1<=x)->1<=ZAG l
 | [],_=>Nat.le_refl _
 |a::r,h=>by
  have h1:=h a (by simp)
  have h2:=ZB7 (l:=r) fun x hx=>h x (List.mem_cons_of_mem _ hx)
  exact Nat.mul_le_mul h1 h2
theorem ZC5 {w:List Data}:∀{d:Nat} {t:Ty} {p:Pattern},Zc w d t p->1<=p.alts
 |0,_,_,h=>h.elim
 |d+1,t,p,⟨ho,hl,hk⟩=>by
  have hks:∀k,k∈p.kids->1<=k.alts:=fun k hm=>by
   obtain⟨i,hi,rfl⟩:=List.getElem_of_mem hm
   exact ZC5 (hk i (Nat.zero_le _) (by omega) (by omega) hi)
  rw[ZDe]
  split
  ·next h5=>
   have e5:=Zk ho h5
   have h2:p.kids.length=2:=by rw[hl,e5];rfl
   have q0:=hks _ (gM (show 0<p.kids.length by omega))
   have e9:(([p.kids[0]'(by omega),p.kids[1]'(by omega)]:List Pattern).map Pattern.alts).sum=(p.kids[0]'(by omega)).alts+(p.kids[1]'(by omega)).alts:=by simp
   rw[←ZAz h2]at e9
   omega
  ·exact ZB7 fun x hx=>by
    obtain⟨k,hk2,rfl⟩:=List.mem_map.1 hx
    exact hks k hk2
theorem ZBN {l:List Nat}(h:∀x,x∈l->1<=x)(i:Nat):ZAG (l.take i)<=ZAG l:=by
 induction l generalizing i with
 |nil=>simp[ZAG]
 |cons a r ih=>
  have hr:∀x,x∈r->1<=x:=fun x hx=>h x (List.mem_cons_of_mem _ hx)
  cases i with
  |zero=>exact ZB7 h
  |succ i=>exact Nat.mul_le_mul_left _ (ih hr i)
theorem ZD4 (l:List Nat)(a:Nat):ZAG (l++[a])=ZAG l*a:=by
 induction l with
 |nil=>simp[ZAG]
 |cons b r ih=>simp only[List.cons_append,ZAG,ih,Nat.mul_assoc]
theorem ZFL {l:List Nat}(h:∀x,x∈l->1<=x){a:Nat}(ha:a∈l):a<=ZAG l:=by
 induction l with
 |nil=>cases ha
 |cons b r ih=>
  have hr:∀x,x∈r->1<=x:=fun x hx=>h x (List.mem_cons_of_mem _ hx)
  have h1:=h b (by simp)
  have h2:=ZB7 hr
  rcases List.mem_cons.1 ha with rfl|ha
  ·have:=Nat.mul_le_mul_left a h2;rw[Nat.mul_one]at this;exact this
  ·have h3:=ih hr ha
   have h4:=Nat.mul_le_mul_right (ZAG r) h1
   rw[Nat.one_mul]at h4
   exact Nat.le_trans h3 h4
theorem P.Yi (p:Pattern)(list:List Pattern)(i:Nat)(v:List Pattern)(i17:Nat)(q:Pattern)(hq:q.kids.length<=1048576):∀(m j:Nat) (more:List Pattern),v.length-j=m->more.length+m<=67108864->
  F.f151 p list i v i17 q more j=some (more++(v.drop j).map fun x=>⟨q.op,q.ctor,q.n,q.m,q.var,q.kids++[x]⟩)
 |0,j,more,hm,hb=>by rw[F.f151,if_neg (by omega),List.drop_eq_nil_of_le (by omega)];simp
 |m+1,j,more,hm,hb=>by
  have hj:j<v.length:=by omega
  rw[F.f151,if_pos hj,gQ hj]
  simp only[oE,oS]
  unfold F.f150
  rw[if_pos (by omega)]
  simp only[oS]
  rw[if_pos (by omega),if_pos (by omega),P.Yi p list i v i17 q hq m (j+1) _ (by omega) (by simp;omega),List.drop_eq_getElem_cons hj,List.map_cons]
  simp
end Go.Vl
