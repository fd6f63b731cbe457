/- A part of the proof. -/
import Derived.Test.YtoiccjladkadgaaGreatVlQ
import Derived.Test.YtoiccjladkadgaaGreatSimplifyPatternE
set_option linter.all false
set_option maxRecDepth 100000
namespace Go.Vl
open Go Go.RowKit
open Go.IntKind (i64)
theorem oS {α β:Type}{a:α}{f:α->Option β}:(some a).bind f=f a:=rfl
theorem oE {α β:Type}:(bind:Option α->(α->Option β)->Option β)=Option.bind:=rfl
theorem gQ {α:Type}{l:List α}{i:Nat}(h:i<l.length):l[i]? =some l[i]:=List.getElem?_eq_getElem h
theorem gM {α:Type}{l:List α}{n:Nat}(h:n<l.length):l[n]∈l:=List.getElem_mem h
noncomputable def ZF4 {α:Type}(p:α->Prop):Nat->List α->Option Nat
 |_,[]=>none
 |k,x::r=>if dec (p x)=true then some k else ZF4 p (k+1) r
theorem ZAs {α:Type}{p:α->Prop}:∀{l:List α} {k j:Nat},ZF4 p k l=some j->k<=j/\∃h:j-k<l.length,p l[j-k]/\∀i (hi:i<l.length),i<j-k->¬p l[i]
 |x::r,k,j,h=>by
  simp only[ZF4]at h
  split at h
  ·next hp=>
   obtain rfl:=Option.some.inj h
   refine⟨Nat.le_refl _,by simp,?_,fun i _ hi=>by omega⟩
   simpa using Zs.1 hp
  ·next hp=>
   obtain⟨h1,h2,h3,h4⟩:=ZAs h
   have e:j-k=(j- (k+1))+1:=by omega
   refine⟨by omega,by simp;omega,?_,fun i hi hlt=> ?_⟩
   ·simp only[e,List.getElem_cons_succ];exact h3
   ·cases i with
    |zero=>exact fun hq=>hp (ZH hq)
    |succ i=>exact h4 i (by simpa using hi) (by omega)
theorem ZAt {α:Type}{p:α->Prop}:∀{l:List α} {k:Nat},ZF4 p k l=none->∀x,x∈l->¬p x
 | [],_,_=>fun x hx=>by cases hx
 |x::r,k,h=>by
  simp only[ZF4]at h
  split at h
  ·cases h
  ·next hp=>
   intro y hy
   rcases List.mem_cons.1 hy with rfl|hy
   ·exact fun hq=>hp (ZH hq)
   ·exact ZAt h y hy
theorem ZLC {α:Type}{a:List α}{p:α->Prop}{L:Nat->Option (Lo Int Unit)}(h0:∀k,a.length<=k->L k=some (.go ()))(h1:∀k (h:k<a.length),¬p a[k]->L k=L (k+1))
  (h2:∀k (h:k<a.length),p a[k]->L k=some (.ret (k:Int))):∀(m k:Nat),a.length-k=m->L k=some (match ZF4 p k (a.drop k)with|some j=>.ret (j:Int)|none=>.go ()):=by
 intro m
 induction m with
 |zero=>intro k hm;rw[h0 k (by omega),List.drop_eq_nil_of_le (by omega)];rfl
 |succ m ih=>
  intro k hm
  have hk:k<a.length:=by omega
  rw[List.drop_eq_getElem_cons hk]
  by_cases hp:p a[k]
  ·rw[h2 k hk hp];simp only[ZF4];rw[if_pos (ZH hp)]
  ·rw[h1 k hk hp,ih (k+1) (by omega)];simp only[ZF4];rw[if_neg (by rw[ZE hp];simp)]
def ZNi (c:Nat):Prop:=65<=c/\c<=90
def ZE0 (s:ByteArray):Prop:=s.size=1/\ZNi (byteAt s 0)/\s≠⟨#[73]⟩
def ZFU (s:ByteArray):Prop:=1<=s.size/\s.size<=5/\ZNi (byteAt s 0)/\∀i,1<=i->i<s.size->97<=byteAt s i/\byteAt s i<=122
def ZBv (n:Nat)(t:Ty):Prop:=(t.data= -1/\t.index=0)∨(0<=t.data/\t.data<n/\-1<=t.index/\t.index<=3)
def ZER (n:Nat)(c:Ctor):Prop:=ZFU c.name/\c.args.length<=3/\0<=c.index/\c.index<=3/\∀j,0<=j->(h:j<c.args.length)->ZBv n c.args[j]
theorem P.Yv (c:Nat):F.f11 c=some (dec (ZNi c)):=by
 unfold F.f11
 by_cases h:65<=(c:Int)
 ·rw[if_pos h];congr 1;rw[←ZAL];exact ZS ⟨fun h'=>⟨by omega,by omega⟩,fun h'=>by have:=h'.2;omega⟩
 ·rw[if_neg h,ZE fun h'=>h (by have:=h'.1;omega)]
theorem P.YAX (s:ByteArray):F.f12 s=some (dec (ZE0 s)):=by
 unfold F.f12
 by_cases h:s.size=1
 ·rw[if_pos h,if_pos (by omega),P.Yv]
  simp only[oE,oS]
  by_cases hb:ZNi (byteAt s 0)
  ·rw[if_pos (ZH hb)];congr 1;rw[←ZAL];exact ZS ⟨fun h'=>⟨h,hb,fun e=>h' (by rw[e])⟩,fun h' e=>h'.2.2 (ZAY.1 e)⟩
  ·rw[if_neg (by rw[ZE hb];simp),ZE fun h'=>hb h'.2.1]
 ·rw[if_neg h,ZE fun h'=>h h'.1]
theorem P.YAO (s:ByteArray)(hs:s.size<=1048576):F.f13 s 1=some (if dec (∀i,1<=i->i<s.size->97<=byteAt s i/\byteAt s i<=122)=true then .go ()else .ret false):=by
 refine ZHg (L:=F.f13 s) (fun k hk=> ?_) (fun k hk hq=> ?_) (fun k hk hq=> ?_) _ 1 rfl
 ·rw[F.f13,if_neg (by omega)]
 ·rw[F.f13,if_pos hk,if_neg (by omega),if_neg (by omega),if_pos (by omega)]
 ·rw[F.f13,if_pos hk]
  by_cases h:byteAt s k<97
  ·rw[if_pos h]
  ·rw[if_neg h,if_pos (by omega)]
theorem P.YAR (s:ByteArray)(hs:s.size<=1048576):F.f94 s 1=some (if dec (∀i,1<=i->i<s.size->97<=byteAt s i/\byteAt s i<=122)=true then .go ()else .ret false):=by
 refine ZHg (L:=F.f94 s) (fun k hk=> ?_) (fun k hk hq=> ?_) (fun k hk hq=> ?_) _ 1 rfl
 ·rw[F.f94,if_neg (by omega)]
 ·rw[F.f94,if_pos hk,if_neg (by omega),if_neg (by omega),if_pos (by omega)]
 ·rw[F.f94,if_pos hk]
  by_cases h:byteAt s k<97
  ·rw[if_pos h]
  ·rw[if_neg h,if_pos (by omega)]
theorem P.Yx (s:ByteArray)(hs:s.size<=1048576):F.f14 s=some (dec (ZFU s)):=by
 unfold F.f14
 by_cases h0:s.size=0
 ·rw[if_pos h0,ZE fun h=>by have:=h.1;omega]
 by_cases h5:5<s.size
 ·rw[if_neg h0,if_pos h5,ZE fun h=>by have:=h.2.1;omega]
 rw[if_neg h0,if_neg h5,if_pos (by omega),P.Yv]
 simp only[oE,oS]
 by_cases hb:ZNi (byteAt s 0)
 ·rw[if_pos (ZH hb),P.YAO s hs]
  simp only[oS]
  by_cases hall:∀i,1<=i->i<s.size->97<=byteAt s i/\byteAt s i<=122
  ·rw[if_pos (ZH hall),ZH ⟨by omega,by omega,hb,hall⟩]
  ·rw[if_neg (by rw[ZE hall];simp),ZE fun h=>hall h.2.2.2]
 ·rw[if_neg (by rw[ZE hb];simp),ZE fun h=>hb h.2.2.1]
theorem P.YL (n low high:Int):F.f93 n low high=some (dec (low<=n/\n<=high)):=by
 unfold F.f93
 by_cases h:low<=n
 ·rw[if_pos h];congr 1;rw[←ZAL];exact ZS ⟨fun h'=>⟨h,h'⟩,fun h'=>h'.2⟩
 ·rw[if_neg h,ZE fun h'=>h h'.1]
theorem P.YAF (s:ByteArray)(hs:s.size<=1048576):F.f95 s=some (dec (ZFU s)):=by
 unfold F.f95
 rw[P.YL]
 simp only[oE,oS]
 by_cases h0:1<=(s.size:Int)/\(s.size:Int)<=5
 ·rw[if_pos (ZH h0),if_pos (by omega)]
  by_cases a1:byteAt s 0<65
  ·rw[if_pos a1,ZE fun h=>by have:=h.2.2.1.1;omega]
  by_cases a2:90<byteAt s 0
  ·rw[if_neg a1,if_pos a2,ZE fun h=>by have:=h.2.2.1.2;omega]
  rw[if_neg a1,if_neg a2,P.YAR s hs]
  simp only[oS]
  by_cases hall:∀i,1<=i->i<s.size->97<=byteAt s i/\byteAt s i<=122
  ·rw[if_pos (ZH hall),ZH ⟨by omega,by omega,⟨by omega,by omega⟩,hall⟩]
  ·rw[if_neg (by rw[ZE hall];simp),ZE fun h=>hall h.2.2.2]
 ·rw[if_neg (by rw[ZE h0];simp),ZE fun h=>h0 ⟨by have:=h.1;omega,by have:=h.2.1;omega⟩]
theorem P.Yf (n:Nat)(t:Ty):F.f15 n t=some (dec (ZBv n t)):=by
 unfold F.f15
 by_cases h:t.data= -1
 ·rw[if_pos h];congr 1;rw[←ZAL];exact ZS ⟨fun h'=>.inl ⟨h,h'⟩,fun h'=>h'.elim (·.2) (fun h'=>by have:=h'.1;omega)⟩
 rw[if_neg h]
 by_cases h1:0<=t.data
 ·by_cases h2:t.data<n
  ·by_cases h3: -1<=t.index
   ·rw[if_pos h1,if_pos h2,if_pos h3];congr 1;rw[←ZAL];exact ZS ⟨fun h'=>.inr ⟨h1,h2,h3,h'⟩,fun h'=>h'.elim (fun h'=>absurd h'.1 h) (fun h'=>h'.2.2.2)⟩
   ·rw[if_pos h1,if_pos h2,if_neg h3,ZE fun h'=>h'.elim (fun h'=>h h'.1) (fun h'=>h3 h'.2.2.1)]
  ·rw[if_pos h1,if_neg h2,ZE fun h'=>h'.elim (fun h'=>h h'.1) (fun h'=>h2 h'.2.1)]
 ·rw[if_neg h1,ZE fun h'=>h'.elim (fun h'=>h h'.1) (fun h'=>h1 h'.1)]
theorem P.YAd (w:List Data)(t:Ty)(hw:w.length<=1048576):F.f96 w t=some (dec (ZBv w.length t)):=by
 unfold F.f96
 by_cases h:eq2 (t.data,t.index) (-1,0)
 ·rw[if_pos (ZH h),ZH (.inl h)]
 rw[if_neg (by rw[ZE h];simp),P.YL,ZF (by omega) (by omega)]
 simp only[oE,oS]
 by_cases h1:0<=t.data/\t.data<=(w.length:Int) -1
 ·rw[if_pos (ZH h1),P.YL]
  simp only[oS]
  congr 1;exact ZS ⟨fun h'=>.inr ⟨h1.1,by omega,h'.1,h'.2⟩,fun h'=>h'.elim (fun h'=>absurd h' h) (fun h'=>h'.2.2)⟩
 ·rw[if_neg (by rw[ZE h1];simp),ZE fun h'=>h'.elim (fun h'=>h h') (fun h'=>h1 ⟨h'.1,by have:=h'.2.1;omega⟩)]
theorem P.Ym (n:Nat)(c:Ctor)(hs:c.name.size<=1048576):F.f17 n c=some (dec (ZER n c)):=by
 unfold F.f17
 rw[P.Yx _ hs]
 simp only[oE,oS]
 by_cases h1:ZFU c.name
 ·rw[if_pos (ZH h1)]
  by_cases h2:3<c.args.length
  ·rw[if_pos h2,ZE fun h=>by have:=h.2.1;omega]
  by_cases h3:c.index<0
  ·rw[if_neg h2,if_pos h3,ZE fun h=>by have:=h.2.2.1;omega]
  by_cases h4:3<c.index
  ·rw[if_neg h2,if_neg h3,if_pos h4,ZE fun h=>by have:=h.2.2.2.1;omega]
  rw[if_neg h2,if_neg h3,if_neg h4]
  have key:F.f16 n c 0=some (if dec (∀j,0<=j->j<c.args.length->∀h:j<c.args.length,ZBv n c.args[j])=true then .go ()else .ret false):=by
   refine ZHg (n:=c.args.length) (Q:=fun j=>∀h:j<c.args.length,ZBv n c.args[j]) (L:=F.f16 n c) (fun k hk=> ?_) (fun k hk hq=> ?_) (fun k hk hq=> ?_) _ 0 rfl
   ·rw[F.f16,if_neg (by omega)]
   ·rw[F.f16,if_pos hk,gQ hk]
    simp only[oE,oS]
    rw[P.Yf]
    simp only[oS]
    rw[if_pos (ZH (hq hk))]
   ·rw[F.f16,if_pos hk,gQ hk]
    simp only[oE,oS]
    rw[P.Yf]
    simp only[oS]
    rw[if_neg (by rw[ZE fun h=>hq fun _=>h];simp)]
  rw[key]
  simp only[oS]
  by_cases hall:∀j,0<=j->j<c.args.length->∀h:j<c.args.length,ZBv n c.args[j]
  ·rw[if_pos (ZH hall),ZH ⟨h1,by omega,by omega,by omega,fun j h0 hj=>hall j h0 hj hj⟩]
  ·rw[if_neg (by rw[ZE hall];simp),ZE fun h=>hall fun j h0 _ hj=>h.2.2.2.2 j h0 hj]
 ·rw[if_neg (by rw[ZE h1];simp),ZE fun h=>h1 h.1]
theorem P.YAL (t:Ty)(w:List Data)(hw:w.length<=1048576):F.f97 t w=some (!dec (ZBv w.length t)):=by
 unfold F.f97
 rw[P.YAd w t hw];rfl
theorem P.YAe (w:List Data)(hw:w.length<=1048576)(s:List Ty):∃v,F.f99 s w=some v/\(0<=v↔¬∀j,0<=j->(h:j<s.length)->ZBv w.length s[j]):=by
 unfold F.f99
 have key:∀(m k:Nat),s.length-k=m->∃r,F.f98 s w k=some r/\
   match r with| .ret j=>0<=j/\¬∀j,k<=j->(h:j<s.length)->ZBv w.length s[j]| .go _=>∀j,k<=j->(h:j<s.length)->ZBv w.length s[j]:=by
  intro m
  induction m with
  |zero=>
   intro k hm
   rw[F.f98,if_neg (by omega)]
   exact⟨_,rfl,fun j hj h=>by omega⟩
  |succ m ih=>
   intro k hm
   have hk:k<s.length:=by omega
   rw[F.f98,if_pos hk,gQ hk]
   simp only[oE,oS]
   rw[P.YAL _ _ hw]
   simp only[oS]
   by_cases h:ZBv w.length s[k]
   ·rw[if_neg (by rw[ZH h];simp)]
    obtain⟨r,hr,hx⟩:=ih (k+1) (by omega)
    refine⟨r,hr,?_⟩
    cases r with
    |ret j=>exact⟨hx.1,fun hh=>hx.2 fun j hj hl=>hh j (by omega) hl⟩
    |go _=>
     intro j hj hl
     by_cases e:k=j
     ·subst e;exact h
     ·exact hx j (by omega) hl
   ·rw[if_pos (by rw[ZE h];simp)]
    exact⟨_,rfl,by omega,fun hh=>h (hh k (Nat.le_refl _) hk)⟩
 obtain⟨r,hr,hx⟩:=key _ 0 rfl
 rw[hr]
 cases r with
 |ret j=>exact⟨j,rfl,fun _=>hx.2,fun _=>hx.1⟩
 |go _=>exact⟨-1,rfl,fun h=>by omega,fun h=>absurd hx h⟩
theorem P.Yq (w:List Data)(c:Ctor)(hw:w.length<=1048576)(hs:c.name.size<=1048576):F.f101 w c=some (dec (ZER w.length c)):=by
 unfold F.f101
 rw[P.YAF _ hs]
 simp only[oE,oS]
 by_cases h1:ZFU c.name
 ·rw[if_pos (ZH h1)]
  by_cases h2:c.args.length<=3
  ·rw[if_pos h2,P.YL]
   simp only[oS]
   by_cases h3:0<=c.index/\c.index<=3
   ·rw[if_pos (ZH h3)]
    unfold F.f100
    obtain⟨v,hv,hx⟩:=P.YAe w hw c.args
    rw[hv]
    simp only[oE,oS]
    by_cases hall:∀j,0<=j->(h:j<c.args.length)->ZBv w.length c.args[j]
    ·have:¬0<=v:=fun h=>(hx.1 h) hall
     rw[ZH ⟨h1,h2,h3.1,h3.2,hall⟩];simp[this]
    ·have:0<=v:=hx.2 hall
     rw[ZE fun h=>hall h.2.2.2.2];simp[this]
   ·rw[if_neg (by rw[ZE h3];simp),ZE fun h=>h3 ⟨h.2.2.1,h.2.2.2.1⟩]
  ·rw[if_neg h2,ZE fun h=>h2 h.2.1]
 ·rw[if_neg (by rw[ZE h1];simp),ZE fun h=>h1 h.1]
abbrev ZAH (d:Data):List ByteArray:=d.ctors.map (·.name)
structure ctorAt (w:List Data)(i:Nat)(d:Data)(k:Nat)(c:Ctor):Prop where
 ok:ZER w.length c
 new:c.name∉(w.take i).flatMap ZAH++(d.ctors.take k).map (·.name)
structure dataAt (w:List Data)(i:Nat)(d:Data):Prop where
 name:ZE0 d.name
 new:d.name∉(w.take i).map (·.name)
 some:1<=d.ctors.length
 few:d.ctors.length<=4
 ctors:∀k,0<=k->k<d.ctors.length->∀h:k<d.ctors.length,ctorAt w i d k d.ctors[k]
def ZO (w:List Data):Prop:=w.length<=4/\∀i,0<=i->i<w.length->∀h:i<w.length,dataAt w i w[i]
def ZAF (w:List Data):Prop:=w.length<=1048576/\∀d,d∈w->∀c,c∈d.ctors->c.name.size<=1048576
theorem P.Yd (w:List Data)(hw:ZAF w)(met4:List ByteArray)(i:Nat)(hi:i<w.length):F.f102 w met4 i w[i] ((w.take i).flatMap ZAH) 0=
  some (if dec (∀k,0<=k->k<w[i].ctors.length->∀h:k<w[i].ctors.length,ctorAt w i w[i] k w[i].ctors[k])=true then .go ((w.take i).flatMap ZAH++ZAH w[i])else .ret false):=by
 have key:=ZQI (n:=w[i].ctors.length) (r:=false) (p:=(w.take i).flatMap ZAH++ZAH w[i]) (Q:=fun k=>∀h:k<w[i].ctors.length,ctorAt w i w[i] k w[i].ctors[k]) (L:=fun k=>F.f102 w met4 i w[i] ((w.take i).flatMap ZAH++(w[i].ctors.take k).map (·.name)) k)
  (fun k hk=>by
   show F.f102 w met4 i w[i] ((w.take i).flatMap ZAH++(w[i].ctors.take k).map (·.name)) k=_
   rw[F.f102,if_neg (by omega),List.take_of_length_le hk])
  (fun k hk hq=>by
   show F.f102 w met4 i w[i] ((w.take i).flatMap ZAH++(w[i].ctors.take k).map (·.name)) k=F.f102 w met4 i w[i] ((w.take i).flatMap ZAH++(w[i].ctors.take (k+1)).map (·.name)) (k+1)
   have hc:=hq hk
   rw[F.f102,if_pos hk,gQ hk]
   simp only[oE,oS]
   rw[P.Yq w _ hw.1 (hw.2 _ (gM hi) _ (gM hk))]
   simp only[oS]
   rw[if_pos (ZH hc.ok),if_neg (by rw[ZE hc.new];simp),ZCH,if_neg (by rw[ZE hc.new];simp),ZB2 hk,List.append_assoc])
  (fun k hk hq=>by
   show F.f102 w met4 i w[i] ((w.take i).flatMap ZAH++(w[i].ctors.take k).map (·.name)) k=_
   rw[F.f102,if_pos hk,gQ hk]
   simp only[oE,oS]
   rw[P.Yq w _ hw.1 (hw.2 _ (gM hi) _ (gM hk))]
   simp only[oS]
   by_cases h1:ZER w.length w[i].ctors[k]
   ·rw[if_pos (ZH h1),if_pos (ZH ?_)]
    apply Classical.byContradiction
    intro h2
    exact hq fun _=>⟨h1,h2⟩
   ·rw[if_neg (by rw[ZE h1];simp)]) _ 0 rfl
 simpa using key
theorem P.YAI (w:List Data)(hw:ZAF w):F.f103 w [] [] 0=some (if dec (∀i,0<=i->i<w.length->∀h:i<w.length,dataAt w i w[i])=true then .go (w.flatMap ZAH,w.map (·.name))else .ret false):=by
 have key:=ZQI (n:=w.length) (r:=false) (p:=(w.flatMap ZAH,w.map (·.name))) (Q:=fun i=>∀h:i<w.length,dataAt w i w[i]) (L:=fun i=>F.f103 w ((w.take i).flatMap ZAH) ((w.take i).map (·.name)) i)
  (fun i hi=>by
   show F.f103 w ((w.take i).flatMap ZAH) ((w.take i).map (·.name)) i=_
   rw[F.f103,if_neg (by omega),List.take_of_length_le hi])
  (fun i hi hq=>by
   show F.f103 w ((w.take i).flatMap ZAH) ((w.take i).map (·.name)) i=F.f103 w ((w.take (i+1)).flatMap ZAH) ((w.take (i+1)).map (·.name)) (i+1)
   have hd:=hq hi
   have hn:=hd.name
   have hbig:=hn.2.1
   unfold ZNi at hbig
   have:=hw.1
   rw[F.f103,if_pos hi,gQ hi]
   simp only[oE,oS]
   have:=hd.some;have:=hd.few
   rw[if_pos hn.1,if_pos (by have:=hn.1;omega),if_neg (by omega),if_neg (by omega),if_neg (fun h=>hn.2.2 (ZAY.1 h)),if_neg (by rw[ZE hd.new];simp),P.YL]
   simp only[oS]
   rw[if_pos (ZH (by omega)),P.Yd w hw _ i hi,if_pos (ZH hd.ctors)]
   simp only[oS]
   rw[if_pos (by omega),ZCH,if_neg (by rw[ZE hd.new];simp),ZB2 hi,ZCU hi])
  (fun i hi hq=>by
   show F.f103 w ((w.take i).flatMap ZAH) ((w.take i).map (·.name)) i=_
   have:=hw.1
   rw[F.f103,if_pos hi,gQ hi]
   simp only[oE,oS]
   by_cases h1:w[i].name.size=1
   ·rw[if_pos h1,if_pos (by omega)]
    by_cases h2:byteAt w[i].name 0<65
    ·rw[if_pos h2]
    by_cases h3:90<byteAt w[i].name 0
    ·rw[if_neg h2,if_pos h3]
    by_cases h4:w[i].name.toList=(⟨#[73]⟩:ByteArray).toList
    ·rw[if_neg h2,if_neg h3,if_pos h4]
    by_cases h5:w[i].name∈(w.take i).map (·.name)
    ·rw[if_neg h2,if_neg h3,if_neg h4,if_pos (ZH h5)]
    rw[if_neg h2,if_neg h3,if_neg h4,if_neg (by rw[ZE h5];simp),P.YL]
    simp only[oS]
    by_cases h6:1<=(w[i].ctors.length:Int)/\(w[i].ctors.length:Int)<=4
    ·rw[if_pos (ZH h6),P.Yd w hw _ i hi,if_neg (by
      rw[ZE fun hh=>hq fun _=>⟨⟨h1,⟨by omega,by omega⟩,fun e=>h4 (by rw[e])⟩,h5,by omega,by omega,hh⟩];simp)]
     rfl
    ·rw[if_neg (by rw[ZE h6];simp)]
   ·rw[if_neg h1]) _ 0 rfl
 simpa using key
theorem P.Yr (w:List Data)(hw:ZAF w):F.f104 w=some (dec (ZO w)):=by
 unfold F.f104
 by_cases h:4<w.length
 ·rw[if_pos h,ZE fun hh=>by have:=hh.1;omega]
 rw[if_neg h,P.YAI w hw]
 simp only[oE,oS]
 by_cases hall:∀i,0<=i->i<w.length->∀h:i<w.length,dataAt w i w[i]
 ·rw[if_pos (ZH hall),ZH ⟨by omega,hall⟩]
 ·rw[if_neg (by rw[ZE hall];simp),ZE fun hh=>hall hh.2]
theorem P.YAU (w:List Data)(hw:ZAF w)(d k i:Nat)(hd:d<w.length)(hk:k<w[d].ctors.length)(hi:i<d)(hl:w[d].ctors.length<=4)(hli:w[i].ctors.length<=4):F.f18 w d k i 0=
  some (if dec (∀j,0<=j->j<w[i].ctors.length->∀h:j<w[i].ctors.length,w[i].ctors[j].name≠w[d].ctors[k].name)=true then .go ()else .ret true):=by
 have hi':i<w.length:=by omega
 refine ZHg (n:=w[i].ctors.length) (r:=true) (Q:=fun j=>∀h:j<w[i].ctors.length,w[i].ctors[j].name≠w[d].ctors[k].name) (L:=F.f18 w d k i) (fun j hj=> ?_) (fun j hj hq=> ?_) (fun j hj hq=> ?_) _ 0 rfl
 ·rw[F.f18,gQ hi']
  simp only[oE,oS]
  rw[if_neg (by omega)]
 ·rw[F.f18,gQ hi']
  simp only[oE,oS]
  rw[if_pos hj,if_pos (by omega),ZD0 hd]
  simp only[oS]
  rw[if_pos (by omega),gQ hj,ZD0 hk]
  simp only[oS]
  rw[if_neg (fun h=>hq hj (ZAY.1 h)),if_pos (by omega)]
 ·rw[F.f18,gQ hi']
  simp only[oE,oS]
  rw[if_pos hj,if_pos (by omega),ZD0 hd]
  simp only[oS]
  rw[if_pos (by omega),gQ hj,ZD0 hk]
  simp only[oS]
  rw[if_pos (ZAY.2 (Classical.byContradiction fun h=>hq fun _=>h))]
theorem P.YAT (w:List Data)(hw:ZAF w)(d k:Nat)(hd:d<w.length)(hk:k<w[d].ctors.length)(hl:w[d].ctors.length<=4):F.f19 w d k d 0=
  some (if dec (∀j,0<=j->j<k->∀h:j<w[d].ctors.length,w[d].ctors[j].name≠w[d].ctors[k].name)=true then .go ()else .ret true):=by
 refine ZHg (n:=k) (r:=true) (Q:=fun j=>∀h:j<w[d].ctors.length,w[d].ctors[j].name≠w[d].ctors[k].name) (L:=F.f19 w d k d) (fun j hj=> ?_) (fun j hj hq=> ?_) (fun j hj hq=> ?_) _ 0 rfl
 ·rw[F.f19,gQ hd]
  simp only[oE,oS]
  rcases Nat.lt_or_ge j w[d].ctors.length with h|h
  ·rw[if_pos h,if_neg (by omega),if_neg (by omega)]
  ·rw[if_neg (by omega)]
 ·have hj':j<w[d].ctors.length:=Nat.lt_trans hj hk
  rw[F.f19,gQ hd]
  simp only[oE,oS]
  rw[if_pos hj',if_neg (by omega),if_pos (by omega),ZD0 hd]
  simp only[oS]
  rw[if_pos (by omega),gQ hj',ZD0 hk]
  simp only[oS]
  rw[if_neg (fun h=>hq hj' (ZAY.1 h)),if_pos (by omega)]
 ·have hj':j<w[d].ctors.length:=Nat.lt_trans hj hk
  rw[F.f19,gQ hd]
  simp only[oE,oS]
  rw[if_pos hj',if_neg (by omega),if_pos (by omega),ZD0 hd]
  simp only[oS]
  rw[if_pos (by omega),gQ hj',ZD0 hk]
  simp only[oS]
  rw[if_pos (ZAY.2 (Classical.byContradiction fun h=>hq fun _=>h))]
structure fresh (w:List Data)(d k i:Nat)(hd:d<w.length)(hk:k<w[d].ctors.length):Prop where
 data:i<d->∀h:i<w.length,w[i].name≠w[d].name
 ctor:i<d->∀h:i<w.length,∀j,0<=j->j<w[i].ctors.length->∀h:j<w[i].ctors.length,w[i].ctors[j].name≠w[d].ctors[k].name
 own:i=d->∀j,0<=j->j<k->∀h:j<w[d].ctors.length,w[d].ctors[j].name≠w[d].ctors[k].name
theorem P.Yi (w:List Data)(hw:ZAF w)(d k:Nat)(hd:d<w.length)(hk:k<w[d].ctors.length)(hw4:w.length<=4)(hl:∀i,i<=d->∀h:i<w.length,w[i].ctors.length<=4):F.f21 w d k=some (!dec (∀i,0<=i->i<d+1->fresh w d k i hd hk)):=by
 unfold F.f21
 have key:F.f20 w d k 0=some (if dec (∀i,0<=i->i<d+1->fresh w d k i hd hk)=true then .go ()else .ret true):=by
  refine ZHg (n:=d+1) (r:=true) (Q:=fun i=>fresh w d k i hd hk) (L:=F.f20 w d k) (fun i hi=> ?_) (fun i hi hq=> ?_) (fun i hi hq=> ?_) _ 0 rfl
  ·rw[F.f20,if_neg (by omega)]
  ·rw[F.f20,if_pos (by omega)]
   by_cases h:i<d
   ·have hi':i<w.length:=by omega
    rw[if_pos (by omega),gQ hi',ZD0 hd]
    simp only[oE,oS]
    rw[if_neg (fun e=>hq.data h hi' (ZAY.1 e)),P.YAU w hw d k i hd hk h (hl d (Nat.le_refl _) hd) (hl i (by omega) hi'),if_pos (ZH (hq.ctor h hi'))]
    simp only[oS]
    rw[if_pos (by omega)]
   ·obtain rfl:i=d:=by omega
    rw[if_neg (by omega),P.YAT w hw i k hd hk (hl i (Nat.le_refl _) hd),if_pos (ZH (hq.own rfl))]
    simp only[oE,oS]
    rw[if_pos (by omega)]
  ·rw[F.f20,if_pos (by omega)]
   by_cases h:i<d
   ·have hi':i<w.length:=by omega
    rw[if_pos (by omega),gQ hi',ZD0 hd]
    simp only[oE,oS]
    by_cases hn:w[i].name=w[d].name
    ·rw[if_pos (ZAY.2 hn)]
    ·rw[if_neg (fun e=>hn (ZAY.1 e)),P.YAU w hw d k i hd hk h (hl d (Nat.le_refl _) hd) (hl i (by omega) hi'),if_neg (by rw[ZE fun hh=>hq ⟨fun _ _=>hn,fun _ _=>hh,fun e=>by omega⟩];simp)]
     rfl
   ·obtain rfl:i=d:=by omega
    rw[if_neg (by omega),P.YAT w hw i k hd hk (hl i (Nat.le_refl _) hd),if_neg (by rw[ZE fun hh=>hq ⟨fun e=>by omega,fun e=>by omega,fun _=>hh⟩];simp)]
    rfl
 rw[key]
 simp only[oE,oS]
 by_cases hall:∀i,0<=i->i<d+1->fresh w d k i hd hk
 ·rw[if_pos (ZH hall),ZH hall];rfl
 ·rw[if_neg (by rw[ZE hall];simp),ZE hall];rfl
theorem ZDb (w:List Data)(d k:Nat)(hd:d<w.length)(hk:k<w[d].ctors.length):(∀i,0<=i->i<d+1->fresh w d k i hd hk)↔w[d].name∉(w.take d).map (·.name)/\w[d].ctors[k].name∉(w.take d).flatMap ZAH++(w[d].ctors.take k).map (·.name):=by
 constructor
 ·intro h
  refine⟨fun hm=> ?_,fun hm=> ?_⟩
  ·obtain⟨x,hx,e⟩:=List.mem_map.1 hm
   obtain⟨i,hi,rfl⟩:=List.mem_take_iff_getElem.1 hx
   exact(h i (by omega) (by omega)).data (by omega) (by omega) e
  ·rcases List.mem_append.1 hm with hm|hm
   ·obtain⟨x,hx,hc⟩:=List.mem_flatMap.1 hm
    obtain⟨i,hi,rfl⟩:=List.mem_take_iff_getElem.1 hx
    obtain⟨c,hc,e⟩:=List.mem_map.1 hc
    obtain⟨j,hj,rfl⟩:=List.getElem_of_mem hc
    exact(h i (by omega) (by omega)).ctor (by omega) (by omega) j (by omega) hj hj e
   ·obtain⟨c,hc,e⟩:=List.mem_map.1 hm
    obtain⟨j,hj,rfl⟩:=List.mem_take_iff_getElem.1 hc
    exact(h d (by omega) (by omega)).own rfl j (by omega) (by omega) (by omega) e
 ·rintro⟨h1,h2⟩ i _ hi
  refine⟨fun hid hiw e=>h1 (List.mem_map.2 ⟨w[i],List.mem_take_iff_getElem.2 ⟨i,by omega,rfl⟩,e⟩),fun hid hiw j _ hj hj' e=>h2 (List.mem_append_left _ (List.mem_flatMap.2 ⟨w[i],List.mem_take_iff_getElem.2 ⟨i,by omega,rfl⟩,List.mem_map.2 ⟨_,gM hj,e⟩⟩)),fun e j _ hj hj' e=>h2 (List.mem_append_right _ (List.mem_map.2 ⟨_,List.mem_take_iff_getElem.2 ⟨j,by omega,rfl⟩,e⟩))⟩
theorem P.YAG (w:List Data)(hw:ZAF w)(d:Nat)(hd:d<w.length)(hw4:w.length<=4)(hl:∀i,i<=d->∀h:i<w.length,w[i].ctors.length<=4):F.f22 w d 0=
  some (if dec (∀k,0<=k->k<w[d].ctors.length->∀h:k<w[d].ctors.length,w[d].name∉(w.take d).map (·.name)/\ctorAt w d w[d] k w[d].ctors[k])=true then .go ()else .ret false):=by
 have hl0:=hl d (Nat.le_refl _) hd
 refine ZHg (n:=w[d].ctors.length) (r:=false) (Q:=fun k=>∀h:k<w[d].ctors.length,w[d].name∉(w.take d).map (·.name)/\ctorAt w d w[d] k w[d].ctors[k]) (L:=F.f22 w d) (fun k hk=> ?_) (fun k hk hq=> ?_) (fun k hk hq=> ?_) _ 0 rfl
 ·rw[F.f22,gQ hd]
  simp only[oE,oS]
  rw[if_neg (by omega)]
 ·obtain⟨h1,h2⟩:=hq hk
  rw[F.f22,gQ hd]
  simp only[oE,oS]
  rw[if_pos hk,gQ hk]
  simp only[oS]
  rw[P.Ym _ _ (hw.2 _ (gM hd) _ (gM hk))]
  simp only[oS]
  rw[if_pos (ZH h2.ok),P.Yi w hw d k hd hk hw4 hl]
  simp only[oS]
  rw[ZH ((ZDb w d k hd hk).2 ⟨h1,h2.new⟩),if_neg (by simp),if_pos (by omega)]
 ·rw[F.f22,gQ hd]
  simp only[oE,oS]
  rw[if_pos hk,gQ hk]
  simp only[oS]
  rw[P.Ym _ _ (hw.2 _ (gM hd) _ (gM hk))]
  simp only[oS]
  by_cases h1:ZER w.length w[d].ctors[k]
  ·rw[if_pos (ZH h1),P.Yi w hw d k hd hk hw4 hl]
   simp only[oS]
   rw[ZE fun hh=>hq fun _=>⟨((ZDb w d k hd hk).1 hh).1,⟨h1,((ZDb w d k hd hk).1 hh).2⟩⟩,if_pos (by simp)]
  ·rw[if_neg (by rw[ZE h1];simp)]
theorem P.YW (w:List Data)(hw:ZAF w):F.f24 w=some (dec (ZO w)):=by
 unfold F.f24
 by_cases h4:4<w.length
 ·rw[if_pos h4,ZE fun hh=>by have:=hh.1;omega]
 rw[if_neg h4]
 -- the loop runs only on over types that are right
 have key:∀(m d:Nat),w.length-d=m->(∀i,i<d->∀h:i<w.length,w[i].ctors.length<=4)->F.f23 w d=some (if dec (∀i,d<=i->i<w.length->∀h:i<w.length,dataAt w i w[i])=true then .go ()else .ret false):=by
  intro m
  induction m with
  |zero=>
   intro d hm hl
   rw[F.f23,if_neg (by omega),if_pos (ZH fun i h1 h2=>by omega)]
  |succ m ih=>
   intro d hm hl
   have hd:d<w.length:=by omega
   rw[F.f23,if_pos hd,gQ hd]
   simp only[oE,oS]
   rw[P.YAX]
   simp only[oS]
   have no:¬dataAt w d w[d]->¬∀i,d<=i->i<w.length->∀h:i<w.length,dataAt w i w[i]:=fun h hh=>h (hh d (Nat.le_refl _) hd hd)
   by_cases h1:ZE0 w[d].name
   ·rw[if_pos (ZH h1)]
    by_cases h2:w[d].ctors.length=0
    ·rw[if_pos h2,if_neg (by rw[ZE (no fun h=>by have:=h.some;omega)];simp)]
    by_cases h3:4<w[d].ctors.length
    ·rw[if_neg h2,if_pos h3,if_neg (by rw[ZE (no fun h=>by have:=h.few;omega)];simp)]
    have hl':∀i,i<=d->∀h:i<w.length,w[i].ctors.length<=4:=fun i hi h=>by
     by_cases e:i=d
     ·subst e;omega
     ·exact hl i (by omega) h
    rw[if_neg h2,if_neg h3,P.YAG w hw d hd (by omega) hl']
    simp only[oS]
    by_cases hq:∀k,0<=k->k<w[d].ctors.length->∀h:k<w[d].ctors.length,w[d].name∉(w.take d).map (·.name)/\ctorAt w d w[d] k w[d].ctors[k]
    ·have hda:dataAt w d w[d]:=⟨h1,(hq 0 (by omega) (by omega) (by omega)).1,by omega,by omega,fun k a b c=>(hq k a b c).2⟩
     rw[if_pos (ZH hq)]
     simp only
     rw[if_pos (by omega),ih (d+1) (by omega) fun i hi h=>hl' i (by omega) h]
     by_cases hall:∀i,d+1<=i->i<w.length->∀h:i<w.length,dataAt w i w[i]
     ·rw[if_pos (ZH hall),if_pos (ZH fun i a b c=> ?_)]
      by_cases e:i=d
      ·subst e;exact hda
      ·exact hall i (by omega) b c
     ·rw[if_neg (by rw[ZE hall];simp),if_neg (by rw[ZE fun hh=>hall fun i a b c=>hh i (by omega) b c];simp)]
    ·rw[if_neg (by rw[ZE hq];simp)]
     simp only
     rw[if_neg (by rw[ZE (no fun h=>hq fun k a b c=>⟨h.new,h.ctors k a b c⟩)];simp)]
   ·rw[if_neg (by rw[ZE h1];simp),if_neg (by rw[ZE (no fun h=>h1 h.name)];simp)]
 rw[key _ 0 rfl fun i hi=>by omega]
 simp only[oE,oS]
 by_cases hall:∀i,0<=i->i<w.length->∀h:i<w.length,dataAt w i w[i]
 ·rw[if_pos (ZH hall),ZH ⟨by omega,hall⟩]
 ·rw[if_neg (by rw[ZE hall];simp),ZE fun hh=>hall hh.2]
def Zc (w:List Data)(t:Ty):Prop:=ZBv w.length t/\0<=t.index
theorem P.YAi (w:List Data)(t:Ty):F.f157 w t=some (dec (Zc w t)):=by
 unfold F.f157
 rw[P.Yf]
 simp only[oE,oS]
 by_cases h:ZBv w.length t
 ·rw[if_pos (ZH h),←ZAL];congr 1;exact ZS ⟨fun h'=>⟨h,h'⟩,fun h'=>h'.2⟩
 ·rw[if_neg (by rw[ZE h];simp),ZE fun h'=>h h'.1]
theorem P.YAZ (w:List Data)(t:Ty)(hw:w.length<=1048576):F.f105 w t=some (dec (Zc w t)):=by
 unfold F.f105
 by_cases h:eq2 (t.data,t.index) (-1,0)
 ·rw[if_pos (ZH h),ZH ⟨.inl h,by have:=h.2;simp at this;omega⟩]
 rw[if_neg (by rw[ZE h];simp),P.YL,ZF (by omega) (by omega)]
 simp only[oE,oS]
 by_cases h1:0<=t.data/\t.data<=(w.length:Int) -1
 ·rw[if_pos (ZH h1),P.YL]
  simp only[oS]
  congr 1;exact ZS ⟨fun h'=>⟨.inr ⟨h1.1,by omega,by omega,h'.2⟩,h'.1⟩,fun h'=>h'.1.elim (fun h'=>absurd h' h) (fun h2=>⟨h'.2,h2.2.2.2⟩)⟩
 ·rw[if_neg (by rw[ZE h1];simp),ZE fun h'=>h'.1.elim (fun h'=>h h') (fun h'=>h1 ⟨h'.1,by have:=h'.2.1;omega⟩)]
def ZAP (w:List Data)(t:Ty):Prop:=ZO w/\Zc w t
theorem P.Yw (w:List Data)(t:Ty)(hw:ZAF w):F.f158 w t=some (dec (ZAP w t)):=by
 unfold F.f158
 rw[P.YW w hw]
 simp only[oE,oS]
 by_cases h:ZO w
 ·rw[if_pos (ZH h),P.YAi]
  simp only[oS]
  congr 1;exact ZS ⟨fun h'=>⟨h,h'⟩,fun h'=>h'.2⟩
 ·rw[if_neg (by rw[ZE h];simp),ZE fun h'=>h h'.1]
theorem P.Ya (w:List Data)(t:Ty)(hw:ZAF w):F.f106 w t=some (dec (ZAP w t)):=by
 unfold F.f106
 rw[P.Yr w hw]
 simp only[oE,oS]
 by_cases h:ZO w
 ·rw[if_pos (ZH h),P.YAZ w t hw.1]
  simp only[oS]
  congr 1;exact ZS ⟨fun h'=>⟨h,h'⟩,fun h'=>h'.2⟩
 ·rw[if_neg (by rw[ZE h];simp),ZE fun h'=>h h'.1]
theorem ZIv {w:List Data}(h:wtL Data.wt w<=1048576):ZAF w:=by
 refine⟨by have:=ZAb Data.wt w;omega,fun d hd c hc=> ?_⟩
 have h1:=Zg Data.wt hd
 have h2:=Zg Ctor.wt hc
 have e1:d.wt=d.name.size+wtL Ctor.wt d.ctors:=rfl
 have e2:c.wt=c.name.size+wtL Ty.wt c.args:=rfl
 omega
def tOk (w:List Data)(t:Ty):Prop:=t.data= -1∨(0<=t.data/\t.data<w.length)
theorem ZAA {w:List Data}{t:Ty}(h:ZBv w.length t):tOk w t:=h.elim (fun h=>.inl h.1) (fun h=>.inr ⟨h.1,h.2.1⟩)
def ZLA (i:Int)(c:Ctor):Prop:=i=0∨c.index=0∨c.index=i
noncomputable def ZE7 (i:Int):Nat->List Ctor->List Int
 |_,[]=>[]
 |k,c::r=>(if dec (ZLA i c)=true then[(k:Int)]else[])++ZE7 i (k+1) r
theorem ZHG (i:Int):∀(k:Nat) (l:List Ctor),(ZE7 i k l).length<=l.length
 |_,[]=>by simp[ZE7]
 |k,c::r=>by
  have:=ZHG i (k+1) r
  unfold ZE7
  split<;>simp<;>omega
theorem ZHF (i:Int){x:Int}:∀{k:Nat} {l:List Ctor},x∈ZE7 i k l->(k:Int)<=x/\x<k+l.length
 |_,[],h=>by simp[ZE7]at h
 |k,c::r,h=>by
  unfold ZE7 at h
  rcases List.mem_append.1 h with h|h
  ·split at h
   ·simp at h;subst h;simp;omega
   ·simp at h
  ·have:=ZHF i h
   simp;omega
def ZX (w:List Data)(t:Ty):Data:=w.getD t.data.toNat Data.z
noncomputable def ZJ (w:List Data)(t:Ty):List Int:=if t.data= -1 then[]else ZE7 t.index 0 (ZX w t).ctors
def Zb (w:List Data)(t:Ty)(c:Int):Ctor:=(ZX w t).ctors.getD c.toNat Ctor.z
def ZCp (t:Ty)(c:Ctor)(a:Ty):Ty:=if a.index= -1 then⟨a.data,if c.index=0 then t.index else c.index⟩else a
def ZI (w:List Data)(t:Ty)(c:Int):List Ty:=(Zb w t c).args.map (ZCp t (Zb w t c))
theorem ZCo {w:List Data}{t:Ty}(h:tOk w t)(hn:t.data≠-1):at? w t.data=some (ZX w t)/\ZX w t∈w/\∃h:t.data.toNat<w.length,ZX w t=w[t.data.toNat]:=by
 obtain⟨h1,h2⟩:=h.resolve_left hn
 have hlt:t.data.toNat<w.length:=by omega
 unfold at? ZX
 rw[if_pos h1,gQ hlt,List.getD_eq_getElem?_getD,gQ hlt]
 exact⟨rfl,gM hlt,hlt,rfl⟩
theorem Zk {w:List Data}(hw:ZO w){t:Ty}(h:tOk w t)(hn:t.data≠-1):(ZX w t).ctors.length<=4/\∀c,c∈(ZX w t).ctors->ZER w.length c:=by
 obtain⟨_,_,hlt,e⟩:=ZCo h hn
 have hd:=hw.2 t.data.toNat (by omega) hlt hlt
 rw[e]
 refine⟨hd.few,fun c hc=> ?_⟩
 obtain⟨k,hk,rfl⟩:=List.getElem_of_mem hc
 exact(hd.ctors k (by omega) hk hk).ok
theorem P.YAH (w:List Data)(hw:ZO w)(t:Ty)(h:tOk w t)(hn:t.data≠-1):∀(m k:Nat) (out:List Int),(ZX w t).ctors.length-k=m->out.length<=k->k<=(ZX w t).ctors.length->
  F.f41 w t out k=some (out++ZE7 t.index k ((ZX w t).ctors.drop k)):=by
 have h4:=(Zk hw h hn).1
 intro m
 induction m with
 |zero=>
  intro k out hm ho hk
  rw[F.f41,(ZCo h hn).1]
  simp only[oE,oS]
  rw[if_neg (by omega),List.drop_eq_nil_of_le (by omega)];simp[ZE7]
 |succ m ih=>
  intro k out hm ho hk
  have hlt:k<(ZX w t).ctors.length:=by omega
  rw[F.f41,(ZCo h hn).1]
  simp only[oE,oS]
  rw[if_pos hlt,gQ hlt,List.drop_eq_getElem_cons hlt]
  simp only[oS,ZE7]
  have hf:F.f40 (ZX w t).ctors[k] t.index=some (dec (ZLA t.index (ZX w t).ctors[k])):=by
   unfold F.f40
   by_cases h1:(ZX w t).ctors[k].index=0
   ·rw[if_pos h1,ZH (.inr (.inl h1))]
   ·by_cases h2:t.index=0
    ·rw[if_neg h1,if_pos h2,ZH (.inl h2)]
    ·rw[if_neg h1,if_neg h2,←ZAL];congr 1;exact ZS ⟨fun h=>.inr (.inr h),fun h=>h.elim (fun h=>absurd h h2) (fun h=>h.elim (fun h=>absurd h h1) id)⟩
  rw[hf]
  simp only[oS]
  by_cases hfit:ZLA t.index (ZX w t).ctors[k]
  ·rw[if_pos (ZH hfit),if_pos (by omega),if_pos (by omega),ih (k+1) _ (by omega) (by simp;omega) (by omega),if_pos (ZH hfit)];simp
  ·rw[if_neg (by rw[ZE hfit];simp),if_pos (by omega),ih (k+1) _ (by omega) (by omega) (by omega),if_neg (by rw[ZE hfit];simp)];simp
theorem P.YB (w:List Data)(hw:ZO w)(t:Ty)(h:tOk w t):F.f42 w t=some (ZJ w t):=by
 unfold F.f42 ZJ
 by_cases hn:t.data= -1
 ·rw[if_pos hn,if_pos hn]
 ·rw[if_neg hn,if_neg hn,P.YAH w hw t h hn _ 0 [] rfl (by simp) (by omega)];simp
theorem P.YAK (w:List Data)(hw:ZO w)(t:Ty)(h:tOk w t)(hn:t.data≠-1):∀(m k:Nat) (out:List Int),(ZX w t).ctors.length-k=m->out.length<=k->k<=(ZX w t).ctors.length->
  F.f109 t (ZX w t) k out=some (out++ZE7 t.index k ((ZX w t).ctors.drop k)):=by
 have h4:=(Zk hw h hn).1
 intro m
 induction m with
 |zero=>
  intro k out hm ho hk
  rw[F.f109,if_neg (by omega),List.drop_eq_nil_of_le (by omega)];simp[ZE7]
 |succ m ih=>
  intro k out hm ho hk
  have hlt:k<(ZX w t).ctors.length:=by omega
  rw[F.f109,if_pos hlt,gQ hlt,List.drop_eq_getElem_cons hlt]
  simp only[oE,oS,ZE7]
  have yes:ZLA t.index (ZX w t).ctors[k]->(if out.length+1<=67108864 then F.f109 t (ZX w t) (k+1) (out++[(k:Int)])else none)=
    some (out++((if dec (ZLA t.index (ZX w t).ctors[k])=true then[(k:Int)]else[])++ZE7 t.index (k+1) ((ZX w t).ctors.drop (k+1)))):=by
   intro hfit
   rw[if_pos (by omega),ih (k+1) _ (by omega) (by simp;omega) (by omega),if_pos (ZH hfit)];simp
  by_cases h1:t.index=0
  ·rw[if_pos h1];exact yes (.inl h1)
  by_cases h2:(ZX w t).ctors[k].index=0
  ·rw[if_neg h1,if_pos h2];exact yes (.inr (.inl h2))
  by_cases h3:(ZX w t).ctors[k].index=t.index
  ·rw[if_neg h1,if_neg h2,if_pos h3];exact yes (.inr (.inr h3))
  ·have hfit:¬ZLA t.index (ZX w t).ctors[k]:=fun h=>h.elim h1 (fun h=>h.elim h2 h3)
   rw[if_neg h1,if_neg h2,if_neg h3,ih (k+1) _ (by omega) (by omega) (by omega),if_neg (by rw[ZE hfit];simp)];simp
theorem P.YG (w:List Data)(hw:ZO w)(t:Ty)(h:tOk w t):F.f110 w t=some (ZJ w t):=by
 unfold F.f110 ZJ
 by_cases hn:t.data= -1
 ·rw[if_pos hn,if_pos hn]
 ·rw[if_neg hn,if_neg hn,(ZCo h hn).1]
  simp only[oE,oS]
  rw[P.YAK w hw t h hn _ 0 [] rfl (by simp) (by omega)];simp
theorem ZT {w:List Data}{t:Ty}{c:Int}(h:c∈ZJ w t):t.data≠-1/\0<=c/\c<(ZX w t).ctors.length:=by
 unfold ZJ at h
 split at h
 ·cases h
 ·next hn=>
  have:=ZHF t.index h
  exact⟨hn,by omega,by omega⟩
theorem ZBL {w:List Data}{t:Ty}{c:Int}(h:c∈ZJ w t):at? (ZX w t).ctors c=some (Zb w t c)/\Zb w t c∈(ZX w t).ctors:=by
 obtain⟨_,h1,h2⟩:=ZT h
 have hlt:c.toNat<(ZX w t).ctors.length:=by omega
 unfold at? Zb
 rw[if_pos h1,gQ hlt,List.getD_eq_getElem?_getD,gQ hlt]
 exact⟨rfl,gM hlt⟩
theorem ZDj {w:List Data}(hw:ZO w){t:Ty}(ht:tOk w t){c:Int}(h:c∈ZJ w t):(ZI w t c).length<=3/\∀a,a∈ZI w t c->tOk w a:=by
 have hc:=(Zk hw ht (ZT h).1).2 _ (ZBL h).2
 refine⟨by unfold ZI;rw[List.length_map];exact hc.2.1,fun a ha=> ?_⟩
 obtain⟨b,hb,rfl⟩:=List.mem_map.1 ha
 obtain⟨j,hj,rfl⟩:=List.getElem_of_mem hb
 have:=ZAA (hc.2.2.2.2 j (by omega) hj)
 unfold ZCp
 split
 ·exact this
 ·exact this
theorem P.YC (w:List Data)(hw:ZO w)(t:Ty)(ht:tOk w t)(c:Int)(h:c∈ZJ w t):F.f45 w t c=some (ZI w t c):=by
 have hc:=(Zk hw ht (ZT h).1).2 _ (ZBL h).2
 unfold F.f45
 rw[(ZCo ht (ZT h).1).1]
 simp only[oE,oS]
 rw[(ZBL h).1]
 simp only[oS]
 rw[ZBw (L:=F.f44 t (Zb w t c)) (a:=(Zb w t c).args) (g:=ZCp t (Zb w t c)) (f:=fun a=>some (ZCp t (Zb w t c) a)) (fun out i=> ?_) (fun _ _=>rfl) _ 0 [] rfl (by have:=hc.2.1;simp;omega)]
 ·simp[ZI]
 ·rw[F.f44]
  split
  ·cases(Zb w t c).args[i]? with
   |none=>rfl
   |some a=>
    simp only[oE,oS,F.f43,ZCp]
    split
    ·split<;>simp
    ·simp
  ·rfl
theorem P.YJ (w:List Data)(hw:ZO w)(t:Ty)(ht:tOk w t)(c:Int)(h:c∈ZJ w t):F.f116 w t c=some (ZI w t c):=by
 have hc:=(Zk hw ht (ZT h).1).2 _ (ZBL h).2
 unfold F.f116
 rw[(ZCo ht (ZT h).1).1]
 simp only[oE,oS]
 rw[(ZBL h).1]
 simp only[oS]
 by_cases h0:(Zb w t c).index=0
 ·rw[if_pos h0,ZBw (L:=fun out i=>F.f114 t (Zb w t c) i out) (a:=(Zb w t c).args) (g:=ZCp t (Zb w t c)) (f:=fun a=>some (ZCp t (Zb w t c) a)) (fun out i=> ?_) (fun _ _=>rfl) _ 0 [] rfl (by have:=hc.2.1;simp;omega)]
  ·simp[ZI]
  ·show F.f114 t (Zb w t c) i out=_
   rw[F.f114]
   split
   ·cases(Zb w t c).args[i]? with
    |none=>rfl
    |some a=>
     simp only[oE,oS,ZCp]
     split
     ·first|rfl|rw[if_pos h0]
     ·rfl
   ·rfl
 ·rw[if_neg h0,ZBw (L:=fun out i=>F.f115 (Zb w t c) i out) (a:=(Zb w t c).args) (g:=ZCp t (Zb w t c)) (f:=fun a=>some (ZCp t (Zb w t c) a)) (fun out i=> ?_) (fun _ _=>rfl) _ 0 [] rfl (by have:=hc.2.1;simp;omega)]
  ·simp[ZI]
  ·show F.f115 (Zb w t c) i out=_
   rw[F.f115]
   split
   ·cases(Zb w t c).args[i]? with
    |none=>rfl
    |some a=>
     simp only[oE,oS,ZCp]
     split
     ·first|rfl|rw[if_neg h0]
     ·rfl
   ·rfl
theorem P.YAb (l:List Int)(n:Int):F.f65 l n=some (dec (n∈l)):=by
 unfold F.f65
 rw[ZHg (n:=l.length) (r:=true) (Q:=fun j=>∀h:j<l.length,l[j]≠n) (L:=F.f64 l n) (fun k hk=>by rw[F.f64,if_neg (by omega)])
  (fun k hk hq=>by
   rw[F.f64,if_pos hk,gQ hk]
   simp only[oE,oS]
   rw[if_neg (hq hk)])
  (fun k hk hq=>by
   rw[F.f64,if_pos hk,gQ hk]
   simp only[oE,oS]
   rw[if_pos (Classical.byContradiction fun h=>hq fun _=>h)]) _ 0 rfl]
 simp only[oE,oS]
 by_cases hm:n∈l
 ·obtain⟨j,hj,e⟩:=List.getElem_of_mem hm
  rw[if_neg (by rw[ZE fun hh=>hh j (by omega) hj hj e];simp),ZH hm]
 ·rw[if_pos (ZH fun j _ hj h e=>hm (by rw[←e];exact gM h)),ZE hm]
theorem P.YM (l:List Int)(n:Int):F.f113 l n=some (dec (n∈l)):=by
 unfold F.f113 F.f112
 have key:∀(m k:Nat),l.length-k=m->∃r,F.f111 l n k=some r/\match r with| .ret j=>0<=j/\n∈l| .go _=>∀j,k<=j->∀h:j<l.length,l[j]≠n:=by
  intro m
  induction m with
  |zero=>intro k hm;rw[F.f111,if_neg (by omega)];exact⟨_,rfl,fun j h1 h2=>by omega⟩
  |succ m ih=>
   intro k hm
   have hk:k<l.length:=by omega
   rw[F.f111,if_pos hk,gQ hk]
   simp only[oE,oS]
   by_cases h:n=l[k]
   ·rw[if_pos h];exact⟨_,rfl,by omega,h▸gM hk⟩
   ·rw[if_neg h]
    obtain⟨r,hr,hx⟩:=ih (k+1) (by omega)
    refine⟨r,hr,?_⟩
    cases r with
    |ret j=>exact hx
    |go _=>
     intro j hj hl
     by_cases e:k=j
     ·subst e;exact fun e=>h e.symm
     ·exact hx j (by omega) hl
 obtain⟨r,hr,hx⟩:=key _ 0 rfl
 rw[hr]
 cases r with
 |ret j=>
  simp only[oE,oS]
  rw[ZH hx.2];simp[hx.1]
 |go _=>
  simp only[oE,oS]
  rw[ZE fun hm=>by obtain⟨j,hj,e⟩:=List.getElem_of_mem hm;exact hx j (by omega) hj e];simp
def pv (w:List Data)(holes:Bool):Nat->Ty->Value->Prop
 |0,_,_=>False
 |d+1,t,v=>(holes=true/\v.ctor= -2/\v.n=0/\v.kids.length=0)∨(¬(holes=true/\v.ctor= -2)/\
   ((t.data= -1/\v.ctor= -1/\0<=v.n/\v.n<=9/\v.kids.length=0)∨
   (t.data≠-1/\v.n=0/\v.ctor∈ZJ w t/\v.kids.length=(ZI w t v.ctor).length/\
    ∀i,0<=i->i<(ZI w t v.ctor).length->∀(h:i<(ZI w t v.ctor).length) (h':i<v.kids.length),pv w holes d (ZI w t v.ctor)[i] v.kids[i])))
theorem ZIm (v:Value):v.wt=((v.kids.drop 0).map fun k=>1+k.wt).sum:=by
 rw[List.drop_zero,v.wt_eq]
 have:∀l:List Value,(l.map fun k=>1+k.wt).sum=wtL Value.wt l:=by
  intro l
  induction l with
  |nil=>rfl
  |cons a r ih=>simp[ih]
 exact(this _).symm
def ZCV (w:List Data)(holes:Bool)(d:Nat)(t:Ty)(v:Value)(count:Nat)(b:Bool)(c:Nat):Prop:=
 (b=true↔pv w holes d t v/\count+(1+v.wt)<=60)/\(b=true->c=count+(1+v.wt))
theorem P.YAj (w:List Data)(hw:ZO w)(holes:Bool)(d:Nat)(hd:d+1<=10)(v:Value)(args:List Ty)(hl:args.length=v.kids.length)(hargs:∀a,a∈args->tOk w a)
  (L:Int->Nat->Option (Lo (Bool×Int) Int))
  (hL:∀z i,L z i=if i<v.kids.length then v.kids[i]? >>=fun x=>args[i]? >>=fun y=>F.f192 w y x (i64.wrap (((11- (d+1):Nat):Int)+1)) holes z>>=fun r=>if r.1=true then L r.2 (i+1)else some (.ret (false,r.2))else some (.go z))
  (ih:∀(t:Ty) (x:Value) (count:Nat),tOk w t->count<=60->∃b c,F.f192 w t x ((11-d:Nat):Int) holes (count:Int)=some (b,((c:Nat):Int))/\ZCV w holes d t x count b c):
  ∀(m i:Nat) (z:Nat),v.kids.length-i=m->z<=60->∃o,L z i=some o/\
   match o with
   | .ret (b,c)=>b=false/\∃c':Nat,c=(c':Int)/\¬((∀j,i<=j->j<args.length->∀(h:j<args.length) (h':j<v.kids.length),pv w holes d args[j] v.kids[j])/\z+((v.kids.drop i).map fun k=>1+k.wt).sum<=60)
   | .go c=>c=((z+((v.kids.drop i).map fun k=>1+k.wt).sum:Nat):Int)/\(∀j,i<=j->j<args.length->∀(h:j<args.length) (h':j<v.kids.length),pv w holes d args[j] v.kids[j])/\z+((v.kids.drop i).map fun k=>1+k.wt).sum<=60:=by
 intro m
 induction m with
 |zero=>
  intro i z hm hz
  rw[hL,if_neg (by omega)]
  refine⟨_,rfl,?_⟩
  rw[List.drop_eq_nil_of_le (by omega)]
  exact⟨by simp,fun j h1 h2=>by omega,by simpa using hz⟩
 |succ m ihm=>
  intro i z hm hz
  have hi:i<v.kids.length:=by omega
  have hi':i<args.length:=by omega
  rw[hL,if_pos hi,gQ hi,gQ hi',List.drop_eq_getElem_cons hi]
  simp only[oE,oS,List.map_cons,List.sum_cons]
  rw[ZF (by omega) (by omega),show(((11- (d+1):Nat):Int)+1)=((11-d:Nat):Int)from by omega]
  obtain⟨b,c,h1,h2,h3⟩:=ih args[i] v.kids[i] z (hargs _ (gM hi')) hz
  rw[h1]
  simp only[oS]
  cases b with
  |true=>
   rw[if_pos rfl]
   have hc:=h3 rfl
   obtain⟨hp,hle⟩:=h2.1 rfl
   obtain⟨o,g1,g2⟩:=ihm (i+1) c (by omega) (by omega)
   refine⟨o,g1,?_⟩
   cases o with
   |ret r=>
    obtain⟨b',c'⟩:=r
    obtain⟨q1,c2,q2,q3⟩:=g2
    exact⟨q1,c2,q2,fun hh=>q3 ⟨fun j a b e f=>hh.1 j (by omega) b e f,by omega⟩⟩
   |go r=>
    obtain⟨q1,q2,q3⟩:=g2
    refine⟨by rw[q1];congr 1;omega,fun j a b e f=> ?_,by omega⟩
    by_cases hj:i=j
    ·subst hj;exact hp
    ·exact q2 j (by omega) b e f
  |false=>
   rw[if_neg (by simp)]
   refine⟨_,rfl,rfl,c,rfl,fun hh=> ?_⟩
   have:=h2.2 ⟨hh.1 i (Nat.le_refl _) hi' hi' hi,by omega⟩
   cases this
theorem P.YAM (w:List Data)(hw:ZO w)(holes:Bool):∀(d:Nat) (t:Ty) (v:Value) (count:Nat),d<=10->tOk w t->count<=60->
  ∃b c,F.f192 w t v ((11-d:Nat):Int) holes (count:Int)=some (b,((c:Nat):Int))/\ZCV w holes d t v count b c
 |d,t,v,count,hd,ht,hc=>by
  have e1:i64.wrap ((count:Int)+1)=((count+1:Nat):Int):=by rw[ZF (by omega) (by omega)];omega
  have no:∀(h:¬(pv w holes d t v/\count+(1+v.wt)<=60)),∃b c,(some (false,((count+1:Nat):Int)):Option (Bool×Int))=some (b,((c:Nat):Int))/\ZCV w holes d t v count b c:=
   fun h=>⟨false,count+1,rfl,⟨fun h=>(by cases h),fun hh=>absurd hh h⟩,fun h=>by cases h⟩
  rw[F.f192,e1]
  by_cases h60:60<((count+1:Nat):Int)
  ·rw[if_pos h60];exact no fun h=>by omega
  rw[if_neg h60]
  match d,hd with
  |0,_=>
   rw[if_pos (by omega)]
   exact no fun h=>h.1.elim
  |d+1,hd=>
   rw[if_neg (by omega)]
   -- a value without kids
   have leaf:v.kids.length=0->v.wt=0:=by
    intro h
    rw[v.wt_eq,List.length_eq_zero_iff.1 h];rfl
   have yes:∀(p:Prop) [Decidable p],(p->pv w holes (d+1) t v/\v.wt=0)->(pv w holes (d+1) t v->p)->
     ∃b c,(some (decide p,((count+1:Nat):Int)):Option (Bool×Int))=some (b,((c:Nat):Int))/\ZCV w holes (d+1) t v count b c:=by
    intro p _ h1 h2
    refine⟨decide p,count+1,rfl,⟨fun h=> ?_,fun h=>by simpa using h2 h.1⟩,fun h=> ?_⟩
    ·have:=h1 (by simpa using h);exact⟨this.1,by omega⟩
    ·have:=h1 (by simpa using h);omega
   have ints:t.data= -1->¬(holes=true/\v.ctor= -2)->
     ∃b c,(if v.ctor= -1 then(F.f93 v.n 0 9)>>=fun r=>if r=true then some (decide (v.kids.length=0),((count+1:Nat):Int))else some (false,((count+1:Nat):Int))else some (false,((count+1:Nat):Int)))=some (b,((c:Nat):Int))/\ZCV w holes (d+1) t v count b c:=by
    intro h1 hno
    by_cases a1:v.ctor= -1
    ·rw[if_pos a1,P.YL]
     simp only[oE,oS]
     by_cases a2:0<=v.n/\v.n<=9
     ·rw[if_pos (ZH a2)]
      exact yes _ (fun h=>⟨.inr ⟨hno,.inl ⟨h1,a1,a2.1,a2.2,h⟩⟩,leaf h⟩) (fun h=>h.elim (fun h=>h.2.2.2) (fun h=>h.2.elim (fun h=>h.2.2.2.2) (fun h=>absurd h1 h.1)))
     ·rw[if_neg (by rw[ZE a2];simp)]
      exact no fun h=>h.1.elim (fun h=>hno ⟨h.1,h.2.1⟩) (fun h=>h.2.elim (fun h=>a2 ⟨h.2.2.1,h.2.2.2.1⟩) (fun h=>h.1 h1))
    ·rw[if_neg a1]
     exact no fun h=>h.1.elim (fun h=>hno ⟨h.1,h.2.1⟩) (fun h=>h.2.elim (fun h=>a1 h.2.1) (fun h=>h.1 h1))
   -- a value with a constructor
   have ctors:∀(L:List Ty->Int->Nat->Option (Lo (Bool×Int) Int)),(∀a z i,L a z i=if i<v.kids.length then v.kids[i]? >>=fun x=>a[i]? >>=fun y=>F.f192 w y x (i64.wrap (((11- (d+1):Nat):Int)+1)) holes z>>=fun r=>if r.1=true then L a r.2 (i+1)else some (.ret (false,r.2))else some (.go z))->
     ¬(holes=true/\v.ctor= -2)->t.data≠-1->
     ∃b c,(if v.n=0 then(F.f110 w t)>>=fun x=>(F.f113 x v.ctor)>>=fun y=>if y=true then(F.f116 w t v.ctor)>>=fun a=>if a.length=v.kids.length then(L a ((count+1:Nat):Int) 0)>>=fun o=>match o with| .ret r=>some r| .go s=>some (true,s)else some (false,((count+1:Nat):Int))else some (false,((count+1:Nat):Int))else some (false,((count+1:Nat):Int)))=some (b,((c:Nat):Int))/\ZCV w holes (d+1) t v count b c:=by
    intro L hL hno h1
    by_cases h2:v.n=0
    ·rw[if_pos h2,P.YG w hw t ht]
     simp only[oE,oS]
     rw[P.YM]
     simp only[oS]
     by_cases h3:v.ctor∈ZJ w t
     ·rw[if_pos (ZH h3),P.YJ w hw t ht _ h3]
      simp only[oS]
      by_cases h4:(ZI w t v.ctor).length=v.kids.length
      ·rw[if_pos h4]
       obtain⟨o,g1,g2⟩:=P.YAj w hw holes d hd v (ZI w t v.ctor) h4 (ZDj hw ht h3).2 (L (ZI w t v.ctor)) (hL _) (fun t x c ht hc=>P.YAM w hw holes d t x c (by omega) ht hc) _ 0 (count+1) rfl (by omega)
       rw[g1]
       simp only[oS]
       have hwt:=ZIm v
       cases o with
       |ret r=>
        obtain⟨b,c⟩:=r
        obtain⟨rfl,c',rfl,q3⟩:=g2
        refine⟨false,c',rfl,⟨fun h=>(by cases h),fun hh=>absurd ⟨?_,?_⟩ q3⟩,fun h=>by cases h⟩
        ·exact hh.1.elim (fun h=>absurd ⟨h.1,h.2.1⟩ hno) (fun h=>h.2.elim (fun h=>absurd h.1 h1) (fun h=>h.2.2.2.2))
        ·have:=hh.2;omega
       |go c=>
        obtain⟨rfl,q2,q3⟩:=g2
        exact⟨true,_,rfl,⟨fun _=>⟨.inr ⟨hno,.inr ⟨h1,h2,h3,h4.symm,q2⟩⟩,by omega⟩,fun _=>rfl⟩,fun _=>by omega⟩
      ·rw[if_neg h4]
       exact no fun h=>h.1.elim (fun h=>hno ⟨h.1,h.2.1⟩) (fun h=>h.2.elim (fun h=>h1 h.1) (fun h=>h4 h.2.2.2.1.symm))
     ·rw[if_neg (by rw[ZE h3];simp)]
      exact no fun h=>h.1.elim (fun h=>hno ⟨h.1,h.2.1⟩) (fun h=>h.2.elim (fun h=>h1 h.1) (fun h=>h3 h.2.2.1))
    ·rw[if_neg h2]
     exact no fun h=>h.1.elim (fun h=>hno ⟨h.1,h.2.1⟩) (fun h=>h.2.elim (fun h=>h1 h.1) (fun h=>h2 h.2.1))
   by_cases hh:holes=true
   ·rw[if_pos hh]
    by_cases h0:v.ctor= -2
    ·rw[if_pos h0]
     by_cases hn:v.n=0
     ·rw[if_pos hn]
      exact yes _ (fun h=>⟨.inl ⟨hh,h0,hn,h⟩,leaf h⟩) (fun h=>h.elim (fun h=>h.2.2.2) (fun h=>absurd ⟨hh,h0⟩ h.1))
     ·rw[if_neg hn]
      exact no fun h=>h.1.elim (fun h=>hn h.2.2.1) (fun h=>h.1 ⟨hh,h0⟩)
    rw[if_neg h0]
    have hno:¬(holes=true/\v.ctor= -2):=fun h=>h0 h.2
    by_cases h1:t.data= -1
    ·rw[if_pos h1];exact ints h1 hno
    ·rw[if_neg h1]
     exact ctors (fun a=>F.f193 w v ((11- (d+1):Nat):Int) holes a) (fun a z i=>by
      show F.f193 w v ((11- (d+1):Nat):Int) holes a z i=_
      rw[F.f193]) hno h1
   ·rw[if_neg hh]
    have hno:¬(holes=true/\v.ctor= -2):=fun h=>hh h.1
    by_cases h1:t.data= -1
    ·rw[if_pos h1];exact ints h1 hno
    ·rw[if_neg h1]
     exact ctors (fun a=>F.f194 w v ((11- (d+1):Nat):Int) holes a) (fun a z i=>by
      show F.f194 w v ((11- (d+1):Nat):Int) holes a z i=_
      rw[F.f194]) hno h1
termination_by d=>d
def rok (K:Nat)(r:ZD):Prop:=r.f0.length<=2000/\(∀x,x∈r.f0->0<=x/\x<=255)/\0<=r.f1/\r.f1<=(K:Int)
theorem rok.mono {K L:Nat}{r:ZD}(h:rok K r)(hl:K<=L):rok L r:=⟨h.1,h.2.1,h.2.2.1,by have:=h.2.2.2;omega⟩
theorem ZL6 {a b:Int}(ha:0<=a)(hb:0<=b)(ha':a<4611686018427387904)(hb':b<4611686018427387904):0<=ZNk .i64 a b:=by
 unfold ZNk
 obtain⟨m,rfl⟩:=Int.eq_ofNat_of_zero_le ha
 obtain⟨n,rfl⟩:=Int.eq_ofNat_of_zero_le hb
 have hm:m<2^62:=by omega
 have hn:n<2^62:=by omega
 have h:(BitVec.ofInt IntKind.i64.bits (m:Int)^^^BitVec.ofInt IntKind.i64.bits (n:Int)).toNat<2^62:=by
  rw[BitVec.toNat_xor]
  refine Nat.xor_lt_two_pow ?_ ?_
  ·show(BitVec.ofInt 64 (m:Int)).toNat<2^62
   rw[BitVec.toNat_ofInt];omega
  ·show(BitVec.ofInt 64 (n:Int)).toNat<2^62
   rw[BitVec.toNat_ofInt];omega
 rw[ZF (by omega) (by omega)]
 exact Int.natCast_nonneg _
theorem ZET {α:Type}{xs:List α}{i:Int}(h0:0<=i)(h1:i<xs.length):∃x,at? xs i=some x/\x∈xs:=by
 have hi:i.toNat<xs.length:=by omega
 refine⟨xs[i.toNat],?_,gM hi⟩
 unfold at?
 rw[if_pos h0,gQ hi]
theorem P.Yg {K:Nat}{r:ZD}(h:rok K r)(hK:K<=1099511627776)(n:Int):∃v r',F.f1 r n=some (v,r')/\rok (K+1) r'/\0<=v/\(1<=n->v<n)/\(n<1->v=0):=by
 obtain⟨h1,h2,h3,h4⟩:=h
 unfold F.f1
 have e1:i64.wrap (r.f1+1)=r.f1+1:=ZF (by omega) (by omega)
 have e2:i64.wrap (r.f1+1-1)=r.f1:=by rw[ZF (by omega) (by omega)];omega
 have hr':rok (K+1) ⟨r.f0,r.f1+1⟩:=⟨h1,h2,by show 0<=r.f1+1;omega,by show r.f1+1<=((K+1:Nat):Int);omega⟩
 rw[e1,e2]
 by_cases hn:n<1
 ·rw[if_pos hn];exact⟨0,_,rfl,hr',by omega,by omega,fun _=>rfl⟩
 rw[if_neg hn]
 by_cases hl:r.f0.length=0
 ·rw[if_pos hl];exact⟨0,_,rfl,hr',by omega,by omega,fun _=>rfl⟩
 rw[if_neg hl]
 have tm:∀x:Int,0<=x->0<=x.tmod n/\x.tmod n<n:=fun x hx=>⟨Int.tmod_nonneg n hx,Int.tmod_lt_of_pos x (by omega)⟩
 have tl:∀x:Int,0<=x->0<=x.tmod (r.f0.length:Int)/\x.tmod (r.f0.length:Int)<r.f0.length:=fun x hx=>⟨Int.tmod_nonneg _ hx,Int.tmod_lt_of_pos x (by omega)⟩
 by_cases hk:r.f1<(r.f0.length:Int)
 ·rw[if_pos hk]
  obtain⟨x,hx,hm⟩:=ZET h3 hk
  have hb:=h2 x hm
  rw[hx]
  simp only[oE,oS]
  rw[if_pos (by omega),ZF (by omega) (by omega)]
  have:=tm x hb.1
  exact⟨_,_,rfl,hr',this.1,fun _=>this.2,fun h=>by omega⟩
 ·rw[if_neg hk,if_pos (by omega)]
  have e7:i64.wrap (r.f1*7)=r.f1*7:=ZF (by omega) (by omega)
  have e73:i64.wrap (r.f1*7+3)=r.f1*7+3:=ZF (by omega) (by omega)
  rw[e7,e73]
  have t1:=tl r.f1 h3
  have t2:=tl (r.f1*7+3) (by omega)
  obtain⟨x,hx,hm⟩:=ZET t1.1 t1.2
  obtain⟨y,hy,hm'⟩:=ZET t2.1 t2.2
  have hb:=h2 x hm
  have hb':=h2 y hm'
  have hq0:0<=r.f1.tdiv (r.f0.length:Int):=Int.tdiv_nonneg h3 (by omega)
  have hq1:r.f1.tdiv (r.f0.length:Int)<=r.f1:=Int.tdiv_le_self _ h3
  rw[hx,hy]
  simp only[oE,oS]
  rw[if_pos (by omega)]
  generalize r.f1.tdiv (r.f0.length:Int)=q at hq0 hq1 ⊢
  rw[ZF (n:=x) (by omega) (by omega),ZF (n:=y) (by omega) (by omega),ZF (n:=q) (by omega) (by omega),ZF (n:=x*131) (by omega) (by omega),ZF (n:=y*1117) (by omega) (by omega),
   ZF (n:=r.f1*29) (by omega) (by omega),ZF (n:=q*53) (by omega) (by omega),ZF (n:=x*131+y*1117) (by omega) (by omega),ZF (n:=x*131+y*1117+r.f1*29) (by omega) (by omega),
   ZF (n:=x*131+y*1117+r.f1*29+q*53) (by omega) (by omega)]
  have hz0:0<=x*131+y*1117+r.f1*29+q*53:=by omega
  have hz1:x*131+y*1117+r.f1*29+q*53<4611686018427387904:=by omega
  generalize x*131+y*1117+r.f1*29+q*53=z at hz0 hz1 ⊢
  have hd0:0<=z.tdiv 64:=Int.tdiv_nonneg hz0 (by omega)
  have hd1:z.tdiv 64<=z:=Int.tdiv_le_self _ hz0
  rw[ZF (n:=z.tdiv 64) (by omega) (by omega)]
  have:=tm _ (ZL6 hz0 hd0 hz1 (by omega))
  exact⟨_,_,rfl,hr',this.1,fun _=>this.2,fun h=>by omega⟩
theorem P.num {K:Nat}{r:ZD}(h:rok K r)(hK:K<=1099511627776)(l:List Int)(hl:l≠[]):∃v r',F.f54 r l=some (v,r')/\rok (K+1) r'/\v∈l:=by
 unfold F.f54
 obtain⟨v,r',e,h1,h2,h3,_⟩:=P.Yg h hK (l.length:Int)
 have:0<l.length:=List.length_pos_iff.2 hl
 obtain⟨x,hx,hm⟩:=ZET h2 (h3 (by omega))
 rw[e]
 simp only[oE,oS]
 rw[hx]
 exact⟨x,r',rfl,h1,hm⟩
def W0 :List Data:=[⟨⟨#[76]⟩,[⟨⟨#[78,105,108]⟩,[],0⟩,⟨⟨#[67,111,110,115]⟩,[⟨-1,0⟩,⟨0,0⟩],0⟩]⟩]
theorem ZLi :F.f38 ⟨#[76,61,78,105,108,124,67,111,110,115,40,73,44,76,41]⟩=some (W0,true):=E.f38_le 100 _ _ (by kernel_rfl)
theorem ZLh :F.f53 W0=some [1,1,1,1]:=E.f53_le 100 _ _ (by kernel_rfl)
def W1 :List Data:=[⟨⟨#[66]⟩,[⟨⟨#[84,114,117]⟩,[],0⟩,⟨⟨#[70,108,115]⟩,[],0⟩]⟩,⟨⟨#[84]⟩,[⟨⟨#[76,101,97,102]⟩,[],0⟩,⟨⟨#[78,111,100,101]⟩,[⟨1,0⟩,⟨0,0⟩,⟨1,0⟩],0⟩]⟩]
theorem ZLg :F.f38 ⟨#[66,61,84,114,117,124,70,108,115,59,84,61,76,101,97,102,124,78,111,100,101,40,84,44,66,44,84,41]⟩=some (W1,true):=E.f38_le 100 _ _ (by kernel_rfl)
theorem ZLf :F.f53 W1=some [1,1,1,1,1,1,1,1]:=E.f53_le 100 _ _ (by kernel_rfl)
def W2 :List Data:=[⟨⟨#[69]⟩,[⟨⟨#[78,117,109]⟩,[⟨-1,0⟩],1⟩,⟨⟨#[66,111,108]⟩,[⟨1,0⟩],2⟩,⟨⟨#[65,100,100]⟩,[⟨0,1⟩,⟨0,1⟩],1⟩,⟨⟨#[73,102]⟩,[⟨0,2⟩,⟨0,-1⟩,⟨0,-1⟩],0⟩]⟩,⟨⟨#[66]⟩,[⟨⟨#[84,114,117]⟩,[],0⟩,⟨⟨#[70,108,115]⟩,[],0⟩]⟩]
theorem ZLe :F.f38 ⟨#[69,61,78,117,109,40,73,41,58,49,124,66,111,108,40,66,41,58,50,124,65,100,100,40,69,49,44,69,49,41,58,49,124,73,102,40,69,50,44,69,42,44,69,42,41,59,66,61,84,114,117,124,70,108,115]⟩=some (W2,true):=E.f38_le 100 _ _ (by kernel_rfl)
theorem ZLd :F.f53 W2=some [2,2,2,0,1,1,1,1]:=E.f53_le 100 _ _ (by kernel_rfl)
def W3 :List Data:=[⟨⟨#[79]⟩,[⟨⟨#[78,111,110]⟩,[],0⟩,⟨⟨#[83,111,109]⟩,[⟨-1,0⟩],0⟩]⟩,⟨⟨#[80]⟩,[⟨⟨#[80,97,105,114]⟩,[⟨0,0⟩,⟨0,0⟩],0⟩]⟩]
theorem ZLc :F.f38 ⟨#[79,61,78,111,110,124,83,111,109,40,73,41,59,80,61,80,97,105,114,40,79,44,79,41]⟩=some (W3,true):=E.f38_le 100 _ _ (by kernel_rfl)
theorem ZLb :F.f53 W3=some [1,1,1,1,2,2,2,2]:=E.f53_le 100 _ _ (by kernel_rfl)
def W4 :List Data:=[⟨⟨#[86]⟩,[⟨⟨#[69,110,100]⟩,[],1⟩,⟨⟨#[83,111,109,101]⟩,[⟨-1,0⟩,⟨0,1⟩],2⟩,⟨⟨#[84,119,111]⟩,[⟨0,-1⟩],0⟩]⟩]
theorem ZLa :F.f38 ⟨#[86,61,69,110,100,58,49,124,83,111,109,101,40,73,44,86,49,41,58,50,124,84,119,111,40,86,42,41]⟩=some (W4,true):=E.f38_le 100 _ _ (by kernel_rfl)
theorem ZLZ :F.f53 W4=some [1,1,2,0]:=E.f53_le 100 _ _ (by kernel_rfl)
def W5 :List Data:=[⟨⟨#[78]⟩,[⟨⟨#[78,101,118,101,114]⟩,[⟨0,0⟩],0⟩]⟩,⟨⟨#[66]⟩,[⟨⟨#[84,114,117]⟩,[],0⟩,⟨⟨#[70,108,115]⟩,[],0⟩,⟨⟨#[77,97,121]⟩,[⟨0,0⟩],0⟩]⟩]
theorem ZLY :F.f38 ⟨#[78,61,78,101,118,101,114,40,78,41,59,66,61,84,114,117,124,70,108,115,124,77,97,121,40,78,41]⟩=some (W5,true):=E.f38_le 100 _ _ (by kernel_rfl)
theorem ZLX :F.f53 W5=some [0,0,0,0,1,1,1,1]:=E.f53_le 100 _ _ (by kernel_rfl)
def W6 :List Data:=[⟨⟨#[83]⟩,[⟨⟨#[82,101,100]⟩,[],0⟩,⟨⟨#[71,114,101,101,110]⟩,[],0⟩,⟨⟨#[66,108,117,101]⟩,[],0⟩,⟨⟨#[77,105,120]⟩,[⟨0,0⟩,⟨0,0⟩],0⟩]⟩]
theorem ZLW :F.f38 ⟨#[83,61,82,101,100,124,71,114,101,101,110,124,66,108,117,101,124,77,105,120,40,83,44,83,41]⟩=some (W6,true):=E.f38_le 100 _ _ (by kernel_rfl)
theorem ZLV :F.f53 W6=some [1,1,1,1]:=E.f53_le 100 _ _ (by kernel_rfl)
def ZEd :List ByteArray:=[⟨#[76,61,78,105,108,124,67,111,110,115,40,73,44,76,41]⟩,⟨#[66,61,84,114,117,124,70,108,115,59,84,61,76,101,97,102,124,78,111,100,101,40,84,44,66,44,84,41]⟩,⟨#[69,61,78,117,109,40,73,41,58,49,124,66,111,108,40,66,41,58,50,124,65,100,100,40,69,49,44,69,49,41,58,49,124,73,102,40,69,50,44,69,42,44,69,42,41,59,66,61,84,114,117,124,70,108,115]⟩,⟨#[79,61,78,111,110,124,83,111,109,40,73,41,59,80,61,80,97,105,114,40,79,44,79,41]⟩,⟨#[86,61,69,110,100,58,49,124,83,111,109,101,40,73,44,86,49,41,58,50,124,84,119,111,40,86,42,41]⟩,⟨#[78,61,78,101,118,101,114,40,78,41,59,66,61,84,114,117,124,70,108,115,124,77,97,121,40,78,41]⟩,⟨#[83,61,82,101,100,124,71,114,101,101,110,124,66,108,117,101,124,77,105,120,40,83,44,83,41]⟩,ByteArray.empty]
theorem P.YAv :F.f0=some ZEd:=rfl
def ZAh :List (List Data):=[W0,W1,W2,W3,W4,W5,W6]
theorem P.YAu {K:Nat}{r:ZD}(h:rok K r)(hK:K<=1099511627776):∃w r',F.f39 r=some (w,r')/\rok (K+1) r'/\w∈ZAh:=by
 unfold F.f39
 rw[P.YAv]
 simp only[oE,oS]
 obtain⟨v,r',e,h1,h2,h3,_⟩:=P.Yg h hK 7
 have e7:i64.wrap (((8:Nat):Int) -1)=7:=by rw[ZF (by omega) (by omega)];rfl
 have e8:ZEd.length=8:=rfl
 rw[e8,e7,e]
 simp only[oS]
 have h3:=h3 (by omega)
 have hv:v=0∨v=1∨v=2∨v=3∨v=4∨v=5∨v=6:=by omega
 rcases hv with rfl|rfl|rfl|rfl|rfl|rfl|rfl
 ·have:at? ZEd 0=some (⟨#[76,61,78,105,108,124,67,111,110,115,40,73,44,76,41]⟩:ByteArray):=rfl
  rw[this];simp only[oS]
  rw[ZLi]
  exact⟨W0,r',rfl,h1,by simp[ZAh]⟩
 ·have:at? ZEd 1=some (⟨#[66,61,84,114,117,124,70,108,115,59,84,61,76,101,97,102,124,78,111,100,101,40,84,44,66,44,84,41]⟩:ByteArray):=rfl
  rw[this];simp only[oS]
  rw[ZLg]
  exact⟨W1,r',rfl,h1,by simp[ZAh]⟩
 ·have:at? ZEd 2=some (⟨#[69,61,78,117,109,40,73,41,58,49,124,66,111,108,40,66,41,58,50,124,65,100,100,40,69,49,44,69,49,41,58,49,124,73,102,40,69,50,44,69,42,44,69,42,41,59,66,61,84,114,117,124,70,108,115]⟩:ByteArray):=rfl
  rw[this];simp only[oS]
  rw[ZLe]
  exact⟨W2,r',rfl,h1,by simp[ZAh]⟩
 ·have:at? ZEd 3=some (⟨#[79,61,78,111,110,124,83,111,109,40,73,41,59,80,61,80,97,105,114,40,79,44,79,41]⟩:ByteArray):=rfl
  rw[this];simp only[oS]
  rw[ZLc]
  exact⟨W3,r',rfl,h1,by simp[ZAh]⟩
 ·have:at? ZEd 4=some (⟨#[86,61,69,110,100,58,49,124,83,111,109,101,40,73,44,86,49,41,58,50,124,84,119,111,40,86,42,41]⟩:ByteArray):=rfl
  rw[this];simp only[oS]
  rw[ZLa]
  exact⟨W4,r',rfl,h1,by simp[ZAh]⟩
 ·have:at? ZEd 5=some (⟨#[78,61,78,101,118,101,114,40,78,41,59,66,61,84,114,117,124,70,108,115,124,77,97,121,40,78,41]⟩:ByteArray):=rfl
  rw[this];simp only[oS]
  rw[ZLY]
  exact⟨W5,r',rfl,h1,by simp[ZAh]⟩
 ·have:at? ZEd 6=some (⟨#[83,61,82,101,100,124,71,114,101,101,110,124,66,108,117,101,124,77,105,120,40,83,44,83,41]⟩:ByteArray):=rfl
  rw[this];simp only[oS]
  rw[ZLW]
  exact⟨W6,r',rfl,h1,by simp[ZAh]⟩
def ZDi (code:List Int):Prop:=code.length<=maxLen/\∀x,x∈code->0<=x/\x<=255
theorem ZKV {code:List Int}(h:ZDi code)(hl:code.length<=2000):rok 0 ⟨code,0⟩:=⟨hl,h.2,Int.le_refl 0,Int.le_refl 0⟩
theorem ZMI {code:List Int}(h:ZDi code):rok 0 ⟨(code.drop 0).take (2000-0),0⟩:=⟨by simp;omega,fun x hx=>h.2 x (List.mem_of_mem_drop (List.mem_of_mem_take hx)),Int.le_refl 0,Int.le_refl 0⟩
theorem ZBA {w:List Data}(h:w∈ZAh):ZAF w:=by
 simp only[ZAh,List.mem_cons,List.not_mem_nil,or_false]at h
 rcases h with rfl|rfl|rfl|rfl|rfl|rfl|rfl<;>exact ZIv (by decide)
def tIx (w:List Data)(t:Ty):Prop:=t.data= -1∨(0<=t.data/\t.data<w.length/\0<=t.index/\t.index<=3)
theorem tIx.tOk {w:List Data}{t:Ty}(h:tIx w t):tOk w t:=h.imp id fun h=>⟨h.1,h.2.1⟩
def ZBr (T:List Int)(t:Ty):Int:=if t.data= -1 then 1 else T.getD (t.data*4+t.index).toNat 0
def ZBl (T:List Int):Int->List Ty->Int
 |m,[]=>m+1
 |m,a::r=>if ZBr T a=0 then 0 else ZBl T (if m<ZBr T a then ZBr T a else m) r
def ZCd (w:List Data)(T:List Int)(t:Ty)(c:Int):Int:=ZBl T 0 (ZI w t c)
def ZP2 (i:Int)(c:Ctor):Bool:=decide (i=0)||decide (c.index=0)||decide (c.index=i)
def ZNo (w:List Data)(T:List Int):Bool:=decide (T.length=w.length*4)&& T.all (fun x=>decide (0<=x)&& decide (x<=2))&&
 (List.range w.length).all fun d=>(List.range 4).all fun i=>decide (T.getD (d*4+i) 0=0)||
  (List.range (w.getD d Data.z).ctors.length).any fun k=>ZP2 i ((w.getD d Data.z).ctors.getD k Ctor.z)&& decide (ZCd w T ⟨d,i⟩ k=T.getD (d*4+i) 0)
theorem ZLB {i:Int}{c:Ctor}(h:ZP2 i c=true):ZLA i c:=by
 simp only[ZP2,Bool.or_eq_true,decide_eq_true_eq]at h
 rcases h with(h|h)|h
 ·exact .inl h
 ·exact .inr (.inl h)
 ·exact .inr (.inr h)
theorem ZIx {i:Int}:∀{k:Nat} {l:List Ctor} {j:Nat} (hj:j<l.length),ZLA i l[j]->((k+j:Nat):Int)∈ZE7 i k l
 |k,c::r,0,hj,h=>by simp only[ZE7];rw[if_pos (ZH (show ZLA i c from h))];exact List.mem_append_left _ (by simp)
 |k,c::r,j+1,hj,h=>by
  simp only[ZE7]
  refine List.mem_append_right _ ?_
  have:=ZIx (k:=k+1) (l:=r) (j:=j) (by simpa using hj) h
  have e:k+1+j=k+(j+1):=by omega
  rwa[e]at this
structure TOk (w:List Data)(T:List Int):Prop where
 wok:ZO w
 len:T.length=w.length*4
 rng:∀k,0<=T.getD k 0/\T.getD k 0<=2
 has:∀t,tIx w t->t.data≠-1->ZBr T t≠0->∃c,c∈ZJ w t/\ZCd w T t c=ZBr T t
theorem TOk.of {w:List Data}{T:List Int}(hw:ZO w)(h:ZNo w T=true):TOk w T:=by
 simp only[ZNo,Bool.and_eq_true,decide_eq_true_eq]at h
 obtain⟨⟨h1,h2⟩,h3⟩:=h
 refine⟨hw,h1,fun k=> ?_,fun t ht hn hd=> ?_⟩
 ·by_cases hk:k<T.length
  ·rw[List.getD_eq_getElem?_getD,gQ hk]
   have:=List.all_eq_true.1 h2 _ (gM hk)
   simpa using this
  ·rw[List.getD_eq_getElem?_getD,List.getElem?_eq_none (by omega)];simp
 ·obtain⟨q1,q2,q3,q4⟩:=ht.resolve_left hn
  have a1:=List.all_eq_true.1 h3 t.data.toNat (by simp;omega)
  have a2:=List.all_eq_true.1 a1 t.index.toNat (by simp;omega)
  simp only[Bool.or_eq_true,decide_eq_true_eq]at a2
  have e:(t.data*4+t.index).toNat=t.data.toNat*4+t.index.toNat:=by omega
  have ed:ZBr T t=T.getD (t.data.toNat*4+t.index.toNat) 0:=by unfold ZBr;rw[if_neg hn,e]
  have a3:=a2.resolve_left (by rw[←ed];exact hd)
  obtain⟨k,hk,hkk⟩:=List.any_eq_true.1 a3
  simp only[Bool.and_eq_true,decide_eq_true_eq]at hkk
  have et:(⟨(t.data.toNat:Int),(t.index.toNat:Int)⟩:Ty)=t:=by
   obtain⟨d,i⟩:=t
   simp only at q1 q3 ⊢
   rw[Int.toNat_of_nonneg q1,Int.toNat_of_nonneg q3]
  rw[et]at hkk
  have hk':k<(ZX w t).ctors.length:=by simpa[ZX]using hk
  refine⟨(k:Int),?_,by rw[hkk.2,ed]⟩
  unfold ZJ
  rw[if_neg hn]
  have hf:=ZLB hkk.1
  rw[Int.toNat_of_nonneg q3]at hf
  have hg:(w.getD t.data.toNat Data.z).ctors.getD k Ctor.z=(ZX w t).ctors[k]:=by
   unfold ZX at hk' ⊢
   rw[List.getD_eq_getElem?_getD,gQ hk'];rfl
  rw[hg]at hf
  have:=ZIx (k:=0) hk' hf
  rwa[Nat.zero_add]at this
theorem TOk.dep {w:List Data}{T:List Int}(h:TOk w T)(t:Ty):0<=ZBr T t/\ZBr T t<=2:=by
 unfold ZBr;split
 ·omega
 ·exact h.rng _
theorem P.YV {w:List Data}{T:List Int}(h:TOk w T){t:Ty}(ht:tIx w t):F.f47 T t=some (ZBr T t):=by
 unfold F.f47 F.f46 ZBr
 by_cases hn:t.data= -1
 ·rw[if_pos hn,if_pos hn]
 ·obtain⟨q1,q2,q3,q4⟩:=ht.resolve_left hn
  have hw:=h.wok.1
  rw[if_neg hn,if_neg hn,ZF (n:=t.data*4) (by omega) (by omega),ZF (by omega) (by omega)]
  simp only[oE,oS]
  have hl:(t.data*4+t.index).toNat<T.length:=by rw[h.len];omega
  unfold at?
  rw[if_pos (by omega),gQ hl,List.getD_eq_getElem?_getD,gQ hl]
  rfl
theorem ZJ8 {w:List Data}(hw:ZO w){t:Ty}(ht:tIx w t){c:Int}(h:c∈ZJ w t):∀a,a∈ZI w t c->tIx w a:=by
 have hc:=(Zk hw ht.tOk (ZT h).1).2 _ (ZBL h).2
 have hn:=(ZT h).1
 intro a ha
 obtain⟨b,hb,rfl⟩:=List.mem_map.1 ha
 obtain⟨j,hj,rfl⟩:=List.getElem_of_mem hb
 have:=hc.2.2.2.2 j (by omega) hj
 obtain⟨q1,q2,q3,q4⟩:=ht.resolve_left hn
 unfold ZCp
 rcases this with⟨p1,p2⟩|⟨p1,p2,p3,p4⟩
 ·rw[if_neg (by omega)];exact .inl p1
 ·split
  ·next e=>
   refine .inr ⟨p1,p2,?_,?_⟩
   ·show 0<=(if(Zb w t c).index=0 then t.index else(Zb w t c).index)
    split
    ·exact q3
    ·exact hc.2.2.1
   ·show(if(Zb w t c).index=0 then t.index else(Zb w t c).index)<=3
    split
    ·exact q4
    ·exact hc.2.2.2.1
  ·next e=>exact .inr ⟨p1,p2,by omega,p4⟩
theorem ZEq {w:List Data}{T:List Int}(h:TOk w T):∀(l:List Ty) (m:Int),0<=m->m<=2->0<=ZBl T m l/\ZBl T m l<=3/\(ZBl T m l≠0->m+1<=ZBl T m l/\∀a,a∈l->ZBr T a≠0/\ZBr T a+1<=ZBl T m l)
 | [],m,h0,h2=>⟨by simp only[ZBl];omega,by simp only[ZBl];omega,fun _=>⟨by simp only[ZBl];omega,fun a ha=>by cases ha⟩⟩
 |a::r,m,h0,h2=>by
  have hd:=h.dep a
  simp only[ZBl]
  by_cases ha:ZBr T a=0
  ·rw[if_pos ha];exact⟨by omega,by omega,fun h=>absurd rfl h⟩
  ·rw[if_neg ha]
   have hm:∃m',(if m<ZBr T a then ZBr T a else m)=m'/\0<=m'/\m'<=2/\m<=m'/\ZBr T a<=m':=by
    split
    ·exact⟨_,rfl,by omega,by omega,by omega,by omega⟩
    ·exact⟨_,rfl,by omega,by omega,by omega,by omega⟩
   obtain⟨m',e,k0,k2,k3,k4⟩:=hm
   rw[e]
   obtain⟨i1,i2,i3⟩:=ZEq h r m' k0 k2
   refine⟨i1,i2,fun hne=> ?_⟩
   obtain⟨j1,j2⟩:=i3 hne
   refine⟨by omega,fun b hb=> ?_⟩
   rcases List.mem_cons.1 hb with rfl|hb
   ·exact⟨ha,by omega⟩
   ·exact j2 b hb
def mR (n:Int):Lo Int Int:=if n=0 then .ret 0 else .go (n-1)
theorem P.Yu {w:List Data}{T:List Int}(h:TOk w T)(l:List Ty)(hl:∀a,a∈l->tIx w a):∀(n k:Nat) (m:Int),l.length-k=n->0<=m->m<=2->
  F.f48 T l m k=some (mR (ZBl T m (l.drop k))):=by
 intro n
 induction n with
 |zero=>
  intro k m hn h0 h2
  rw[F.f48,if_neg (by omega),List.drop_eq_nil_of_le (by omega)]
  show some (Lo.go m)=some (mR (m+1))
  unfold mR
  rw[if_neg (by omega)];congr 2;omega
 |succ n ih=>
  intro k m hn h0 h2
  have hk:k<l.length:=by omega
  have hd:=h.dep l[k]
  rw[F.f48,if_pos hk,gQ hk]
  simp only[oE,oS]
  rw[P.YV h (hl _ (gM hk)),List.drop_eq_getElem_cons hk]
  simp only[oS,ZBl]
  by_cases ha:ZBr T l[k]=0
  ·rw[if_pos ha,if_pos ha];rfl
  ·rw[if_neg ha,if_neg ha]
   by_cases hm:m<ZBr T l[k]
   ·rw[if_pos hm,if_pos hm,ih _ _ (by omega) (by omega) (by omega)]
   ·rw[if_neg hm,if_neg hm,ih _ _ (by omega) (by omega) (by omega)]
theorem P.YAW {w:List Data}{T:List Int}(h:TOk w T){t:Ty}(ht:tIx w t){c:Int}(hc:c∈ZJ w t):F.f49 w T t c=some (ZCd w T t c):=by
 unfold F.f49
 rw[P.YC w h.wok t ht.tOk c hc]
 simp only[oE,oS]
 rw[P.Yu h _ (ZJ8 h.wok ht hc) _ 0 0 rfl (by omega) (by omega),List.drop_zero]
 simp only[oS]
 have:=ZEq h (ZI w t c) 0 (by omega) (by omega)
 unfold ZCd
 unfold mR
 by_cases h0:ZBl T 0 (ZI w t c)=0
 ·rw[if_pos h0,h0]
 ·rw[if_neg h0]
  show some (i64.wrap (ZBl T 0 (ZI w t c) -1+1))=_
  rw[ZF (by omega) (by omega)];congr 1;omega
def ZCk (w:List Data)(T:List Int)(t:Ty)(depth:Int)(c:Int):Bool:=decide (0<ZCd w T t c)&& (decide (ZCd w T t c<=depth)||decide (ZCd w T t c=ZBr T t))
theorem P.Yt {w:List Data}{T:List Int}(h:TOk w T){t:Ty}(ht:tIx w t)(r:ZD)(depth:Int)(l:List Int)(hl:∀c,c∈l->c∈ZJ w t)(h8:l.length<=4):∀(n k:Nat) (out:List Int),l.length-k=n->out.length<=k->
  F.f55 r w T t depth l out k=some (out++(l.drop k).filter (ZCk w T t depth)):=by
 intro n
 induction n with
 |zero=>intro k out hn ho;rw[F.f55,if_neg (by omega),List.drop_eq_nil_of_le (by omega)];simp
 |succ n ih=>
  intro k out hn ho
  have hk:k<l.length:=by omega
  rw[F.f55,if_pos hk,gQ hk]
  simp only[oE,oS]
  rw[P.YAW h ht (hl _ (gM hk)),List.drop_eq_getElem_cons hk,P.YV h ht]
  simp only[oS]
  have yes:ZCk w T t depth l[k]=true->F.f55 r w T t depth l (out++[l[k]]) (k+1)=some (out++(l[k]::l.drop (k+1)).filter (ZCk w T t depth)):=fun hf=>by
   rw[ih (k+1) _ (by omega) (by simp;omega),List.filter_cons_of_pos hf];simp
  have no:ZCk w T t depth l[k]=false->F.f55 r w T t depth l out (k+1)=some (out++(l[k]::l.drop (k+1)).filter (ZCk w T t depth)):=fun hf=>by
   rw[ih (k+1) _ (by omega) (by omega),List.filter_cons_of_neg (by simp[hf])]
  by_cases h1:0<ZCd w T t l[k]
  ·rw[if_pos h1]
   by_cases h2:ZCd w T t l[k]<=depth
   ·rw[if_pos h2,if_pos (by omega)];exact yes (by simp[ZCk,h1,h2])
   ·rw[if_neg h2]
    by_cases h3:ZCd w T t l[k]=ZBr T t
    ·rw[if_pos h3,if_pos (by omega)];exact yes (by simp only[ZCk,h1,h3];simp[←h3,h1])
    ·rw[if_neg h3];exact no (by simp[ZCk,h2,h3])
  ·rw[if_neg h1];exact no (by simp[ZCk,h1])
theorem ZDJ {w:List Data}(hw:ZO w){t:Ty}(ht:tOk w t):(ZJ w t).length<=4:=by
 unfold ZJ
 split
 ·simp
 ·next hn=>exact Nat.le_trans (ZHG _ _ _) (Zk hw ht hn).1
theorem ZNl (c n:Int)(ks:List Value):(⟨c,n,ks⟩:Value).wt=((ks.map fun k=>1+k.wt).sum):=by
 have:=ZIm ⟨c,n,ks⟩
 simpa using this
theorem P.YAf {w:List Data}{T:List Int}(h:TOk w T):∀(n:Nat) (t:Ty) (depth:Int) (K:Nat) (r:ZD),tIx w t->ZBr T t≠0->ZBr T t<=n->depth<=n->-1000000+n<=depth->n<=12->rok K r->K+4^n<=1099511627776->
  ∃v r',F.f56 r w T t depth=some (v,r')/\rok (K+4^n) r'/\pv w false n t v/\v.wt+1<=4^n/\(t.data≠-1->∀a,a∈ZI w t v.ctor->ZBr T a≠0)
 |0,t,depth,K,r,ht,hd,hdn,_,_,_,_,_=>by have:=h.dep t;omega
 |n+1,t,depth,K,r,ht,hd,hdn,hde,hlo,h12,hr,hK=>by
  have p4:1<=4^n:=Nat.one_le_pow _ _ (by omega)
  have p4':4^ (n+1)=4*4^n:=by rw[Nat.pow_succ];omega
  rw[F.f56]
  by_cases hn:t.data= -1
  ·rw[if_pos hn]
   obtain⟨v,r',e,h1,h2,h3,_⟩:=P.Yg hr (by omega) 10
   have h3:=h3 (by omega)
   rw[e]
   refine⟨_,_,rfl,h1.mono (by omega),?_,?_,fun h=>absurd hn h⟩
   ·exact .inr ⟨by simp,.inl ⟨hn,rfl,h2,by show v<=9;omega,rfl⟩⟩
   ·rw[ZNl];simp;omega
  ·rw[if_neg hn,P.YB w h.wok t ht.tOk]
   simp only[oE,oS]
   rw[P.Yt h ht r depth _ (fun c hc=>hc) (ZDJ h.wok ht.tOk) _ 0 [] rfl (by simp),List.drop_zero,List.nil_append]
   simp only[oS]
   obtain⟨c0,hc0,hm0⟩:=h.has t ht hn hd
   have hdt:=h.dep t
   have hf0:c0∈(ZJ w t).filter (ZCk w T t depth):=List.mem_filter.2 ⟨hc0,by simp only[ZCk,hm0];simp;omega⟩
   have hpos:=List.length_pos_of_mem hf0
   obtain⟨v,r1,e,h1,h2,h3,_⟩:=P.Yg hr (by omega) (((ZJ w t).filter (ZCk w T t depth)).length:Int)
   obtain⟨c,hcx,hcm⟩:=ZET h2 (h3 (by omega))
   rw[e];simp only[oS]
   rw[hcx];simp only[oS]
   obtain⟨hcl,hcf⟩:=List.mem_filter.1 hcm
   simp only[ZCk,Bool.and_eq_true,Bool.or_eq_true,decide_eq_true_eq]at hcf
   rw[P.YC w h.wok t ht.tOk c hcl]
   simp only[oS]
   obtain⟨g1,g2,g3⟩:=ZEq h (ZI w t c) 0 (by omega) (by omega)
   have g3:=g3 (by unfold ZCd at hcf;omega)
   have hal:=(ZDj h.wok ht.tOk hcl).1
   have hax:=ZJ8 h.wok ht hcl
   have hmn:ZCd w T t c<=(n:Int)+1:=by rcases hcf.2 with q|q<;>omega
   have kid:∀a,a∈ZI w t c->∀K r,rok K r->K+4^n<=1099511627776->∃v r',F.f56 r w T a (i64.wrap (depth-1))=some (v,r')/\rok (K+4^n) r'/\pv w false n a v/\v.wt+1<=4^n:=by
    intro a ha K r hr hK
    rw[ZF (by omega) (by omega)]
    obtain⟨q1,q2⟩:=g3.2 a ha
    obtain⟨v,r',e,k1,k2,k3,_⟩:=P.YAf h n a (depth-1) K r (hax a ha) q1 (by unfold ZCd at hmn;omega) (by omega) (by omega) (by omega) hr hK
    exact⟨v,r',e,k1,k2,k3⟩
   have loop:∀(m k:Nat) (z:List Int) (z33:Int) (out:List Value) (K:Nat),(ZI w t c).length-k=m->out.length=k->rok K ⟨z,z33⟩->K+m*4^n<=1099511627776->
     (∀i (hi:i<out.length) (hi':i<(ZI w t c).length),pv w false n (ZI w t c)[i] out[i])->((out.map fun k=>1+k.wt).sum)<=k*4^n->k<=(ZI w t c).length->
     ∃z' z33' out',F.f57 w T depth c (ZI w t c) z z33 out k=some (z',z33',out')/\rok (K+m*4^n) ⟨z',z33'⟩/\out'.length=(ZI w t c).length/\
      (∀i (hi:i<out'.length) (hi':i<(ZI w t c).length),pv w false n (ZI w t c)[i] out'[i])/\((out'.map fun k=>1+k.wt).sum)<=(ZI w t c).length*4^n:=by
    intro m
    induction m with
    |zero=>
     intro k z z33 out K hm ho hr hK hp hs hk
     rw[F.f57,if_neg (by omega)]
     have:k=(ZI w t c).length:=by omega
     subst this
     exact⟨z,z33,out,rfl,by simpa using hr,ho,hp,hs⟩
    |succ m ih=>
     intro k z z33 out K hm ho hr hK hp hs hkl
     have hk:k<(ZI w t c).length:=by omega
     rw[F.f57,if_pos hk,gQ hk]
     simp only[oE,oS]
     have e1:(m+1)*4^n=m*4^n+4^n:=by rw[Nat.succ_mul]
     obtain⟨v,r',e,k1,k2,k3⟩:=kid _ (gM hk) K ⟨z,z33⟩ hr (by omega)
     rw[e];simp only[oS]
     rw[if_pos (by omega)]
     have e2:(k+1)*4^n=k*4^n+4^n:=by rw[Nat.succ_mul]
     have key:=fun p1 p2=>ih (k+1) r'.f0 r'.f1 (out++[v]) (K+4^n) (by omega) (by simp[ho]) k1 (by omega) p1 p2 hk
     obtain⟨z',z33',out',q1,q2,q3⟩:=key (by
      intro i hi hi'
      by_cases hik:i<out.length
      ·rw[List.getElem_append_left hik];exact hp i hik hi'
      ·have:i=k:=by simp at hi;omega
       subst this
       rw[List.getElem_append_right (by omega)]
       simpa using k2) (by
      simp only[List.map_append,List.sum_append,List.map_cons,List.map_nil,List.sum_cons,List.sum_nil];omega)
     exact⟨z',z33',out',q1,q2.mono (by omega),q3⟩
   have m3:(ZI w t c).length*4^n<=3*4^n:=Nat.mul_le_mul_right _ hal
   obtain⟨z',z33',out',q1,q2,q3,q4,q5⟩:=loop _ 0 r1.f0 r1.f1 [] (K+1) rfl rfl h1 (by simp only[Nat.sub_zero];omega) (fun i hi=>by simp at hi) (by simp) (by omega)
   rw[q1];simp only[oS]
   refine⟨_,_,rfl,q2.mono (by simp only[Nat.sub_zero];omega),?_,?_,fun _ a ha=>(g3.2 a ha).1⟩
   ·refine .inr ⟨by simp,.inr ⟨hn,rfl,hcl,q3,fun i _ _ hi hi'=>q4 i hi' hi⟩⟩
   ·rw[ZNl];omega
theorem P.YAr {w:List Data}{T:List Int}(h:TOk w T)(n:Nat)(t:Ty)(depth:Int)(K:Nat)(r:ZD)(a1:tIx w t)(a2:ZBr T t≠0)(a3:ZBr T t<=n)(a4:depth<=n)(a5: -1000000+n<=depth)(a6:n<=12)(a7:rok K r)(a8:K+4^n<=1099511627776):
  ∃v r',F.f56 r w T t depth=some (v,r')/\rok (K+4^n) r'/\pv w false n t v/\v.wt+1<=4^n:=by
 obtain⟨v,r',e,k1,k2,k3,_⟩:=P.YAf h n t depth K r a1 a2 a3 a4 a5 a6 a7 a8
 exact⟨v,r',e,k1,k2,k3⟩
theorem ZKM {w:List Data}(hw:w∈ZAh):ZO w/\1<=w.length/\w.length<=2/\ZAF w/\∃T,F.f53 w=some T/\TOk w T:=by
 have hs:=ZBA hw
 have wok:F.f24 w=some true->ZO w:=fun h=>by rw[P.YW w hs]at h;exact Zs.1 (Option.some.inj h)
 simp only[ZAh,List.mem_cons,List.not_mem_nil,or_false]at hw
 rcases hw with rfl|rfl|rfl|rfl|rfl|rfl|rfl
 ·have:=wok (E.f24_le 100 _ _ (by kernel_rfl));exact⟨this,by decide,by decide,hs,_,ZLh,TOk.of this (by decide)⟩
 ·have:=wok (E.f24_le 100 _ _ (by kernel_rfl));exact⟨this,by decide,by decide,hs,_,ZLf,TOk.of this (by decide)⟩
 ·have:=wok (E.f24_le 100 _ _ (by kernel_rfl));exact⟨this,by decide,by decide,hs,_,ZLd,TOk.of this (by decide)⟩
 ·have:=wok (E.f24_le 100 _ _ (by kernel_rfl));exact⟨this,by decide,by decide,hs,_,ZLb,TOk.of this (by decide)⟩
 ·have:=wok (E.f24_le 100 _ _ (by kernel_rfl));exact⟨this,by decide,by decide,hs,_,ZLZ,TOk.of this (by decide)⟩
 ·have:=wok (E.f24_le 100 _ _ (by kernel_rfl));exact⟨this,by decide,by decide,hs,_,ZLX,TOk.of this (by decide)⟩
 ·have:=wok (E.f24_le 100 _ _ (by kernel_rfl));exact⟨this,by decide,by decide,hs,_,ZLV,TOk.of this (by decide)⟩
theorem P.YAq {K:Nat}{r:ZD}(h:rok K r)(hK:K+300<=1099511627776):∃w t v r' T,F.f58 r=some (w,t,v,r')/\rok (K+300) r'/\w∈ZAh/\F.f53 w=some T/\TOk w T/\tIx w t/\t.index<=2/\0<=t.index/\ZBr T t≠0/\pv w false 4 t v/\v.wt+1<=256/\(t.data= -1->t.index=0):=by
 unfold F.f58
 obtain⟨w,r1,e1,h1,hw⟩:=P.YAu h (by omega)
 obtain⟨hwo,hl1,hl2,hs,T,hT,hTo⟩:=ZKM hw
 obtain⟨p,r2,e2,h2,p0,p1,_⟩:=P.Yg h1 (by omega) (w.length:Int)
 obtain⟨i,r3,e3,h3,hi⟩:=P.num h2 (by omega) [0,0,1,2] (by simp)
 obtain⟨d,r4,e4,h4,hd⟩:=P.num h3 (by omega) [3,2,4,1] (by simp)
 have hi:0<=i/\i<=2:=by simp at hi;omega
 have hd:1<=d/\d<=4:=by simp at hd;omega
 have p1:=p1 (by omega)
 have ht:tIx w ⟨p,i⟩:=.inr ⟨p0,p1,hi.1,by show i<=3;omega⟩
 rw[e1];simp only[oE,oS]
 rw[hT];simp only[oS]
 rw[e2];simp only[oS]
 rw[e3];simp only[oS]
 rw[P.YV hTo ht,e4];simp only[oS]
 split
 ·obtain⟨v,r',e,k1,k2,k3⟩:=P.YAr hTo 4 ⟨-1,0⟩ d _ r4 (.inl rfl) (by simp[ZBr]) (by simp[ZBr]) (by omega) (by omega) (by omega) h4 (by omega)
  rw[e]
  exact⟨w,⟨-1,0⟩,v,r',T,rfl,k1.mono (by omega),hw,hT,hTo,.inl rfl,by simp,by simp,by simp[ZBr],k2,k3,fun _=>rfl⟩
 ·next hne=>
  have:=hTo.dep ⟨p,i⟩
  obtain⟨v,r',e,k1,k2,k3⟩:=P.YAr hTo 4 ⟨p,i⟩ d _ r4 ht hne (by omega) (by omega) (by omega) (by omega) h4 (by omega)
  rw[e]
  exact⟨w,⟨p,i⟩,v,r',T,rfl,k1.mono (by omega),hw,hT,hTo,ht,hi.2,hi.1,hne,k2,k3,fun hh=>by have:p= -1:=hh;omega⟩
theorem ZJk {v k:Value}(h:k∈v.kids):1+k.wt<=v.wt:=by rw[v.wt_eq];exact Zg Value.wt h
theorem Value.ext' {a b:Value}(h1:a.ctor=b.ctor)(h2:a.n=b.n)(h3:a.kids=b.kids):a=b:=by
 cases a;cases b;simp only at h1 h2 h3;subst h1;subst h2;subst h3;rfl
theorem P.YAE :∀(n:Nat) (a b:Value),a.wt<=n->F.f202 a b=some (dec (a=b)):=by
 intro n
 induction n using Nat.strongRecOn with
 |_ n ih=>
  intro a b hn
  rw[F.f202]
  by_cases h1:a.ctor=b.ctor
  ·by_cases h2:a.n=b.n
   ·rw[if_pos h1,if_pos h2,F.f203]
    by_cases h3:a.kids.length=b.kids.length
    ·rw[if_pos h3,ZHg (n:=a.kids.length) (r:=false) (Q:=fun i=>∀(h:i<a.kids.length) (h':i<b.kids.length),a.kids[i]=b.kids[i]) (L:=F.f204 a.kids b.kids)
      (fun k hk=>by rw[F.f204,if_neg (by omega)])
      (fun k hk hq=>by
       have hk':k<b.kids.length:=by omega
       rw[F.f204,if_pos hk,gQ hk,gQ hk']
       simp only[oE,oS]
       have:=ZJk (gM hk)
       rw[ih (a.kids[k]).wt (by omega) _ _ (Nat.le_refl _)]
       simp only[oS]
       rw[if_pos (ZH (hq hk hk'))])
      (fun k hk hq=>by
       have hk':k<b.kids.length:=by omega
       rw[F.f204,if_pos hk,gQ hk,gQ hk']
       simp only[oE,oS]
       have:=ZJk (gM hk)
       rw[ih (a.kids[k]).wt (by omega) _ _ (Nat.le_refl _)]
       simp only[oS]
       rw[if_neg (by rw[ZE fun h=>hq fun _ _=>h];simp)]) _ 0 rfl]
     simp only[oE,oS]
     by_cases hall:∀j,0<=j->j<a.kids.length->∀(h:j<a.kids.length) (h':j<b.kids.length),a.kids[j]=b.kids[j]
     ·rw[if_pos (ZH hall)]
      simp only[oS]
      rw[ZH (Value.ext' h1 h2 (List.ext_getElem h3 fun i hi hi'=>hall i (by omega) hi hi hi'))]
     ·rw[if_neg (by rw[ZE hall];simp)]
      simp only[oS]
      rw[ZE fun e=>hall fun j _ _ _ _=>by subst e;rfl]
    ·rw[if_neg h3]
     simp only[oE,oS]
     rw[ZE fun h=>h3 (by rw[h])]
   ·rw[if_pos h1,if_neg h2,ZE fun h=>h2 (by rw[h])]
  ·rw[if_neg h1,ZE fun h=>h1 (by rw[h])]
noncomputable def ZDz (l:List VarType)(n:Int):Int:=match ZF4 (fun x=>x.var=n) 0 l with
 |some j=>(j:Int)
 |none=> -1
theorem P.YZ (l:List VarType)(n:Int):F.f79 l n=some (ZDz l n):=by
 unfold F.f79 ZDz
 rw[ZLC (a:=l) (p:=fun x=>x.var=n) (L:=F.f78 l n) (fun k hk=>by rw[F.f78,if_neg (by omega)])
  (fun k hk hp=>by rw[F.f78,if_pos hk,gQ hk];simp only[oE,oS];rw[if_neg hp])
  (fun k hk hp=>by rw[F.f78,if_pos hk,gQ hk];simp only[oE,oS];rw[if_pos hp]) _ 0 rfl,List.drop_zero]
 cases ZF4 (fun x=>x.var=n) 0 l<;>rfl
theorem ZDc (l:List VarType)(n:Int):ZDz l n= -1∨∃(j:Nat) (h:j<l.length),ZDz l n=(j:Int)/\l[j].var=n/\∀i (hi:i<l.length),i<j->l[i].var≠n:=by
 unfold ZDz
 cases h:ZF4 (fun x:VarType=>x.var=n) 0 l with
 |none=>exact .inl rfl
 |some j=>
  obtain⟨_,h2,h3,h4⟩:=ZAs h
  exact .inr ⟨j,h2,rfl,h3,h4⟩
theorem ZEM (l:List VarType)(j:Nat)(hj:j<l.length):ZDz l l[j].var=(j:Int)↔∀i (hi:i<l.length),i<j->l[i].var≠l[j].var:=by
 constructor
 ·intro h
  rcases ZDc l l[j].var with q|⟨k,hk,q1,q2,q3⟩
  ·omega
  ·have:k=j:=by omega
   subst this;exact q3
 ·intro h
  unfold ZDz
  cases hf:ZF4 (fun x:VarType=>x.var=l[j].var) 0 l with
  |none=>exact absurd rfl (ZAt hf l[j] (gM hj))
  |some k=>
   obtain⟨_,h2,h3,h4⟩:=ZAs hf
   show(k:Int)=j
   have:¬k<j:=fun hlt=>h k h2 hlt h3
   have:¬j<k:=fun hlt=>h4 j hj (by omega) rfl
   omega
theorem P.YAz (v:Int):F.f108 v=some (dec (0<=v/\v<=5)):=by
 unfold F.f108;rw[P.YL];rfl
theorem ZEV {w:List Data}(hw:ZO w){t:Ty}(ht:Zc w t){c:Int}(h:c∈ZJ w t):∀a,a∈ZI w t c->Zc w a:=by
 have hc:=(Zk hw (ZAA ht.1) (ZT h).1).2 _ (ZBL h).2
 have hn:=(ZT h).1
 intro a ha
 obtain⟨b,hb,rfl⟩:=List.mem_map.1 ha
 obtain⟨j,hj,rfl⟩:=List.getElem_of_mem hb
 have:=hc.2.2.2.2 j (by omega) hj
 have ht2:=ht.2
 rcases ht.1 with q|⟨q1,q2,q3,q4⟩
 ·exact absurd q.1 hn
 unfold ZCp
 rcases this with⟨p1,p2⟩|⟨p1,p2,p3,p4⟩
 ·rw[if_neg (by omega)];exact⟨.inl ⟨p1,p2⟩,by omega⟩
 ·split
  ·next e=>
   have hx:0<=(if(Zb w t c).index=0 then t.index else(Zb w t c).index)/\(if(Zb w t c).index=0 then t.index else(Zb w t c).index)<=3:=by
    split
    ·exact⟨ht2,q4⟩
    ·exact⟨hc.2.2.1,hc.2.2.2.1⟩
   exact⟨.inr ⟨p1,p2,by show -1<=(if(Zb w t c).index=0 then t.index else(Zb w t c).index);omega,hx.2⟩,hx.1⟩
  ·next e=>exact⟨.inr ⟨p1,p2,p3,p4⟩,by omega⟩
def ZAW (w:List Data)(t:Ty)(p:Pattern):Prop:=
 (p.op=1/\p.var=0/\p.n=0/\p.m=0/\p.ctor=0)∨
 (p.op=2/\0<=p.var/\p.var<=5/\p.n=0/\p.m=0/\p.ctor=0)∨
 (p.op=3/\p.var=0/\p.ctor=0/\t.data= -1/\0<=p.n/\p.n<=p.m/\p.m<=9)∨
 (p.op=4/\p.var=0/\p.n=0/\p.m=0/\p.ctor∈ZJ w t)∨
 (p.op=5/\p.var=0/\p.n=0/\p.m=0/\p.ctor=0)∨
 (p.op=6/\0<=p.var/\p.var<=5/\p.n=0/\p.m=0/\p.ctor=0)
noncomputable def ZG (w:List Data)(t:Ty)(p:Pattern):List Ty:=if p.op=4 then ZI w t p.ctor else if p.op=5 then[t,t]else if p.op=6 then[t]else[]
theorem P.YAa (w:List Data)(hw:ZO w)(t:Ty)(ht:tOk w t)(p:Pattern):F.f66 w t p=some (dec (ZAW w t p)):=by
 unfold F.f66
 rw[P.YB w hw t ht]
 simp only[oE,oS,P.YAb]
 have yes:ZAW w t p->some true=some (dec (ZAW w t p)):=fun h=>by rw[ZH h]
 have no:¬ZAW w t p->some false=some (dec (ZAW w t p)):=fun h=>by rw[ZE h]
 repeat' split
 all_goals first
  |(refine no fun h=> ?_;unfold ZAW at h;omega)
  |(refine yes ?_;unfold ZAW;omega)
  |skip
 ·rw[←ZAL];congr 1;refine ZS ?_;unfold ZAW;omega
 ·congr 1;refine ZS ⟨fun h=>.inr (.inr (.inr (.inl ⟨by assumption,by assumption,by assumption,by assumption,h⟩))),fun h=> ?_⟩
  unfold ZAW at h
  rcases h with h|h|h|h|h|h
  ·omega
  ·omega
  ·omega
  ·exact h.2.2.2.2
  ·omega
  ·omega
theorem P.YT (w:List Data)(hw:ZO w)(t:Ty)(ht:tOk w t)(p:Pattern)(h:ZAW w t p):F.f69 w t p=some (ZG w t p):=by
 unfold F.f69 ZG
 by_cases h4:p.op=4
 ·rw[if_pos h4,if_pos h4]
  have hc:p.ctor∈ZJ w t:=by
   unfold ZAW at h
   rcases h with h|h|h|h|h|h
   ·omega
   ·omega
   ·omega
   ·exact h.2.2.2.2
   ·omega
   ·omega
  rw[P.YC w hw t ht _ hc];rfl
 ·rw[if_neg h4,if_neg h4]
  have k:F.f67 p.op=some (if p.op=5 then 2 else if p.op=6 then 1 else 0):=by
   unfold F.f67;split
   ·rfl
   ·split
    ·rfl
    ·rfl
  by_cases h5:p.op=5
  ·rw[if_pos h5]
   rw[if_pos h5]at k
   rw[F.f68,k]
   simp only[oE,oS]
   rw[if_pos (by omega),if_pos (by simp),if_pos (by omega),F.f68,k]
   simp only[oE,oS]
   rw[if_pos (by omega),if_pos (by simp),if_pos (by omega),F.f68,k]
   simp only[oE,oS]
   rw[if_neg (by omega)];simp
  ·rw[if_neg h5]
   rw[if_neg h5]at k
   by_cases h6:p.op=6
   ·rw[if_pos h6]
    rw[if_pos h6]at k
    rw[F.f68,k]
    simp only[oE,oS]
    rw[if_pos (by omega),if_pos (by simp),if_pos (by omega),F.f68,k]
    simp only[oE,oS]
    rw[if_neg (by omega)];simp
   ·rw[if_neg h6]
    rw[if_neg h6]at k
    rw[F.f68,k]
    simp only[oE,oS]
    rw[if_neg (by omega)];simp
theorem ZAC {w:List Data}(hw:ZO w){t:Ty}(ht:Zc w t){p:Pattern}(h:ZAW w t p):∀a,a∈ZG w t p->Zc w a:=by
 unfold ZG
 intro a ha
 split at ha
 ·next h4=>
  have hc:p.ctor∈ZJ w t:=by
   unfold ZAW at h
   rcases h with h|h|h|h|h|h
   ·omega
   ·omega
   ·omega
   ·exact h.2.2.2.2
   ·omega
   ·omega
  exact ZEV hw ht hc a ha
 ·split at ha
  ·simp at ha;subst ha;exact ht
  ·split at ha
   ·simp at ha;subst ha;exact ht
   ·cases ha
theorem P.YAm (p:Pattern)(c n v:Bool)(k:Int):F.f107 p c n v k=some (dec ((c=true∨p.ctor=0)/\(n=true∨(p.n=0/\p.m=0))/\(v=true∨p.var=0)/\(p.kids.length:Int)=k)):=by
 unfold F.f107
 cases c<;>cases n<;>cases v<;>simp only[Bool.false_eq_true,if_true,if_false,false_or,true_or,true_and]
 all_goals(repeat' split)
 all_goals first
  |(rw[←ZAL];done)
  |(rw[←ZAL];congr 1;refine ZS ?_;omega)
  |(rw[ZE];omega)
theorem P.YAC (w:List Data)(hw:ZO w)(t:Ty)(ht:tOk w t)(p:Pattern):
  ∃ts,F.f117 w t p=some (ts,dec (ZAW w t p/\p.kids.length=(ZG w t p).length))/\(ZAW w t p->ts=ZG w t p):=by
 unfold F.f117
 simp only[P.YAm,P.YAz,P.YG w hw t ht,P.YM,oE,oS,Zs]
 by_cases h1:p.op=1
 ·rw[if_pos h1]
  have e:ZG w t p=[]:=by unfold ZG;rw[if_neg (by omega),if_neg (by omega),if_neg (by omega)]
  rw[e]
  refine⟨[],?_,fun _=>rfl⟩
  congr 2;refine ZS ?_;unfold ZAW;simp only[Bool.false_eq_true,false_or,List.length_nil];omega
 rw[if_neg h1]
 by_cases h2:p.op=2
 ·rw[if_pos h2]
  have e:ZG w t p=[]:=by unfold ZG;rw[if_neg (by omega),if_neg (by omega),if_neg (by omega)]
  rw[e]
  refine⟨[],?_,fun _=>rfl⟩
  split
  ·next hh=>
   simp only[Bool.false_eq_true,false_or,true_or,true_and]at hh
   congr 2;refine ZS ?_;unfold ZAW;simp only[List.length_nil,List.length_cons];omega
  ·next hh=>
   simp only[Bool.false_eq_true,false_or,true_or,true_and]at hh
   rw[ZE];unfold ZAW;simp only[List.length_nil,List.length_cons];omega
 rw[if_neg h2]
 by_cases h3:p.op=3
 ·rw[if_pos h3]
  have e:ZG w t p=[]:=by unfold ZG;rw[if_neg (by omega),if_neg (by omega),if_neg (by omega)]
  rw[e]
  refine⟨[],?_,fun _=>rfl⟩
  simp only[Bool.false_eq_true,false_or,true_or,true_and,List.length_nil]
  repeat' split
  all_goals first
   |(rw[←ZAL];congr 2;refine ZS ?_;unfold ZAW;omega)
   |(rw[ZE];unfold ZAW;omega)
 rw[if_neg h3]
 by_cases h4:p.op=4
 ·rw[if_pos h4]
  have e:ZG w t p=ZI w t p.ctor:=by unfold ZG;rw[if_pos h4]
  rw[e]
  by_cases hc:p.ctor∈ZJ w t
  ·rw[if_pos hc,P.YJ w hw t ht _ hc]
   simp only[oS]
   refine⟨ZI w t p.ctor,?_,fun _=>rfl⟩
   congr 2;refine ZS ⟨fun h=>⟨.inr (.inr (.inr (.inl ⟨h4,?_,?_,?_,hc⟩))),?_⟩,fun h=> ?_⟩
   ·simp at h;exact h.2.1
   ·simp at h;exact h.1.1
   ·simp at h;exact h.1.2
   ·simp at h;omega
   ·obtain⟨h,hl⟩:=h
    unfold ZAW at h
    rcases h with h|h|h|h|h|h
    ·omega
    ·omega
    ·omega
    ·exact⟨.inl trivial,.inr ⟨h.2.2.1,h.2.2.2.1⟩,.inr h.2.1,by omega⟩
    ·omega
    ·omega
  ·rw[if_neg hc]
   have hn:¬ZAW w t p:=by
    intro h
    unfold ZAW at h
    rcases h with h|h|h|h|h|h
    ·omega
    ·omega
    ·omega
    ·exact hc h.2.2.2.2
    ·omega
    ·omega
   exact⟨[],by rw[ZE fun h=>hn h.1],fun h=>absurd h hn⟩
 rw[if_neg h4]
 by_cases h5:p.op=5
 ·rw[if_pos h5]
  have e:ZG w t p=[t,t]:=by unfold ZG;rw[if_neg (by omega),if_pos (by omega)]
  rw[e]
  refine⟨[t,t],?_,fun _=>rfl⟩
  congr 2;refine ZS ?_;unfold ZAW;simp only[Bool.false_eq_true,false_or,List.length_nil,List.length_cons];omega
 rw[if_neg h5]
 by_cases h6:p.op=6
 ·rw[if_pos h6]
  have e:ZG w t p=[t]:=by unfold ZG;rw[if_neg (by omega),if_neg (by omega),if_pos (by omega)]
  rw[e]
  refine⟨[t],?_,fun _=>rfl⟩
  split
  ·next hh=>
   simp only[Bool.false_eq_true,false_or,true_or,true_and]at hh
   congr 2;refine ZS ?_;unfold ZAW;simp only[List.length_nil,List.length_cons];omega
  ·next hh=>
   simp only[Bool.false_eq_true,false_or,true_or,true_and]at hh
   rw[ZE];unfold ZAW;simp only[List.length_nil,List.length_cons];omega
 rw[if_neg h6]
 have hn:¬ZAW w t p:=by unfold ZAW;omega
 exact⟨[],by rw[ZE fun h=>hn h.1],fun h=>absurd h hn⟩
def ZN (w:List Data):Nat->Ty->Pattern->Prop
 |0,_,_=>False
 |d+1,t,p=>ZAW w t p/\p.kids.length=(ZG w t p).length/\∀i,0<=i->i<(ZG w t p).length->∀(h:i<(ZG w t p).length) (h':i<p.kids.length),ZN w d (ZG w t p)[i] p.kids[i]
theorem P.YU (w:List Data)(hw:ZO w):∀(d:Nat) (t:Ty) (p:Pattern),Zc w t->d<=10->F.f70 w t p d=some (dec (ZN w d t p))
 |0,t,p,ht,hd=>by rw[F.f70,if_pos (by omega),ZE (by simp[ZN])]
 |d+1,t,p,ht,hd=>by
  rw[F.f70,if_neg (by omega),P.YAa w hw t (ZAA ht.1)]
  simp only[oE,oS]
  by_cases ho:ZAW w t p
  ·rw[if_pos (ZH ho),P.YT w hw t (ZAA ht.1) p ho]
   simp only[oS]
   have hts:=ZAC hw ht ho
   by_cases h4:p.kids.length=(ZG w t p).length
   ·rw[if_pos h4,ZHg (n:=(ZG w t p).length) (r:=false) (Q:=fun i=>∀(h:i<(ZG w t p).length) (h':i<p.kids.length),ZN w d (ZG w t p)[i] p.kids[i]) (L:=F.f71 w p ((d+1:Nat):Int) (ZG w t p))
     (fun k hk=>by rw[F.f71,if_neg (by omega)])
     (fun k hk hq=>by
      have hk':k<p.kids.length:=by omega
      rw[F.f71,if_pos hk,gQ hk,gQ hk']
      simp only[oE,oS]
      rw[ZF (by omega) (by omega),show((d+1:Nat):Int) -1=(d:Int)from by omega,P.YU w hw d _ _ (hts _ (gM hk)) (by omega)]
      simp only[oS]
      rw[if_pos (ZH (hq hk hk'))])
     (fun k hk hq=>by
      have hk':k<p.kids.length:=by omega
      rw[F.f71,if_pos hk,gQ hk,gQ hk']
      simp only[oE,oS]
      rw[ZF (by omega) (by omega),show((d+1:Nat):Int) -1=(d:Int)from by omega,P.YU w hw d _ _ (hts _ (gM hk)) (by omega)]
      simp only[oS]
      rw[if_neg (by rw[ZE fun h=>hq fun _ _=>h];simp)]) _ 0 rfl]
    simp only[oS]
    by_cases hall:∀i,0<=i->i<(ZG w t p).length->∀(h:i<(ZG w t p).length) (h':i<p.kids.length),ZN w d (ZG w t p)[i] p.kids[i]
    ·rw[if_pos (ZH hall),ZH ⟨ho,h4,hall⟩]
    ·rw[if_neg (by rw[ZE hall];simp),ZE fun h=>hall h.2.2]
   ·rw[if_neg h4,ZE fun h=>h4 h.2.1]
  ·rw[if_neg (by rw[ZE ho];simp),ZE fun h=>ho h.1]
theorem P.YAl (v:Pattern)(hv:v.wt<=1048576):∀(most:Nat),most<=60->∃c:Nat,F.f72 v most=some (c:Int)/\1<=c/\c<=1+v.wt/\(1+v.wt<=most->c=1+v.wt)/\(most<1+v.wt->most<c):=by
 induction v using Pattern.ind with
 |_ v ih=>
  intro most hm
  have hw:=v.wt_eq
  have key:∀(m i:Nat) (n:Nat),v.kids.length-i=m->1<=n->n+((v.kids.drop i).map fun k=>1+k.wt).sum<=1+v.wt->
    ∃c:Nat,F.f73 v most n i=some (c:Int)/\n<=c/\c<=n+((v.kids.drop i).map fun k=>1+k.wt).sum/\(n+((v.kids.drop i).map fun k=>1+k.wt).sum<=most->c=n+((v.kids.drop i).map fun k=>1+k.wt).sum)/\(most<n+((v.kids.drop i).map fun k=>1+k.wt).sum->most<c):=by
   intro m
   induction m with
   |zero=>
    intro i n hmi hn hb
    rw[F.f73,if_neg (by omega),List.drop_eq_nil_of_le (by omega)]
    exact⟨n,rfl,by omega,by simp,by simp,by simp⟩
   |succ m ih2=>
    intro i n hmi hn hb
    have hi:i<v.kids.length:=by omega
    rw[List.drop_eq_getElem_cons hi]at hb ⊢
    simp only[List.map_cons,List.sum_cons]at hb ⊢
    rw[F.f73,if_pos hi]
    by_cases hle:n<=most
    ·rw[if_pos (by omega),gQ hi]
     simp only[oE,oS]
     have hk:v.kids[i].wt<=1048576:=by omega
     obtain⟨c,h1,h2,h3,h4,h5⟩:=ih v.kids[i] (gM hi) hk (most-n) (by omega)
     rw[ZF (by omega) (by omega),show((most:Int) - (n:Int))=((most-n:Nat):Int)from by omega,h1]
     simp only[oS]
     rw[ZF (by omega) (by omega),show((n:Int)+(c:Int))=((n+c:Nat):Int)from by omega]
     obtain⟨c',g1,g2,g3,g4,g5⟩:=ih2 (i+1) (n+c) (by omega) (by omega) (by omega)
     refine⟨c',g1,by omega,by omega,fun h=> ?_,fun h=> ?_⟩
     ·have:=h4 (by omega)
      have:=g4 (by omega)
      omega
     ·by_cases hx:1+v.kids[i].wt<=most-n
      ·have:=h4 hx
       exact g5 (by omega)
      ·have:=h5 (by omega)
       omega
    ·rw[if_neg (by omega)]
     exact⟨n,rfl,by omega,by omega,fun h=>by omega,fun h=>by omega⟩
  have hs:((v.kids.drop 0).map fun k=>1+k.wt).sum=v.wt:=by
   rw[List.drop_zero,hw]
   have:∀l:List Pattern,(l.map fun k=>1+k.wt).sum=wtL Pattern.wt l:=by
    intro l
    induction l with
    |nil=>rfl
    |cons a r ih=>simp[ih]
   exact this _
  obtain⟨c,h1,h2,h3,h4,h5⟩:=key _ 0 1 rfl (by omega) (by omega)
  rw[hs]at h3 h4 h5
  unfold F.f72
  have h1':F.f73 v most 1 0=some (c:Int):=h1
  rw[h1']
  exact⟨c,rfl,by omega,h3,h4,h5⟩
theorem ZEZ (v:Pattern):v.wt=((v.kids.drop 0).map fun k=>1+k.wt).sum:=by
 rw[List.drop_zero,v.wt_eq]
 have:∀l:List Pattern,(l.map fun k=>1+k.wt).sum=wtL Pattern.wt l:=by
  intro l
  induction l with
  |nil=>rfl
  |cons a r ih=>simp[ih]
 exact(this _).symm
noncomputable def ZM (w:List Data):Nat->Ty->Pattern->List VarType
 |0,_,_=>[]
 |d+1,t,p=>(if p.op=2∨p.op=6 then[⟨p.var,t⟩]else[])++(((ZG w t p).zip p.kids).take (if p.op=5 then 1 else p.kids.length)).flatMap fun x=>ZM w d x.1 x.2
theorem ZFh {f:Ty×Pattern->List VarType}(hf:∀x,(f x).length<=1+x.2.wt):∀(ts:List Ty) (ks:List Pattern) (n:Nat),(((ts.zip ks).take n).flatMap f).length<=wtL Pattern.wt ks
 | [],ks,n=>by simp
 |t::ts,[],n=>by simp
 |t::ts,k::ks,0=>by simp
 |t::ts,k::ks,n+1=>by
  have h1:=ZFh hf ts ks n
  have h2:=hf (t,k)
  simp only[List.zip_cons_cons,List.take_succ_cons,List.flatMap_cons,List.length_append,ZBR]at h1 h2 ⊢
  omega
theorem ZCF (w:List Data):∀(d:Nat) (t:Ty) (p:Pattern),(ZM w d t p).length<=1+p.wt
 |0,t,p=>by simp[ZM]
 |d+1,t,p=>by
  have:=ZFh (f:=fun x=>ZM w d x.1 x.2) (fun x=>ZCF w d x.1 x.2) (ZG w t p) p.kids (if p.op=5 then 1 else p.kids.length)
  rw[ZM,List.length_append,p.wt_eq]
  have h1:(if p.op=2∨p.op=6 then[(⟨p.var,t⟩:VarType)]else[]).length<=1:=by split<;>simp
  omega
theorem ZDD {w:List Data}{p:Pattern}{ts:List Ty}(hl:p.kids.length=ts.length)(h5:p.op≠5){f:Ty×Pattern->List VarType}{L:List VarType->Nat->Option (List VarType)}
  (hL:∀out i,L out i=if i<ts.length then(if i=0 then ts[i]? >>=fun x=>p.kids[i]? >>=fun y=>F.f74 out w x y>>=fun v=>L v (i+1)else(if p.op=5 then some out else ts[i]? >>=fun x=>p.kids[i]? >>=fun y=>F.f74 out w x y>>=fun v=>L v (i+1)))else some out)
  (hf:∀x:Ty×Pattern,(f x).length<=1+x.2.wt)
  (ih:∀i (h:i<ts.length) (h':i<p.kids.length) (out:List VarType),out.length+(1+p.kids[i].wt)<=67108864->F.f74 out w ts[i] p.kids[i]=some (out++f (ts[i],p.kids[i]))):
  ∀(m i:Nat) (out:List VarType),ts.length-i=m->out.length+((p.kids.drop i).map fun k=>1+k.wt).sum<=67108864->L out i=some (out++((ts.zip p.kids).drop i).flatMap f):=by
 intro m
 induction m with
 |zero=>
  intro i out hm hb
  rw[hL,if_neg (by omega),List.drop_eq_nil_of_le (by simp;omega)];simp
 |succ m ihm=>
  intro i out hm hb
  have hi:i<ts.length:=by omega
  have hi':i<p.kids.length:=by omega
  rw[List.drop_eq_getElem_cons hi']at hb
  simp only[List.map_cons,List.sum_cons]at hb
  have e:(ts[i]? >>=fun x=>p.kids[i]? >>=fun y=>F.f74 out w x y>>=fun v=>L v (i+1))=some (out++((ts.zip p.kids).drop i).flatMap f):=by
   rw[gQ hi,gQ hi']
   simp only[oE,oS]
   rw[ih i hi hi' out (by omega)]
   simp only[oS]
   have:=hf (ts[i],p.kids[i])
   simp only at this
   rw[ihm (i+1) _ (by omega) (by rw[List.length_append];omega),List.drop_eq_getElem_cons (l:=ts.zip p.kids) (i:=i) (by simp;omega)]
   simp
  rw[hL,if_pos hi,if_neg h5,e]
  split<;>rfl
theorem ZW {w:List Data}{t:Ty}{p:Pattern}(h:ZAW w t p)(h5:p.op=5):ZG w t p=[t,t]:=by unfold ZG;rw[if_neg (by omega),if_pos h5]
theorem P.YE (w:List Data)(hw:ZO w):∀(d:Nat) (t:Ty) (p:Pattern) (out:List VarType),Zc w t->ZN w d t p->out.length+(1+p.wt)<=67108864->F.f74 out w t p=some (out++ZM w d t p)
 |0,t,p,out,ht,hs,hb=>hs.elim
 |d+1,t,p,out,ht,hs,hb=>by
  obtain⟨ho,hl,hk⟩:=hs
  have hts:=ZAC hw ht ho
  have hsum:=ZEZ p
  have ih:∀i (h:i<(ZG w t p).length) (h':i<p.kids.length) (out:List VarType),out.length+(1+p.kids[i].wt)<=67108864->F.f74 out w (ZG w t p)[i] p.kids[i]=some (out++(fun x:Ty×Pattern=>ZM w d x.1 x.2) ((ZG w t p)[i],p.kids[i])):=
   fun i h h' out hb=>P.YE w hw d _ _ out (hts _ (gM h)) (hk i (by omega) h h h') hb
  have hf:∀x:Ty×Pattern,((fun x:Ty×Pattern=>ZM w d x.1 x.2) x).length<=1+x.2.wt:=fun x=>ZCF w d x.1 x.2
  have full:∀n,p.kids.length<=n->((ZG w t p).zip p.kids).take n=(ZG w t p).zip p.kids:=fun n hn=>List.take_of_length_le (by simp;omega)
  rw[F.f74,P.YT w hw t (ZAA ht.1) p ho]
  simp only[oE,oS]
  by_cases h2:p.op=2
  ·rw[if_pos h2,if_pos (by omega),ZDD (f:=fun x=>ZM w d x.1 x.2) (L:=F.f77 w p (ZG w t p)) hl (by omega) (fun out i=>by rw[F.f77]) hf ih _ 0 _ rfl (by simp at hsum ⊢;omega)]
   simp only[oS]
   rw[ZM,if_pos (.inl h2),if_neg (by omega),full _ (Nat.le_refl _)];simp
  ·rw[if_neg h2]
   by_cases h6:p.op=6
   ·rw[if_pos h6,if_pos (by omega),ZDD (f:=fun x=>ZM w d x.1 x.2) (L:=F.f75 w p (ZG w t p)) hl (by omega) (fun out i=>by rw[F.f75]) hf ih _ 0 _ rfl (by simp at hsum ⊢;omega)]
    simp only[oS]
    rw[ZM,if_pos (.inr h6),if_neg (by omega),full _ (Nat.le_refl _)];simp
   ·rw[if_neg h6]
    by_cases h5:p.op=5
    ·have et:=ZW ho h5
     rw[et]at hl
     have h0:0<p.kids.length:=by rw[hl];simp
     have h0':0<(ZG w t p).length:=by rw[et];simp
     have hw0:1+p.kids[0].wt<=p.wt:=by
      rw[hsum,List.drop_zero]
      obtain⟨a,r,e⟩:=List.exists_cons_of_length_pos h0
      simp[e]
     have e0:=ih 0 h0' h0 out (by omega)
     rw[F.f76,if_pos h0',if_pos rfl,gQ h0',gQ h0]
     simp only[oE,oS]
     rw[e0]
     simp only[oS]
     rw[F.f76,if_pos (by rw[et];simp),if_neg (by omega),if_pos h5]
     simp only[oS]
     rw[ZM,if_neg (by omega),if_pos h5]
     have e1:((ZG w t p).zip p.kids).take 1=[((ZG w t p)[0],p.kids[0])]:=by
      obtain⟨a,r,e⟩:=List.exists_cons_of_length_pos h0
      obtain⟨b,r',e'⟩:=List.exists_cons_of_length_pos h0'
      simp[e,e']
     rw[e1];simp
    ·rw[ZDD (f:=fun x=>ZM w d x.1 x.2) (L:=F.f76 w p (ZG w t p)) hl h5 (fun out i=>by rw[F.f76]) hf ih _ 0 _ rfl (by simp at hsum ⊢;omega)]
     simp only[oS]
     rw[ZM,if_neg (by omega),if_neg h5,full _ (Nat.le_refl _)];simp
def ZEp (l:List VarType):Prop:=(l.map VarType.var).Nodup
def ZFC (a b:List VarType):Prop:=a.length=b.length/\∀x,x∈a->x∈b
theorem ZHO (l:List VarType):ZEp l↔∀i j (hi:i<l.length) (hj:j<l.length),i<j->l[i].var≠l[j].var:=by
 unfold ZEp List.Nodup
 rw[List.pairwise_map,List.pairwise_iff_getElem]
theorem ZIP {l:List VarType}{n:Int}(h:ZDz l n= -1):∀x,x∈l->x.var≠n:=by
 unfold ZDz at h
 cases hf:ZF4 (fun x:VarType=>x.var=n) 0 l with
 |none=>exact ZAt hf
 |some j=>rw[hf]at h;simp only at h;omega
theorem ZPX {a b:VarType}(h:a.var=b.var)(h2:eq2 (a.type.data,a.type.index) (b.type.data,b.type.index)):a=b:=by
 obtain⟨v,d,i⟩:=a
 obtain⟨v',d',i'⟩:=b
 simp only[eq2]at h h2
 obtain⟨rfl,rfl⟩:=h2
 subst h;rfl
theorem P.Yk (l:List VarType):F.f82 l 0=some (if dec (ZEp l)=true then .go ()else .ret false):=by
 rw[ZHg (n:=l.length) (r:=false) (Q:=fun j=>∀h:j<l.length,ZDz l l[j].var=(j:Int)) (L:=F.f82 l) (fun k hk=>by rw[F.f82,if_neg (by omega)])
  (fun k hk hq=>by
   rw[F.f82,if_pos hk,gQ hk]
   simp only[oE,oS,P.YZ]
   rw[if_pos (hq hk)])
  (fun k hk hq=>by
   rw[F.f82,if_pos hk,gQ hk]
   simp only[oE,oS,P.YZ]
   rw[if_neg fun h=>hq fun _=>h]) _ 0 rfl]
 congr 2
 rw[ZS]
 rw[ZHO]
 constructor
 ·intro h i j hi hj hij
  exact(ZEM l j hj).1 (h j (by omega) hj hj) i hi hij
 ·intro h j _ _ hj
  exact(ZEM l j hj).2 fun i hi hij=>h i j hi hj hij
theorem P.YAP (a b:List VarType)(hb:ZEp b):F.f81 a b=some (dec (ZFC a b)):=by
 unfold F.f81
 have step:∀k (hk:k<a.length),F.f80 a b k=if dec (a[k]∈b)=true then F.f80 a b (k+1)else some (.ret false):=by
  intro k hk
  rw[F.f80,if_pos hk,gQ hk]
  simp only[oE,oS,P.YZ]
  rcases ZDc b a[k].var with h|⟨j,hj,h1,h2,h3⟩
  ·rw[if_pos (by omega),if_neg]
   rw[ZE fun hm=>ZIP h _ hm rfl];simp
  ·rw[if_neg (by omega),h1,ZL4,gQ hj]
   simp only[oS]
   by_cases he:eq2 (b[j].type.data,b[j].type.index) (a[k].type.data,a[k].type.index)
   ·rw[if_pos (ZH he),if_pos (ZH (by rw[←ZPX h2 he];exact gM hj))]
   ·rw[if_neg (by rw[ZE he];simp),if_neg]
    rw[ZE fun hm=> ?_];· simp
    obtain⟨i,hi,e⟩:=List.getElem_of_mem hm
    have hij:i=j:=by
     rw[ZHO]at hb
     rcases Nat.lt_trichotomy i j with hlt|heq|hlt
     ·exact absurd (by rw[e,h2]) (hb i j hi hj hlt)
     ·exact heq
     ·exact absurd (by rw[e,h2]) (hb j i hj hi hlt)
    subst hij
    exact he (by rw[e];exact⟨rfl,rfl⟩)
 rw[ZHg (n:=a.length) (r:=false) (Q:=fun j=>∀h:j<a.length,a[j]∈b) (L:=F.f80 a b) (fun k hk=>by rw[F.f80,if_neg (by omega)])
  (fun k hk hq=>by rw[step k hk,if_pos (ZH (hq hk))])
  (fun k hk hq=>by rw[step k hk,if_neg (by rw[ZE fun h=>hq fun _=>h];simp)]) _ 0 rfl]
 simp only[oE,oS]
 by_cases h:∀j,0<=j->j<a.length->∀h:j<a.length,a[j]∈b
 ·rw[if_pos (ZH h),←ZAL]
  have hx:∀x,x∈a->x∈b:=fun x hx=>by obtain⟨j,hj,e⟩:=List.getElem_of_mem hx;rw[←e];exact h j (by omega) hj hj
  show some (dec (a.length=b.length))=some (dec (ZFC a b))
  congr 1;exact ZS ⟨fun hl=>⟨hl,hx⟩,fun hs=>hs.1⟩
 ·rw[if_neg (by rw[ZE h];simp),ZE fun hs=>h fun j _ hj _=>hs.2 _ (gM hj)]
theorem ZLo {a b:VarType}:eq3 (a.var,a.type.data,a.type.index) (b.var,b.type.data,b.type.index)↔a=b:=by
 obtain⟨v,d,i⟩:=a
 obtain⟨v',d',i'⟩:=b
 simp[eq3]
theorem P.YQ (l:List VarType)(n:VarType):F.f120 l n=some (dec (n∈l)):=by
 unfold F.f120 F.f119
 rw[ZLC (a:=l) (p:=fun x=>n=x) (L:=F.f118 l n) (fun k hk=>by rw[F.f118,if_neg (by omega)])
  (fun k hk hp=>by
   rw[F.f118,if_pos hk,gQ hk]
   simp only[oE,oS]
   rw[if_neg (by rw[ZE fun h=>hp (ZLo.1 h)];simp)])
  (fun k hk hp=>by
   rw[F.f118,if_pos hk,gQ hk]
   simp only[oE,oS]
   rw[if_pos (ZH (ZLo.2 hp))]) _ 0 rfl,List.drop_zero]
 cases h:ZF4 (fun x:VarType=>n=x) 0 l with
 |none=>
  simp only[oE,oS]
  rw[ZE fun hm=>ZAt h _ hm rfl];simp
 |some j=>
  obtain⟨_,h2,h3,_⟩:=ZAs h
  simp only[oE,oS]
  rw[ZH (by rw[h3];exact gM h2)];simp
theorem P.YAJ (a b:List VarType):F.f125 a b=some (dec (ZFC a b)):=by
 unfold F.f125
 by_cases hl:a.length=b.length
 ·rw[if_pos hl]
  unfold F.f124 F.f123
  have one:∀q,F.f121 q b=some (!dec (q∈b)):=by
   intro q;unfold F.f121;rw[P.YQ];rfl
  rw[ZLC (a:=a) (p:=fun x=>¬x∈b) (L:=F.f122 a b) (fun k hk=>by rw[F.f122,if_neg (by omega)])
   (fun k hk hp=>by
    rw[F.f122,if_pos hk,gQ hk]
    simp only[oE,oS,one]
    rw[if_neg (by rw[ZH (Classical.byContradiction hp)];simp)])
   (fun k hk hp=>by
    rw[F.f122,if_pos hk,gQ hk]
    simp only[oE,oS,one]
    rw[if_pos (by rw[ZE hp];simp)]) _ 0 rfl,List.drop_zero]
  cases h:ZF4 (fun x:VarType=>¬x∈b) 0 a with
  |none=>
   simp only[oE,oS]
   rw[ZH ⟨hl,fun x hx=>Classical.byContradiction (ZAt h x hx)⟩];simp
  |some j=>
   obtain⟨_,h2,h3,_⟩:=ZAs h
   simp only[oE,oS]
   rw[ZE fun hs=>h3 (hs.2 _ (gM h2))];simp
 ·rw[if_neg hl,ZE fun h=>hl h.1]
def ZBy (w:List Data):Nat->Ty->Pattern->Prop
 |0,_,_=>False
 |d+1,t,p=>(∀i,0<=i->i<(ZG w t p).length->∀(h:i<(ZG w t p).length) (h':i<p.kids.length),ZBy w d (ZG w t p)[i] p.kids[i])/\
   if p.op=5 then(∀(h0:0<p.kids.length) (h1:1<p.kids.length),ZFC (ZM w d t p.kids[0]) (ZM w d t p.kids[1]))else ZEp (ZM w (d+1) t p)
theorem ZAi {w:List Data}{d:Nat}{t:Ty}{p:Pattern}(ho:ZAW w t p)(h5:p.op=5)(h0:0<p.kids.length):ZM w (d+1) t p=ZM w d t p.kids[0]:=by
 have et:=ZW ho h5
 rw[ZM,if_neg (by omega),if_pos h5,et]
 obtain⟨a,r,e⟩:=List.exists_cons_of_length_pos h0
 simp[e]
theorem ZCG {w:List Data}:∀{d:Nat} {t:Ty} {p:Pattern},ZN w d t p->ZBy w d t p->ZEp (ZM w d t p)
 |0,t,p,hs,hl=>hs.elim
 |d+1,t,p,hs,hl=>by
  obtain⟨ho,hlen,hk⟩:=hs
  obtain⟨h1,h2⟩:=hl
  by_cases h5:p.op=5
  ·have et:=ZW ho h5
   have h0:0<p.kids.length:=by rw[hlen,et];simp
   have h0':0<(ZG w t p).length:=by rw[et];simp
   rw[ZAi ho h5 h0]
   have e0:(ZG w t p)[0]=t:=by simp[et]
   have a:=hk 0 (Nat.le_refl _) h0' h0' h0
   have b:=h1 0 (Nat.le_refl _) h0' h0' h0
   rw[e0]at a b
   exact ZCG a b
  ·rw[if_neg h5]at h2;exact h2
theorem P.Yc (w:List Data)(hw:ZO w):∀(d:Nat) (t:Ty) (p:Pattern),Zc w t->ZN w d t p->p.wt<=1048576->F.f83 w t p=some (dec (ZBy w d t p))
 |0,t,p,ht,hs,hb=>hs.elim
 |d+1,t,p,ht,hs,hb=>by
  have hs':=hs
  obtain⟨ho,hl,hk⟩:=hs
  have hts:=ZAC hw ht ho
  have hsum:=p.wt_eq
  have hkw:∀k (h:k<p.kids.length),1+p.kids[k].wt<=p.wt:=fun k h=>by have:=Zg Pattern.wt (gM h);omega
  have ih:∀k (h:k<(ZG w t p).length) (h':k<p.kids.length),F.f83 w (ZG w t p)[k] p.kids[k]=some (dec (ZBy w d (ZG w t p)[k] p.kids[k])):=
   fun k h h'=>P.Yc w hw d _ _ (hts _ (gM h)) (hk k (by omega) h h h') (by have:=hkw k h';omega)
  rw[F.f83,P.YT w hw t (ZAA ht.1) p ho]
  simp only[oE,oS]
  rw[ZHg (n:=(ZG w t p).length) (r:=false) (Q:=fun i=>∀(h:i<(ZG w t p).length) (h':i<p.kids.length),ZBy w d (ZG w t p)[i] p.kids[i]) (L:=F.f84 w t p (ZG w t p))
   (fun k hk=>by rw[F.f84,if_neg (by omega)])
   (fun k hk hq=>by
    have hk':k<p.kids.length:=by omega
    rw[F.f84,if_pos hk,gQ hk,gQ hk']
    simp only[oE,oS]
    rw[ih k hk hk']
    simp only[oS]
    rw[if_pos (ZH (hq hk hk'))])
   (fun k hk hq=>by
    have hk':k<p.kids.length:=by omega
    rw[F.f84,if_pos hk,gQ hk,gQ hk']
    simp only[oE,oS]
    rw[ih k hk hk']
    simp only[oS]
    rw[if_neg (by rw[ZE fun h=>hq fun _ _=>h];simp)]) _ 0 rfl]
  simp only[oS]
  by_cases hall:∀i,0<=i->i<(ZG w t p).length->∀(h:i<(ZG w t p).length) (h':i<p.kids.length),ZBy w d (ZG w t p)[i] p.kids[i]
  ·rw[if_pos (ZH hall)]
   simp only
   by_cases h5:p.op=5
   ·have et:=ZW ho h5
    have h0:0<p.kids.length:=by rw[hl,et];simp
    have h1:1<p.kids.length:=by rw[hl,et];simp
    have h0':0<(ZG w t p).length:=by rw[et];simp
    have h1':1<(ZG w t p).length:=by rw[et];simp
    have e0:(ZG w t p)[0]=t:=by simp[et]
    have e1:(ZG w t p)[1]=t:=by simp[et]
    have a0:=hk 0 (Nat.le_refl _) h0' h0' h0
    have a1:=hk 1 (by omega) h1' h1' h1
    have b1:=hall 1 (by omega) h1' h1' h1
    rw[e0]at a0
    rw[e1]at a1 b1
    rw[if_pos h5,gQ h0,gQ h1]
    simp only[oS]
    rw[P.YE w hw d t _ [] ht a0 (by have:=hkw 0 h0;simp;omega),P.YE w hw d t _ [] ht a1 (by have:=hkw 1 h1;simp;omega)]
    simp only[oS,List.nil_append]
    rw[P.YAP _ _ (ZCG a1 b1)]
    simp only[oS]
    congr 1
    refine ZS ⟨fun h=>⟨hall,?_⟩,fun h=> ?_⟩
    ·rw[if_pos h5];exact fun _ _=>h
    ·have:=h.2;rw[if_pos h5]at this;exact this h0 h1
   ·rw[if_neg h5,P.YE w hw (d+1) t p [] ht hs' (by simp;omega)]
    simp only[oS,List.nil_append]
    rw[P.Yk]
    simp only[oS]
    by_cases hn:ZEp (ZM w (d+1) t p)
    ·rw[if_pos (ZH hn),ZH ⟨hall,by rw[if_neg h5];exact hn⟩]
    ·rw[if_neg (by rw[ZE hn];simp),ZE fun h=>hn (by have:=h.2;rwa[if_neg h5]at this)]
  ·rw[if_neg (by rw[ZE hall];simp),ZE fun h=>hall h.1]
theorem ZC6 {f:Ty×Pattern->List VarType}{x:VarType}:∀{ts:List Ty} {ks:List Pattern} {n:Nat},x∈(((ts.zip ks).take n).flatMap f)->∃i,∃(h:i<ts.length) (h':i<ks.length),x∈f (ts[i],ks[i])
 | [],ks,n,h=>by simp at h
 |t::ts,[],n,h=>by simp at h
 |t::ts,k::ks,0,h=>by simp at h
 |t::ts,k::ks,n+1,h=>by
  simp only[List.zip_cons_cons,List.take_succ_cons,List.flatMap_cons,List.mem_append]at h
  rcases h with h|h
  ·exact⟨0,by simp,by simp,by simpa using h⟩
  ·obtain⟨i,h1,h2,h3⟩:=ZC6 h
   exact⟨i+1,by simpa using h1,by simpa using h2,by simpa using h3⟩
theorem ZEl {w:List Data}(hw:ZO w):∀{d:Nat} {t:Ty} {p:Pattern},Zc w t->ZN w d t p->∀x,x∈ZM w d t p->0<=x.var/\x.var<=5/\Zc w x.type
 |0,t,p,ht,hs=>hs.elim
 |d+1,t,p,ht,hs=>by
  obtain⟨ho,hl,hk⟩:=hs
  intro x hx
  rw[ZM,List.mem_append]at hx
  rcases hx with hx|hx
  ·split at hx
   ·next h=>
    simp at hx;subst hx
    unfold ZAW at ho
    refine⟨?_,?_,ht⟩<;>simp only<;>omega
   ·cases hx
  ·obtain⟨i,h,h',hm⟩:=ZC6 hx
   exact ZEl hw (ZAC hw ht ho _ (gM h)) (hk i (by omega) h h h') x hm
theorem ZQM {R:Type}{vs:List VarType}{r:R}{M:(Nat->Bool)->Nat->Option (Lo R Unit)}(hv:∀x,x∈vs->0<=x.var/\x.var<=5)
  (hM:∀s i,M s i=if i<vs.length then vs[i]? >>=fun x=>if 0<=x.var/\x.var.toNat<6 then(if s x.var.toNat=true then some (.ret r)else M (ZF9 s x.var.toNat true) (i+1))else none else some (.go ())):
  ∀(m i:Nat) (s:Nat->Bool),vs.length-i=m->M s i=some (if dec (ZEp (vs.drop i)/\∀x,x∈vs.drop i->s x.var.toNat=false)=true then .go ()else .ret r):=by
 intro m
 induction m with
 |zero=>
  intro i s hm
  rw[hM,if_neg (by omega),List.drop_eq_nil_of_le (by omega),if_pos (ZH ⟨by simp[ZEp],by simp⟩)]
 |succ m ih=>
  intro i s hm
  have hi:i<vs.length:=by omega
  have hr:=hv _ (gM hi)
  rw[hM,if_pos hi,gQ hi]
  simp only[oE,oS]
  rw[if_pos (by omega),List.drop_eq_getElem_cons hi]
  by_cases h:s vs[i].var.toNat=true
  ·rw[if_pos h,if_neg]
   rw[ZE fun hh=> ?_];· simp
   have:=hh.2 vs[i] (List.mem_cons_self ..)
   rw[h]at this;cases this
  ·rw[if_neg h,ih (i+1) _ (by omega)]
   congr 2
   rw[ZS]
   have hs:s vs[i].var.toNat=false:=by simpa using h
   constructor
   ·rintro⟨h1,h2⟩
    refine⟨?_,fun x hx=> ?_⟩
    ·unfold ZEp at h1 ⊢
     rw[List.map_cons,List.nodup_cons]
     refine⟨fun hm=> ?_,h1⟩
     obtain⟨y,hy,e⟩:=List.mem_map.1 hm
     have:=h2 y hy
     rw[e]at this
     simp[ZF9]at this
    ·rcases List.mem_cons.1 hx with rfl|hx
     ·exact hs
     ·have:=h2 x hx
      unfold ZF9 at this
      split at this
      ·cases this
      ·exact this
   ·rintro⟨h1,h2⟩
    unfold ZEp at h1 ⊢
    rw[List.map_cons,List.nodup_cons]at h1
    refine⟨h1.2,fun x hx=> ?_⟩
    unfold ZF9
    have hx':=hv x (List.mem_of_mem_drop hx)
    rw[if_neg fun e=>h1.1 (List.mem_map.2 ⟨x,hx,by omega⟩)]
    exact h2 x (List.mem_cons_of_mem _ hx)
abbrev ZPP (w:List Data)(d:Nat)(ts:List Ty)(ks:List Pattern)(i:Nat):Prop:=∀j,i<=j->j<ts.length->∀(h:j<ts.length) (h':j<ks.length),ZN w d ts[j] ks[j]/\ZBy w d ts[j] ks[j]
def ZCA (w:List Data)(d:Nat)(t:Ty)(p:Pattern)(count:Nat)(vs:List VarType)(b:Bool)(c:Nat):Prop:=
 (b=true↔ZN w d t p/\ZBy w d t p/\count+(1+p.wt)<=60)/\(b=true->c=count+(1+p.wt)/\vs=ZM w d t p)
theorem P.YAk (w:List Data)(d:Nat)(hd:d+1<=10)(p:Pattern)(hp:p.wt<=1048576)(ts:List Ty)(hl:ts.length=p.kids.length)(hts:∀a,a∈ts->Zc w a)(h5:p.op≠5)
  (L:Int->List VarType->Nat->Option (Lo ((List VarType)×Bool×Int) (Int×(List VarType))))
  (hL:∀z vars i,L z vars i=if i<p.kids.length then p.kids[i]? >>=fun x=>ts[i]? >>=fun y=>F.f129 w y x (i64.wrap (((11- (d+1):Nat):Int)+1)) z>>=fun r=>if r.2.1=true then(if p.op=5 then(if i=1 then F.f125 vars r.1>>=fun b=>if b=true then L r.2.2 vars (i+1)else some (.ret ([],false,r.2.2))else(if vars.length+r.1.length<=67108864 then L r.2.2 (vars++r.1) (i+1)else none))else(if vars.length+r.1.length<=67108864 then L r.2.2 (vars++r.1) (i+1)else none))else some (.ret ([],false,r.2.2))else some (.go (z,vars)))
  (ih:∀(t:Ty) (x:Pattern) (count:Nat),Zc w t->x.wt<=1048576->count<=60->∃vs b c,F.f129 w t x ((11-d:Nat):Int) (count:Int)=some (vs,b,((c:Nat):Int))/\ZCA w d t x count vs b c):
  ∀(m i z:Nat) (vars:List VarType),p.kids.length-i=m->z<=60->vars.length+((p.kids.drop i).map fun k=>1+k.wt).sum<=67108864->∃o,L z vars i=some o/\
   match o with
   | .ret (vs,b,c)=>b=false/\∃c':Nat,c=(c':Int)/\¬(ZPP w d ts p.kids i/\z+((p.kids.drop i).map fun k=>1+k.wt).sum<=60)
   | .go (c,vs)=>c=((z+((p.kids.drop i).map fun k=>1+k.wt).sum:Nat):Int)/\vs=vars++((ts.zip p.kids).drop i).flatMap (fun x=>ZM w d x.1 x.2)/\ZPP w d ts p.kids i/\z+((p.kids.drop i).map fun k=>1+k.wt).sum<=60:=by
 intro m
 induction m with
 |zero=>
  intro i z vars hm hz hb
  rw[hL,if_neg (by omega)]
  refine⟨_,rfl,?_⟩
  rw[List.drop_eq_nil_of_le (by omega),List.drop_eq_nil_of_le (by simp;omega)]
  exact⟨by simp,by simp,fun j h1 h2=>by omega,by simpa using hz⟩
 |succ m ihm=>
  intro i z vars hm hz hb
  have hi:i<p.kids.length:=by omega
  have hi':i<ts.length:=by omega
  have hkw:=Zg Pattern.wt (gM hi)
  have hpw:=p.wt_eq
  rw[List.drop_eq_getElem_cons hi]at hb ⊢
  simp only[List.map_cons,List.sum_cons]at hb ⊢
  rw[hL,if_pos hi,gQ hi,gQ hi']
  simp only[oE,oS]
  rw[ZF (by omega) (by omega),show(((11- (d+1):Nat):Int)+1)=((11-d:Nat):Int)from by omega]
  obtain⟨vs,b,c,h1,h2,h3⟩:=ih ts[i] p.kids[i] z (hts _ (gM hi')) (by omega) hz
  rw[h1]
  simp only[oS]
  cases b with
  |true=>
   rw[if_pos rfl,if_neg h5]
   obtain⟨hc,hv⟩:=h3 rfl
   obtain⟨hp1,hp2,hle⟩:=h2.1 rfl
   have hvl:=ZCF w d ts[i] p.kids[i]
   rw[←hv]at hvl
   rw[if_pos (by omega)]
   obtain⟨o,g1,g2⟩:=ihm (i+1) c (vars++vs) (by omega) (by omega) (by rw[List.length_append];omega)
   refine⟨o,g1,?_⟩
   cases o with
   |ret r=>
    obtain⟨vs',b',c'⟩:=r
    obtain⟨q1,c2,q2,q3⟩:=g2
    exact⟨q1,c2,q2,fun hh=>q3 ⟨fun j a b e f=>hh.1 j (by omega) b e f,by omega⟩⟩
   |go r=>
    obtain⟨c2,vs2⟩:=r
    obtain⟨q1,q2,q3,q4⟩:=g2
    refine⟨by rw[q1];congr 1;omega,?_,fun j a b e f=> ?_,by omega⟩
    ·rw[q2,List.drop_eq_getElem_cons (l:=ts.zip p.kids) (i:=i) (by simp;omega),hv];simp
    ·by_cases hj:i=j
     ·subst hj;exact⟨hp1,hp2⟩
     ·exact q3 j (by omega) b e f
  |false=>
   rw[if_neg (by simp)]
   refine⟨_,rfl,rfl,c,rfl,fun hh=> ?_⟩
   have hk:=hh.1 i (Nat.le_refl _) hi' hi' hi
   have:=h2.2 ⟨hk.1,hk.2,by omega⟩
   cases this
theorem P.Yn (w:List Data)(hw:ZO w):∀(d:Nat) (t:Ty) (p:Pattern) (count:Nat),d<=10->Zc w t->p.wt<=1048576->count<=60->
  ∃vs b c,F.f129 w t p ((11-d:Nat):Int) (count:Int)=some (vs,b,((c:Nat):Int))/\ZCA w d t p count vs b c
 |d,t,p,count,hd,ht,hp,hc=>by
  have e1:i64.wrap ((count:Int)+1)=((count+1:Nat):Int):=by rw[ZF (by omega) (by omega)];omega
  have no:∀(h:¬(ZN w d t p/\ZBy w d t p/\count+(1+p.wt)<=60)) (c:Nat),∃vs b c',(some (([]:List VarType),false,(c:Int)):Option (List VarType×Bool×Int))=some (vs,b,((c':Nat):Int))/\ZCA w d t p count vs b c':=
   fun h c=>⟨[],false,c,rfl,⟨fun h=>(by cases h),fun hh=>absurd hh h⟩,fun h=>by cases h⟩
  rw[F.f129,e1]
  by_cases h60:60<((count+1:Nat):Int)
  ·rw[if_pos h60];exact no (fun h=>by omega) _
  rw[if_neg h60]
  match d,hd with
  |0,_=>
   rw[if_pos (by omega)]
   exact no (fun h=>h.1.elim) _
  |d+1,hd=>
   rw[if_neg (by omega)]
   obtain⟨ts,h1,h2⟩:=P.YAC w hw t (ZAA ht.1) p
   rw[h1]
   simp only[oE,oS]
   by_cases hs:ZAW w t p/\p.kids.length=(ZG w t p).length
   ·rw[if_pos (ZH hs)]
    obtain⟨ho,hl⟩:=hs
    obtain rfl:=h2 ho
    have hts:=ZAC hw ht ho
    have hwt:=ZEZ p
    have ihx:∀(t:Ty) (x:Pattern) (count:Nat),Zc w t->x.wt<=1048576->count<=60->∃vs b c,F.f129 w t x ((11-d:Nat):Int) (count:Int)=some (vs,b,((c:Nat):Int))/\ZCA w d t x count vs b c:=
     fun t x c ht hx hc=>P.Yn w hw d t x c (by omega) ht hx hc
    have shape_of:∀{i:Nat},ZPP w d (ZG w t p) p.kids 0->ZN w (d+1) t p:=fun h=>⟨ho,hl,fun i _ hi h1 h2=>(h i (by omega) hi h1 h2).1⟩
    by_cases h5:p.op=5
    ·rw[if_neg (by omega),if_neg (by omega)]
     have et:=ZW ho h5
     have h0:0<p.kids.length:=by rw[hl,et];simp
     have h1':1<p.kids.length:=by rw[hl,et];simp
     have hl2:p.kids.length=2:=by rw[hl,et];rfl
     have e0:(ZG w t p)[0]? =some t:=by rw[et];rfl
     have e1:(ZG w t p)[1]? =some t:=by rw[et];rfl
     have hsum:p.wt=(1+p.kids[0].wt)+(1+p.kids[1].wt):=by
      have e:p.kids=[p.kids[0],p.kids[1]]:=List.ext_getElem (by simp[hl2]) (fun i h1 h2=>by
       have:i=0∨i=1:=by omega
       rcases this with rfl|rfl<;>rfl)
      rw[hwt,List.drop_zero]
      conv=>lhs;rw[e]
      simp
     have ed:i64.wrap (((11- (d+1):Nat):Int)+1)=((11-d:Nat):Int):=by rw[ZF (by omega) (by omega)];omega
     obtain⟨v0,b0,c0,a1,a2,a3⟩:=ihx t p.kids[0] (count+1) ht (by omega) (by omega)
     have kid0:ZN w (d+1) t p->ZBy w (d+1) t p->(ZN w d t p.kids[0]/\ZBy w d t p.kids[0])/\(ZN w d t p.kids[1]/\ZBy w d t p.kids[1])/\ZFC (ZM w d t p.kids[0]) (ZM w d t p.kids[1]):=by
      rintro⟨_,_,hk⟩ ⟨q1,q2⟩
      rw[if_pos h5]at q2
      have x0':0<(ZG w t p).length:=by rw[et];simp
      have x1':1<(ZG w t p).length:=by rw[et];simp
      have y0:(ZG w t p)[0]=t:=by simp[et]
      have y1:(ZG w t p)[1]=t:=by simp[et]
      have k0:=hk 0 (Nat.le_refl _) x0' x0' h0
      have k1:=hk 1 (by omega) x1' x1' h1'
      have l0:=q1 0 (Nat.le_refl _) x0' x0' h0
      have l1:=q1 1 (by omega) x1' x1' h1'
      rw[y0]at k0 l0
      rw[y1]at k1 l1
      exact⟨⟨k0,l0⟩,⟨k1,l1⟩,q2 h0 h1'⟩
     rw[F.f131,if_pos h0,gQ h0,e0]
     simp only[oE,oS]
     rw[ed,a1]
     simp only[oS]
     cases b0 with
     |false=>
      rw[if_neg (by simp)]
      simp only[oS]
      exact no (fun h=>by
       have:=a2.2 ⟨(kid0 h.1 h.2.1).1.1,(kid0 h.1 h.2.1).1.2,by omega⟩
       cases this) _
     |true=>
      obtain⟨hc0,rfl⟩:=a3 rfl
      obtain⟨s0,l0,z0⟩:=a2.1 rfl
      have hv0:=ZCF w d t p.kids[0]
      rw[if_pos rfl,if_pos h5,if_neg (by omega),if_pos (by simp;omega),F.f131,if_pos h1',gQ h1',e1]
      simp only[oE,oS]
      obtain⟨v1,b1,c1,g1,g2,g3⟩:=ihx t p.kids[1] c0 ht (by omega) (by omega)
      rw[ed,g1]
      simp only[oS]
      cases b1 with
      |false=>
       rw[if_neg (by simp)]
       simp only[oS]
       exact no (fun h=>by
        have:=g2.2 ⟨(kid0 h.1 h.2.1).2.1.1,(kid0 h.1 h.2.1).2.1.2,by omega⟩
        cases this) _
      |true=>
       obtain⟨hc1,rfl⟩:=g3 rfl
       obtain⟨s1,l1,z1⟩:=g2.1 rfl
       rw[if_pos rfl,if_pos h5,if_pos trivial,P.YAJ]
       simp only[oS,List.nil_append]
       by_cases hsv:ZFC (ZM w d t p.kids[0]) (ZM w d t p.kids[1])
       ·rw[if_pos (ZH hsv),F.f131,if_neg (by omega)]
        simp only[oS]
        have kk:∀i,0<=i->i<(ZG w t p).length->∀(h:i<(ZG w t p).length) (h':i<p.kids.length),ZN w d (ZG w t p)[i] p.kids[i]/\ZBy w d (ZG w t p)[i] p.kids[i]:=by
         intro i _ _ h h'
         have ei:(ZG w t p)[i]=t:=by
          have:i=0∨i=1:=by omega
          rcases this with rfl|rfl<;>simp[et]
         rw[ei]
         have:i=0∨i=1:=by omega
         rcases this with rfl|rfl
         ·exact⟨s0,l0⟩
         ·exact⟨s1,l1⟩
        have sh:ZN w (d+1) t p:=⟨ho,hl,fun i a b c e=>(kk i a b c e).1⟩
        have li:ZBy w (d+1) t p:=⟨fun i a b c e=>(kk i a b c e).2,by rw[if_pos h5];exact fun _ _=>hsv⟩
        have hnd:=ZCG sh li
        have hvk:=ZEl hw ht sh
        rw[ZAi ho h5 h0]at hnd hvk
        rw[ZQM (vs:=ZM w d t p.kids[0]) (M:=F.f127 ((c1:Int),ZM w d t p.kids[0])) (r:=([],false,(c1:Int))) (fun x hx=>⟨(hvk x hx).1,(hvk x hx).2.1⟩) (fun s i=>by rw[F.f127]) _ 0 _ rfl,List.drop_zero,if_pos (ZH ⟨hnd,fun _ _=>rfl⟩)]
        exact⟨_,true,c1,rfl,⟨fun _=>⟨sh,li,by omega⟩,fun _=>rfl⟩,fun _=>⟨by omega,(ZAi ho h5 h0).symm⟩⟩
       ·rw[if_neg (by rw[ZE hsv];simp)]
        simp only[oS]
        exact no (fun h=>hsv (kid0 h.1 h.2.1).2.2) _
    ·have kidx:ZN w (d+1) t p->ZBy w (d+1) t p->ZPP w d (ZG w t p) p.kids 0:=fun a b i hi hlt h h'=>⟨a.2.2 i hi hlt h h',b.1 i hi hlt h h'⟩
     have fin:∀(v00:List VarType) (hv00:v00.length<=1) (hv:v00=if p.op=2∨p.op=6 then[(⟨p.var,t⟩:VarType)]else[])
       (L:Int->List VarType->Nat->Option (Lo ((List VarType)×Bool×Int) (Int×(List VarType))))
       (hL:∀z vars i,L z vars i=if i<p.kids.length then p.kids[i]? >>=fun x=>(ZG w t p)[i]? >>=fun y=>F.f129 w y x (i64.wrap (((11- (d+1):Nat):Int)+1)) z>>=fun r=>if r.2.1=true then(if p.op=5 then(if i=1 then F.f125 vars r.1>>=fun b=>if b=true then L r.2.2 vars (i+1)else some (.ret ([],false,r.2.2))else(if vars.length+r.1.length<=67108864 then L r.2.2 (vars++r.1) (i+1)else none))else(if vars.length+r.1.length<=67108864 then L r.2.2 (vars++r.1) (i+1)else none))else some (.ret ([],false,r.2.2))else some (.go (z,vars)))
       (M:Int×List VarType->(Nat->Bool)->Nat->Option (Lo ((List VarType)×Bool×Int) Unit))
       (hM:∀q s i,M q s i=if i<q.2.length then q.2[i]? >>=fun x=>if 0<=x.var/\x.var.toNat<6 then(if s x.var.toNat=true then some (.ret ([],false,q.1))else M q (ZF9 s x.var.toNat true) (i+1))else none else some (.go ())),
       ∃vs b c,((L ((count+1:Nat):Int) v00 0).bind fun o=>match o with
        | .ret r0=>some r0
        | .go s=>(M s (fun _=>false) 0).bind fun o=>match o with
         | .ret r0=>some r0
         | .go _=>some (s.2,true,s.1))=some (vs,b,((c:Nat):Int))/\ZCA w (d+1) t p count vs b c:=by
      intro v00 hv00 hv L hL M hM
      obtain⟨o,g1,g2⟩:=P.YAk w d hd p hp (ZG w t p) hl.symm hts h5 L hL ihx _ 0 (count+1) v00 rfl (by omega) (by rw[←hwt];omega)
      rw[g1]
      simp only[oS]
      rw[←hwt]at g2
      cases o with
      |ret r=>
       obtain⟨vs,b,c⟩:=r
       obtain⟨rfl,c',rfl,q3⟩:=g2
       exact⟨vs,false,c',rfl,⟨fun h=>(by cases h),fun hh=>absurd ⟨kidx hh.1 hh.2.1,by have:=hh.2.2;omega⟩ q3⟩,fun h=>by cases h⟩
      |go s=>
       obtain⟨c,vs⟩:=s
       obtain⟨rfl,q2,q3,q4⟩:=g2
       have hvs:vs=ZM w (d+1) t p:=by
        rw[q2,ZM,hv,if_neg h5,List.take_of_length_le (by simp;omega)];simp
       have sh:ZN w (d+1) t p:=⟨ho,hl,fun i a b c e=>(q3 i a b c e).1⟩
       have hvk:=ZEl hw ht sh
       rw[←hvs]at hvk
       dsimp only
       rw[ZQM (vs:=vs) (M:=M (((count+1+p.wt:Nat):Int),vs)) (r:=([],false,((count+1+p.wt:Nat):Int))) (fun x hx=>⟨(hvk x hx).1,(hvk x hx).2.1⟩) (fun s i=>by rw[hM]) _ 0 _ rfl,List.drop_zero]
       simp only[oS]
       by_cases hn:ZEp vs
       ·rw[if_pos (ZH ⟨hn,fun _ _=>by first|rfl|trivial⟩)]
        exact⟨vs,true,count+1+p.wt,rfl,⟨fun _=>⟨sh,⟨fun i a b c e=>(q3 i a b c e).2,by rw[if_neg h5,←hvs];exact hn⟩,by omega⟩,fun _=>rfl⟩,fun _=>⟨by omega,hvs⟩⟩
       ·rw[if_neg (by rw[ZE fun h=>hn h.1];simp)]
        exact no (fun h=>hn (by have:=h.2.1.2;rw[if_neg h5,←hvs]at this;exact this)) _
     by_cases h2:p.op=2
     ·rw[if_pos h2]
      exact fin [⟨p.var,t⟩] (by simp) (by rw[if_pos (.inl h2)]) (F.f132 w p ((11- (d+1):Nat):Int) (ZG w t p,dec (ZAW w t p/\p.kids.length=(ZG w t p).length))) (fun z vars i=>by rw[F.f132]) F.f128 (fun q s i=>by rw[F.f128])
     ·rw[if_neg h2]
      by_cases h6:p.op=6
      ·rw[if_pos h6]
       exact fin [⟨p.var,t⟩] (by simp) (by rw[if_pos (.inr h6)]) (F.f130 w p ((11- (d+1):Nat):Int) (ZG w t p,dec (ZAW w t p/\p.kids.length=(ZG w t p).length))) (fun z vars i=>by rw[F.f130]) F.f126 (fun q s i=>by rw[F.f126])
      ·rw[if_neg h6]
       exact fin [] (by simp) (by rw[if_neg (by omega)]) (F.f131 w p ((11- (d+1):Nat):Int) (ZG w t p,dec (ZAW w t p/\p.kids.length=(ZG w t p).length))) (fun z vars i=>by rw[F.f131]) F.f127 (fun q s i=>by rw[F.f127])
   ·rw[if_neg (by rw[ZE hs];simp)]
    exact no (fun h=>hs ⟨h.1.1,h.1.2.1⟩) _
termination_by d=>d
def ZBa (w:List Data)(t:Ty)(p:Pattern):Prop:=ZN w 10 t p/\ZBy w 10 t p/\1+p.wt<=60
theorem P.YAN (w:List Data)(hw:ZO w)(t:Ty)(ht:Zc w t)(p:Pattern)(hp:p.wt<=1048576):F.f85 w t p=some (dec (ZBa w t p)):=by
 unfold F.f85
 have e10:F.f70 w t p 10=some (dec (ZN w 10 t p)):=P.YU w hw 10 t p ht (by omega)
 rw[e10]
 simp only[oE,oS]
 by_cases h1:ZN w 10 t p
 ·rw[if_pos (ZH h1)]
  obtain⟨c,g1,g2,g3,g4,g5⟩:=P.YAl p hp 60 (by omega)
  have g1':F.f72 p 60=some (c:Int):=g1
  rw[g1']
  simp only[oS]
  by_cases hc:1+p.wt<=60
  ·rw[if_pos (by have:=g4 hc;omega),P.Yc w hw 10 t p ht h1 hp]
   simp only[oS]
   congr 1;exact ZS ⟨fun h=>⟨h1,h,hc⟩,fun h=>h.2.1⟩
  ·rw[if_neg (by have:=g5 (by omega);omega),ZE fun h=>hc h.2.2]
 ·rw[if_neg (by rw[ZE h1];simp),ZE fun h=>h1 h.1]
theorem P.Yl (w:List Data)(hw:ZO w)(t:Ty)(ht:Zc w t)(p:Pattern)(hp:p.wt<=1048576):∃vs,F.f133 w t p=some (vs,dec (ZBa w t p))/\(ZBa w t p->vs=ZM w 10 t p):=by
 unfold F.f133
 obtain⟨vs,b,c,g1,g2,g3⟩:=P.Yn w hw 10 t p 0 (by omega) ht hp (by omega)
 have g1':F.f129 w t p 1 0=some (vs,b,(c:Int)):=g1
 rw[g1']
 simp only[oE,oS]
 have hb:b=dec (ZBa w t p):=by
  cases b with
  |true=>rw[ZH];obtain⟨a,b,c⟩:=g2.1 rfl;exact⟨a,b,by omega⟩
  |false=>rw[ZE];intro h;have:=g2.2 ⟨h.1,h.2.1,by have:=h.2.2;omega⟩;cases this
 subst hb
 exact⟨vs,rfl,fun h=>(g3 (ZH h)).2⟩
def ZPT (v:Int):Nat->Pattern->Prop
 |0,_=>False
 |d+1,p=>(∃i,∃h:i<p.kids.length,ZPT v d p.kids[i])∨((p.op=2∨p.op=6)/\p.var=v)
theorem P.YAV (p:Pattern)(hp:p.wt<=67108864):F.f170 p=some p:=by
 induction p using Pattern.ind with
 |_ p ih=>
  have hw:=p.wt_eq
  rw[F.f170,ZBw (a:=p.kids) (g:=id) (f:=F.f170) (L:=F.f171 p) (fun out i=>by rw[F.f171]) (fun x hx=>ih x hx (by have:=Zg Pattern.wt hx;omega)) _ 0 [] rfl (by have:=ZAb Pattern.wt p.kids;simp;omega)]
  simp
  cases p;rfl
theorem ZHB :∀{a b:List Int},a.Nodup->(∀x,x∈a->x∈b)->b.length<=a.length->∀x,x∈b->x∈a
 | [],b,_,_,hl=>fun x hx=>by
  have:b=[]:=List.length_eq_zero_iff.1 (by simpa using hl)
  rw[this]at hx;cases hx
 |y::a,b,hn,hs,hl=>fun x hx=>by
  rw[List.nodup_cons]at hn
  have hy:=hs y (List.mem_cons_self ..)
  by_cases e:x=y
  ·rw[e];exact List.mem_cons_self ..
  ·refine List.mem_cons_of_mem _ (ZHB (a:=a) (b:=b.erase y) hn.2 (fun z hz=> ?_) ?_ x ((List.mem_erase_of_ne e).2 hx))
   ·exact(List.mem_erase_of_ne fun(e:z=y)=>hn.1 (by rw[←e];exact hz)).2 (hs z (List.mem_cons_of_mem _ hz))
   ·rw[List.length_erase_of_mem hy];simp at hl;omega
theorem ZD9 {a b:List VarType}(hn:ZEp a)(h:ZFC a b){v:Int}(hv:∃x,x∈b/\x.var=v):∃x,x∈a/\x.var=v:=by
 obtain⟨x,hx,e⟩:=hv
 have:=ZHB (a:=a.map VarType.var) (b:=b.map VarType.var) hn (fun y hy=>by obtain⟨z,hz,e⟩:=List.mem_map.1 hy;exact List.mem_map.2 ⟨z,h.2 z hz,e⟩) (by simp[h.1]) v (List.mem_map.2 ⟨x,hx,e⟩)
 obtain⟨z,hz,e⟩:=List.mem_map.1 this
 exact⟨z,hz,e⟩
theorem ZHY {w:List Data}{d:Nat}{t:Ty}{p:Pattern}(h5:p.op≠5){i:Nat}(h:i<(ZG w t p).length)(h':i<p.kids.length){x:VarType}(hx:x∈ZM w d (ZG w t p)[i] p.kids[i]):x∈ZM w (d+1) t p:=by
 rw[ZM,if_neg h5,List.take_of_length_le (by simp;omega),List.mem_append]
 refine .inr (List.mem_flatMap.2 ⟨((ZG w t p)[i],p.kids[i]),?_,hx⟩)
 have:((ZG w t p)[i],p.kids[i])=((ZG w t p).zip p.kids)[i]'(by simp;omega):=by simp
 rw[this];exact gM _
theorem ZEu {w:List Data}{v:Int}:∀{d:Nat} {t:Ty} {p:Pattern},ZN w d t p->ZBy w d t p->ZPT v d p->∃x,x∈ZM w d t p/\x.var=v
 |0,t,p,hs,_,_=>hs.elim
 |d+1,t,p,hs,hl,hh=>by
  obtain⟨ho,hlen,hk⟩:=hs
  obtain⟨l1,l2⟩:=hl
  rcases hh with⟨i,h',hh⟩|⟨h1,h2⟩
  ·have h:i<(ZG w t p).length:=by omega
   obtain⟨x,hx,e⟩:=ZEu (hk i (by omega) h h h') (l1 i (by omega) h h h') hh
   by_cases h5:p.op=5
   ·have et:=ZW ho h5
    have h0:0<p.kids.length:=by rw[hlen,et];simp
    have h1:1<p.kids.length:=by rw[hlen,et];simp
    have hl2:p.kids.length=2:=by rw[hlen,et];rfl
    rw[ZAi ho h5 h0]
    rw[if_pos h5]at l2
    have x0':0<(ZG w t p).length:=by rw[et];simp
    have y0:(ZG w t p)[0]=t:=by simp[et]
    have k0:=hk 0 (Nat.le_refl _) x0' x0' h0
    have l0:=l1 0 (Nat.le_refl _) x0' x0' h0
    rw[y0]at k0 l0
    have:i=0∨i=1:=by omega
    rcases this with rfl|rfl
    ·have ei:(ZG w t p)[0]=t:=by simp[et]
     rw[ei]at hx;exact⟨x,hx,e⟩
    ·have ei:(ZG w t p)[1]=t:=by simp[et]
     rw[ei]at hx
     exact ZD9 (ZCG k0 l0) (l2 h0 h1) ⟨x,hx,e⟩
   ·exact⟨x,ZHY h5 h h' hx,e⟩
  ·refine⟨⟨p.var,t⟩,?_,h2⟩
   rw[ZM,if_pos h1];simp
theorem ZEb {w:List Data}:∀{d:Nat} {t:Ty} {p:Pattern} {x:VarType},x∈ZM w d t p->ZPT x.var d p
 |0,t,p,x,hx=>by simp[ZM]at hx
 |d+1,t,p,x,hx=>by
  rw[ZM,List.mem_append]at hx
  rcases hx with hx|hx
  ·split at hx
   ·next h=>simp at hx;subst hx;exact .inr ⟨h,rfl⟩
   ·cases hx
  ·obtain⟨i,h,h',hm⟩:=ZC6 hx
   exact .inl ⟨i,h',ZEb hm⟩
theorem ZBd (a b c d e:Int):(⟨a,b,c,d,e,[]⟩:Pattern).wt=0:=by rw[Pattern.wt_eq];rfl
theorem ZLl (a b c d e:Int)(k:Pattern):(⟨a,b,c,d,e,[k]⟩:Pattern).wt=1+k.wt:=by rw[Pattern.wt_eq];simp
theorem ZG7 (a b c d e:Int)(k l:Pattern):(⟨a,b,c,d,e,[k,l]⟩:Pattern).wt=2+k.wt+l.wt:=by rw[Pattern.wt_eq];simp;omega
theorem ZIn {α:Type}(f:α->Nat):∀(l:List α) (i:Nat) (h:i<l.length) (x:α),wtL f (l.set i x)+f l[i]=wtL f l+f x
 |a::l,0,h,x=>by simp;omega
 |a::l,i+1,h,x=>by
  have:=ZIn f l i (by simpa using h) x
  simp;omega
theorem P.YX (p:Pattern)(hp:p.wt<=67108864):F.f154 p=some p:=by
 induction p using Pattern.ind with
 |_ p ih=>
  have hw:=p.wt_eq
  rw[F.f154,ZBw (a:=p.kids) (g:=id) (f:=F.f154) (L:=F.f155 p) (fun out i=>by rw[F.f155]) (fun x hx=>ih x hx (by have:=Zg Pattern.wt hx;omega)) _ 0 [] rfl (by have:=ZAb Pattern.wt p.kids;simp;omega)]
  simp
  cases p;rfl
theorem P.YAD (w:List Data)(hw:ZO w)(t:Ty)(ht:Zc w t)(p:Pattern)(hp:p.wt<=1048576):F.f134 w t p=some (dec (ZBa w t p)):=by
 unfold F.f134
 obtain⟨vs,h1,_⟩:=P.Yl w hw t ht p hp
 rw[h1];rfl
def hv (d:Nat)(p:Pattern):Prop:=∃v,ZPT v d p
theorem Zi {d:Nat}{p:Pattern}:hv (d+1) p↔(p.op=2∨p.op=6)∨∃i,∃h:i<p.kids.length,hv d p.kids[i]:=by
 constructor
 ·rintro⟨v,h⟩
  rcases h with⟨i,hi,h⟩|⟨h,_⟩
  ·exact .inr ⟨i,hi,v,h⟩
  ·exact .inl h
 ·rintro(h|⟨i,hi,v,h⟩)
  ·exact⟨p.var,.inr ⟨h,rfl⟩⟩
  ·exact⟨v,.inl ⟨i,hi,h⟩⟩
def vb :Nat->Pattern->Prop
 |0,_=>False
 |d+1,p=>(∀i (h:i<p.kids.length),vb d p.kids[i])/\(p.op=5->∀i j (hi:i<p.kids.length) (hj:j<p.kids.length),hv d p.kids[i]->hv d p.kids[j])
theorem ZD8 {w:List Data}:∀{d:Nat} {t:Ty} {p:Pattern},ZN w d t p->ZN w (d+1) t p
 |d+1,t,p,h=>⟨h.1,h.2.1,fun i h0 hi h1 h2=>ZD8 (h.2.2 i h0 hi h1 h2)⟩
theorem ZEt {w:List Data}:∀{d:Nat} {t:Ty} {p:Pattern},ZN w d t p->(hv (d+1) p↔hv d p)
 |d+1,t,p,h=>by
  rw[Zi,Zi (d:=d)]
  have hk:∀i (hi:i<p.kids.length),(hv (d+1) p.kids[i]↔hv d p.kids[i]):=fun i hi=>ZEt (h.2.2 i (Nat.zero_le _) (by rw[←h.2.1];exact hi) (by rw[←h.2.1];exact hi) hi)
  refine or_congr Iff.rfl ⟨fun⟨i,hi,q⟩=>⟨i,hi,(hk i hi).1 q⟩,fun⟨i,hi,q⟩=>⟨i,hi,(hk i hi).2 q⟩⟩
theorem ZIr {w:List Data}:∀{d:Nat} {t:Ty} {p:Pattern},ZN w d t p->vb d p->vb (d+1) p
 |d+1,t,p,h,hb=>by
  have hs:∀i (hi:i<p.kids.length),∃u,ZN w d u p.kids[i]:=fun i hi=>⟨_,h.2.2 i (Nat.zero_le _) (by rw[←h.2.1];exact hi) (by rw[←h.2.1];exact hi) hi⟩
  refine⟨fun i hi=> ?_,fun h5 i j hi hj hq=> ?_⟩
  ·obtain⟨u,hu⟩:=hs i hi;exact ZIr hu (hb.1 i hi)
  ·obtain⟨u,hu⟩:=hs i hi
   obtain⟨u2,hu2⟩:=hs j hj
   exact(ZEt hu2).2 (hb.2 h5 i j hi hj ((ZEt hu).1 hq))
theorem ZIs {w:List Data}:∀{d:Nat} {t:Ty} {q:Pattern},ZN w d t q->vb d q->(ZM w d t q=[]↔¬hv d q)
 |d+1,t,q,hs,hb=>by
  have hs':=hs
  obtain⟨ho,hl,hk⟩:=hs
  have ihk:∀i (h:i<(ZG w t q).length) (h':i<q.kids.length),(ZM w d (ZG w t q)[i] q.kids[i]=[]↔¬hv d q.kids[i]):=fun i h h'=>ZIs (hk i (Nat.zero_le _) h h h') (hb.1 i h')
  by_cases h26:q.op=2∨q.op=6
  ·refine⟨fun h=> ?_,fun h=>absurd (Zi.2 (.inl h26)) h⟩
   rw[ZM,if_pos h26]at h;simp at h
  by_cases h5:q.op=5
  ·have et:=ZW ho h5
   have h0:0<q.kids.length:=by rw[hl,et];simp
   have h0':0<(ZG w t q).length:=by rw[et];simp
   have e0:(ZG w t q)[0]=t:=by simp[et]
   rw[ZAi ho h5 h0]
   have i0:=ihk 0 h0' h0
   rw[e0]at i0
   rw[i0,Zi]
   refine not_congr ⟨fun h=>.inr ⟨0,h0,h⟩,fun h=> ?_⟩
   rcases h with h|⟨i,hi,h⟩
   ·exact absurd h h26
   ·exact hb.2 h5 i 0 hi h0 h
  ·constructor
   ·intro h hh
    rcases Zi.1 hh with h2|⟨i,hi,h2⟩
    ·exact h26 h2
    ·have hne:ZM w d ((ZG w t q)[i]'(by omega)) q.kids[i]≠[]:=fun e=>(ihk i (by omega) hi).1 e h2
     obtain⟨x,hx⟩:=List.exists_mem_of_ne_nil _ hne
     have:=ZHY h5 (by omega) hi hx
     rw[h]at this;cases this
   ·intro h
    refine List.eq_nil_iff_forall_not_mem.2 fun x hx=> ?_
    rw[ZM,if_neg h26,List.nil_append]at hx
    obtain⟨i,h1,h2,h3⟩:=ZC6 hx
    have:=(ihk i h1 h2).2 fun hh=>h (Zi.2 (.inr ⟨i,h2,hh⟩))
    rw[this]at h3;cases h3
theorem ZJ9 {α:Type}{s:List α}{Q:α->Prop}{f:α->Option Bool}{L:Nat->Option (Lo Int Unit)}
  (hL:∀i,L i=if i<s.length then s[i]? >>=fun x=>f x>>=fun v=>if v=true then some (.ret (i:Int))else L (i+1)else some (.go ())) (hf:∀x,x∈s->f x=some (dec (Q x))):
  ∀m i,s.length-i=m->(∃n:Nat,L i=some (.ret (n:Int))/\∃j,∃h:j<s.length,Q s[j])∨(L i=some (.go ())/\∀j (h:j<s.length),i<=j->¬Q s[j]):=by
 intro m
 induction m with
 |zero=>
  intro i hm
  rw[hL,if_neg (by omega)]
  exact .inr ⟨rfl,fun j hj h1=>by omega⟩
 |succ m ih=>
  intro i hm
  have hi:i<s.length:=by omega
  rw[hL,if_pos hi,gQ hi]
  simp only[oE,oS,hf _ (gM hi)]
  by_cases hq:Q s[i]
  ·rw[if_pos (ZH hq)]
   exact .inl ⟨i,rfl,i,hi,hq⟩
  ·rw[if_neg (by rw[ZE hq];simp)]
   rcases ih (i+1) (by omega)with h|⟨h1,h2⟩
   ·exact .inl h
   ·refine .inr ⟨h1,fun j hj hij=> ?_⟩
    rcases Nat.lt_or_ge i j with q|q
    ·exact h2 j hj q
    ·have:i=j:=by omega
     subst this;exact hq
theorem P.Yj {w:List Data}:∀(d:Nat) (t:Ty) (p:Pattern),ZN w d t p->F.f147 p=some (dec (hv d p))
 |d+1,t,p,hs=>by
  rw[F.f147]
  by_cases h2:p.op=2
  ·rw[if_pos h2,ZH (Zi.2 (.inl (.inl h2)))]
  by_cases h6:p.op=6
  ·rw[if_neg h2,if_pos h6,ZH (Zi.2 (.inl (.inr h6)))]
  rw[if_neg h2,if_neg h6,F.f148,F.f149]
  rcases ZJ9 (s:=p.kids) (Q:=hv d) (f:=F.f147) (L:=F.f150 p.kids) (fun i=>by rw[F.f150]) (fun x hx=>by
   obtain⟨i,hi,rfl⟩:=List.getElem_of_mem hx
   exact P.Yj d _ _ (hs.2.2 i (Nat.zero_le _) (by rw[←hs.2.1];exact hi) (by rw[←hs.2.1];exact hi) hi)) _ 0 rfl with⟨n,h,j,hj,hq⟩|⟨h,hn⟩
  ·rw[h,ZH (Zi.2 (.inr ⟨j,hj,hq⟩))]
   simp
  ·rw[h,ZE]
   ·simp
   ·intro hh
    rcases Zi.1 hh with q|⟨j,hj,q⟩
    ·rcases q with q|q
     ·exact h2 q
     ·exact h6 q
    ·exact hn j hj (Nat.zero_le _) q
def ZAM (l:List Pattern):Prop:=∀j (h:j<l.length),l[j].op=1
theorem P.YA (p:Pattern):F.f166 p=some (dec (ZAM p.kids)):=by
 unfold F.f166
 rw[ZHg (n:=p.kids.length) (Q:=fun j=>∀h:j<p.kids.length,p.kids[j].op=1) (r:=false) (L:=F.f165 p) (fun k hk=>by rw[F.f165,if_neg (by omega)])
  (fun k hk hq=>by
   rw[F.f165,if_pos hk,gQ hk]
   simp[F.f164,hq hk])
  (fun k hk hq=>by
   have:¬p.kids[k].op=1:=fun e=>hq fun _=>e
   rw[F.f165,if_pos hk,gQ hk]
   simp[F.f164,this]) _ 0 rfl]
 simp only[oE,oS]
 by_cases h:ZAM p.kids
 ·rw[ZH h,if_pos (ZH fun j _ hj _=>h j hj)]
 ·rw[ZE h,if_neg (by rw[ZE fun hh=>h fun j hj=>hh j (Nat.zero_le _) hj hj];simp)]
theorem P.YK (l:List Pattern):F.f143 l=some (dec (ZAM l)):=by
 unfold F.f143 F.f142 F.f141
 rcases ZJ9 (s:=l) (Q:=fun p=>¬p.op=1) (f:=F.f139) (L:=F.f140 l) (fun i=>by rw[F.f140]) (fun x hx=>by
  unfold F.f139;rw[←ZAL]) _ 0 rfl with⟨n,h,j,hj,hq⟩|⟨h,hn⟩
 ·rw[h,ZE fun hw=>hq (hw j hj)]
  simp
 ·have hw:ZAM l:=fun j hj=>Classical.byContradiction fun hh=>hn j hj (Nat.zero_le _) hh
  rw[h,ZH hw]
  simp
theorem P.YH (x:Pattern):∀y:Pattern,∃b,F.f162 x y=some b/\F.f144 x y=some b:=by
 induction x using Pattern.ind with
 |_ x ih=>
  intro y
  rw[F.f162,F.f144,F.f145]
  by_cases h1:x.op=y.op
  rotate_left
  ·rw[if_neg h1,if_neg h1];exact⟨_,rfl,rfl⟩
  rw[if_pos h1,if_pos h1]
  by_cases h2:x.ctor=y.ctor
  rotate_left
  ·rw[if_neg h2,if_neg h2];exact⟨_,rfl,rfl⟩
  rw[if_pos h2,if_pos h2]
  by_cases h3:x.n=y.n
  rotate_left
  ·rw[if_neg h3,if_neg h3];exact⟨_,rfl,rfl⟩
  rw[if_pos h3,if_pos h3]
  by_cases h4:x.m=y.m
  rotate_left
  ·rw[if_neg h4,if_neg h4];exact⟨_,rfl,rfl⟩
  rw[if_pos h4,if_pos h4]
  by_cases h5:x.var=y.var
  rotate_left
  ·rw[if_neg h5,if_neg h5];exact⟨_,rfl,rfl⟩
  rw[if_pos h5,if_pos h5]
  by_cases h6:x.kids.length=y.kids.length
  rotate_left
  ·rw[if_neg h6,if_neg h6];exact⟨_,rfl,rfl⟩
  rw[if_pos h6,if_pos h6]
  have key:∀m i,x.kids.length-i=m->∃o,F.f163 x y i=some o/\F.f146 x.kids y.kids i=some o:=by
   intro m
   induction m with
   |zero=>intro i hi;rw[F.f163,F.f146,if_neg (by omega),if_neg (by omega)];exact⟨_,rfl,rfl⟩
   |succ m ihm=>
    intro i hi
    have a:i<x.kids.length:=by omega
    have b:i<y.kids.length:=by omega
    obtain⟨v,e1,e2⟩:=ih _ (gM a) y.kids[i]
    rw[F.f163,F.f146,if_pos a,if_pos a,gQ a,gQ b]
    simp only[oE,oS,e1,e2]
    cases v with
    |true=>rw[if_pos rfl,if_pos rfl];exact ihm (i+1) (by omega)
    |false=>exact⟨_,rfl,rfl⟩
  obtain⟨o,e1,e2⟩:=key _ 0 rfl
  rw[e1,e2]
  simp only[oE,oS]
  cases o<;>exact⟨_,rfl,rfl⟩
theorem ZLm {α:Type}{f:α->Nat}:∀{qs ks:List α},qs.length=ks.length->(∀i (h:i<qs.length) (h':i<ks.length),f qs[i]<=f ks[i])->wtL f qs<=wtL f ks
 | [],[],_,_=>Nat.le_refl _
 |q::qs,k::ks,hl,h=>by
  have h0:=h 0 (by simp) (by simp)
  have hr:=ZLm (qs:=qs) (ks:=ks) (by simpa using hl) fun i h1 h2=>h (i+1) (by simp;omega) (by simp;omega)
  rw[ZBR,ZBR]
  simp only[List.getElem_cons_zero]at h0
  omega
theorem ZCN {β:Type}{qs:List β}{L:List β->Nat->Option (List β)}(h0:∀out i,qs.length<=i->L out i=some out)
  (h1:∀out i (h:i<qs.length),out.length+1<=67108864->L out i=L (out++[qs[i]]) (i+1)):∀m i out,qs.length-i=m->out.length+m<=67108864->L out i=some (out++qs.drop i):=by
 intro m
 induction m with
 |zero=>intro i out hm _;rw[h0 _ _ (by omega),List.drop_eq_nil_of_le (by omega)];simp
 |succ m ih=>
  intro i out hm hl
  have hi:i<qs.length:=by omega
  rw[h1 out i hi (by omega),ih (i+1) _ (by omega) (by simp;omega),List.append_assoc,List.singleton_append,←List.drop_eq_getElem_cons hi]
def ZA9 :Pattern:=⟨1,0,0,0,0,[]⟩
theorem ZHe {w:List Data}{d:Nat}{t:Ty}{p:Pattern}(hs:ZN w d t p)(h1:p.op=1):p=ZA9:=by
 cases d with
 |zero=>exact hs.elim
 |succ d=>
  obtain⟨ho,hl,_⟩:=hs
  have e:ZG w t p=[]:=by unfold ZG;rw[if_neg (by omega),if_neg (by omega),if_neg (by omega)]
  rw[e]at hl
  have hk:p.kids=[]:=List.eq_nil_of_length_eq_zero hl
  unfold ZAW at ho
  obtain⟨op,ctor,n,m,var,kids⟩:=p
  simp only at*
  subst hk
  have:ctor=0/\n=0/\m=0/\var=0:=by omega
  obtain⟨rfl,rfl,rfl,rfl⟩:=this
  subst h1;rfl
theorem ZBF {w:List Data}{d:Nat}{t:Ty}{p:Pattern}(hs:ZN w d t p)(h:p.op=1∨p.op=3):¬hv d p:=by
 cases d with
 |zero=>exact hs.elim
 |succ d=>
  obtain⟨ho,hl,_⟩:=hs
  have e:ZG w t p=[]:=by unfold ZG;rw[if_neg (by omega),if_neg (by omega),if_neg (by omega)]
  rw[e]at hl
  intro hh
  rcases Zi.1 hh with q|⟨i,hi,_⟩
  ·omega
  ·rw[hl]at hi;cases hi
theorem ZBW {w:List Data}(d:Nat){t:Ty}{p:Pattern}(ho:ZAW w t p)(hp:p.op=1∨p.op=2∨p.op=3)(hk:p.kids=[]):ZN w (d+1) t p/\vb (d+1) p/\p.wt=0:=by
 have e:ZG w t p=[]:=by unfold ZG;rw[if_neg (by omega),if_neg (by omega),if_neg (by omega)]
 refine⟨⟨ho,by rw[e,hk];rfl,fun i _ hi=>(by rw[e]at hi;cases hi)⟩,⟨fun i hi=>(by rw[hk]at hi;simp at hi),fun _ i j hi=>(by rw[hk]at hi;simp at hi)⟩,by rw[Pattern.wt_eq,hk];rfl⟩
theorem ZDn {w:List Data}(d:Nat){t:Ty}:ZN w (d+1) t ZA9/\vb (d+1) ZA9/\ZA9.wt=0:=ZBW d (.inl ⟨rfl,rfl,rfl,rfl,rfl⟩) (.inl rfl) rfl
def ZHE (w:List Data)(d:Nat)(t:Ty)(p q:Pattern):Prop:=ZN w d t q/\vb d q/\(hv d q↔hv d p)/\q.wt<=p.wt
noncomputable def Zd (n m:Int):Pattern:=if n=0/\m=9 then ZA9 else⟨3,0,n,m,0,[]⟩
theorem P.YF (n m:Int):F.f161 n m=some (Zd n m):=by
 unfold F.f161 Zd F.f160
 by_cases h1:n=0
 ·by_cases h2:m=9
  ·rw[if_pos h1,if_pos h2,if_pos ⟨h1,h2⟩];rfl
  ·rw[if_pos h1,if_neg h2,if_neg fun h=>h2 h.2]
 ·rw[if_neg h1,if_neg fun h=>h1 h.1]
theorem P.Yp (n m:Int):F.f138 n m=some (Zd n m):=by
 unfold F.f138 Zd F.f137
 by_cases h1:n=0
 ·by_cases h2:m=9
  ·rw[if_pos h1,if_pos h2,if_pos ⟨h1,h2⟩];rfl
  ·rw[if_pos h1,if_neg h2,if_neg fun h=>h2 h.2]
 ·rw[if_neg h1,if_neg fun h=>h1 h.1]
theorem ZHJ {w:List Data}(d:Nat){t:Ty}{n m:Int}(ht:t.data= -1)(h0:0<=n)(h1:n<=m)(h2:m<=9):ZN w (d+1) t (Zd n m)/\vb (d+1) (Zd n m)/\¬hv (d+1) (Zd n m)/\(Zd n m).wt=0:=by
 unfold Zd
 split
 ·obtain⟨a,b,c⟩:=ZDn (w:=w) d (t:=t)
  exact⟨a,b,ZBF a (.inl rfl),c⟩
 ·obtain⟨a,b,c⟩:=ZBW (w:=w) d (t:=t) (p:=⟨3,0,n,m,0,[]⟩) (.inr (.inr (.inl ⟨rfl,rfl,rfl,ht,h0,h1,h2⟩))) (.inr (.inr rfl)) rfl
  exact⟨a,b,ZBF a (.inr rfl),c⟩
theorem ZCw {w:List Data}{d:Nat}{t:Ty}{p:Pattern}(hs:ZN w d t p)(h:p.op=3):t.data= -1/\0<=p.n/\p.n<=p.m/\p.m<=9:=by
 cases d with
 |zero=>exact hs.elim
 |succ d=>have:=hs.1;unfold ZAW at this;omega
theorem ZL7 {w:List Data}{d:Nat}{t:Ty}{p:Pattern}(hs:ZN w d t p)(h4:p.op=4)(hw:ZAM p.kids):¬hv d p:=by
 cases d with
 |zero=>exact hs.elim
 |succ d=>
  intro hh
  rcases Zi.1 hh with q|⟨i,hi,q⟩
  ·omega
  ·exact ZBF (hs.2.2 i (Nat.zero_le _) (by rw[←hs.2.1];exact hi) (by rw[←hs.2.1];exact hi) hi) (.inl (hw i hi)) q
theorem P.YAc (w:List Data)(hw:ZO w)(d:Nat)(t:Ty)(ht:Zc w t)(a b:Pattern)(hsa:ZN w d t a)(hsb:ZN w d t b)(vba:vb d a)(vbb:vb d b)(hab:hv d a↔hv d b)(hwa:a.wt<=1048576):
  ∃q,F.f167 w t a b=some q/\F.f151 w t ⟨5,0,0,0,0,[a,b]⟩=some q/\ZN w (d+1) t q/\vb (d+1) q/\(hv (d+1) q↔hv d a)/\q.wt<=2+a.wt+b.wt:=by
 obtain⟨bS,s1,s2⟩:=P.YH a b
 have hvars:F.f74 [] w t a=some (ZM w d t a):=by rw[P.YE w hw d t a [] ht hsa (by simp;omega)];rfl
 have hvl:(ZM w d t a).length=0↔¬hv d a:=by rw[List.length_eq_zero_iff];exact ZIs hsa vba
 have hh:=P.Yj d t a hsa
 have hc1:=P.YB w hw t (ZAA ht.1)
 have hc2:=P.YG w hw t (ZAA ht.1)
 have good_a:ZN w (d+1) t a/\vb (d+1) a/\(hv (d+1) a↔hv d a)/\a.wt<=2+a.wt+b.wt:=⟨ZD8 hsa,ZIr hsa vba,ZEt hsa,by omega⟩
 have good_any:¬hv d a->ZN w (d+1) t ZA9/\vb (d+1) ZA9/\(hv (d+1) ZA9↔hv d a)/\ZA9.wt<=2+a.wt+b.wt:=fun hn=>by
  obtain⟨x,y,z⟩:=ZDn (w:=w) d (t:=t)
  exact⟨x,y,⟨fun h=>absurd h (ZBF x (.inl rfl)),fun h=>absurd h hn⟩,by omega⟩
 have good_or:ZN w (d+1) t ⟨5,0,0,0,0,[a,b]⟩/\vb (d+1) ⟨5,0,0,0,0,[a,b]⟩/\(hv (d+1) ⟨5,0,0,0,0,[a,b]⟩↔hv d a)/\Pattern.wt ⟨5,0,0,0,0,[a,b]⟩<=2+a.wt+b.wt:=by
  have et:ZG w t ⟨5,0,0,0,0,[a,b]⟩=[t,t]:=by unfold ZG;rfl
  refine⟨⟨.inr (.inr (.inr (.inr (.inl ⟨rfl,rfl,rfl,rfl,rfl⟩)))),by rw[et];rfl,fun i _ _ h1 h2=> ?_⟩,⟨fun i hi=> ?_,fun _ i j hi hj hq=> ?_⟩,?_,by rw[ZG7];omega⟩
  ·match i,h1,h2 with
   |0,h1,h2=>exact hsa
   |1,h1,h2=>exact hsb
   |k+2,h1,h2=>exact absurd (show k+2<2 from h2) (by omega)
  ·match i,hi with
   |0,_=>exact vba
   |1,_=>exact vbb
   |k+2,hi=>exact absurd (show k+2<2 from hi) (by omega)
  ·match i,j,hi,hj,hq with
   |0,0,_,_,hq=>exact hq
   |0,1,_,_,hq=>exact hab.1 hq
   |1,0,_,_,hq=>exact hab.2 hq
   |1,1,_,_,hq=>exact hq
   |k+2,_,hi,_,_=>exact absurd (show k+2<2 from hi) (by omega)
   |_,k+2,_,hj,_=>exact absurd (show k+2<2 from hj) (by omega)
  ·rw[Zi]
   constructor
   ·rintro(q|⟨i,hi,q⟩)
    ·simp at q
    ·match i,hi,q with
     |0,_,q=>exact q
     |1,_,q=>exact hab.2 q
     |k+2,hi,_=>exact absurd (show k+2<2 from hi) (by omega)
   ·intro q;exact .inr ⟨0,by simp,q⟩
 have spec:=fun(X:Pattern) (e:F.f167 w t a b=some X) (e2:F.f151 w t ⟨5,0,0,0,0,[a,b]⟩=some X) (g:ZN w (d+1) t X/\vb (d+1) X/\(hv (d+1) X↔hv d a)/\X.wt<=2+a.wt+b.wt)=>(⟨X,e,e2,g⟩:∃q,F.f167 w t a b=some q/\F.f151 w t ⟨5,0,0,0,0,[a,b]⟩=some q/\ZN w (d+1) t q/\vb (d+1) q/\(hv (d+1) q↔hv d a)/\q.wt<=2+a.wt+b.wt)
 cases bS with
 |true=>exact spec a (by unfold F.f167;simp[s1]) (by unfold F.f151;simp[s2]) good_a
 |false=>
  by_cases a1:a.op=1
  ·exact spec a (by unfold F.f167 F.f164;simp[s1,a1]) (by unfold F.f151;simp[s2,a1]) good_a
  by_cases a3:a.op=3
  ·have hna:=ZBF hsa (.inr a3)
   obtain⟨td,q1,q2,q3⟩:=ZCw hsa a3
   by_cases b3:b.op=3
   ·obtain⟨_,r1,r2,r3⟩:=ZCw hsb b3
    have w1:i64.wrap (b.m+1)=b.m+1:=ZF (by omega) (by omega)
    have w2:i64.wrap (a.m+1)=a.m+1:=ZF (by omega) (by omega)
    by_cases c1:a.n<=b.m+1
    ·by_cases c2:b.n<=a.m+1
     ·obtain⟨g1,g2,g3,g4⟩:=ZHJ (w:=w) d (t:=t) (n:=if b.n<a.n then b.n else a.n) (m:=if a.m<b.m then b.m else a.m) td (by split<;>omega) (by split<;>split<;>omega) (by split<;>omega)
      refine spec (Zd (if b.n<a.n then b.n else a.n) (if a.m<b.m then b.m else a.m)) ?_ ?_ ⟨g1,g2,⟨fun h=>absurd h g3,fun h=>absurd h hna⟩,by omega⟩
      ·unfold F.f167 F.f164
       by_cases c3:b.n<a.n<;>by_cases c4:a.m<b.m<;>simp[s1,a1,a3,b3,w1,w2,c1,c2,c3,c4,P.YF]
      ·unfold F.f151
       simp[s2,a1,a3,b3,w1,w2,c1,c2,P.Yp]
     ·exact spec _ (by unfold F.f167 F.f164;simp[s1,a1,a3,b3,w1,w2,c1,c2]) (by unfold F.f151;simp[s2,a1,a3,b3,w1,w2,c1,c2]) good_or
    ·exact spec _ (by unfold F.f167 F.f164;simp[s1,a1,a3,b3,w1,w2,c1]) (by unfold F.f151;simp[s2,a1,a3,b3,w1,w2,c1]) good_or
   ·by_cases b1:b.op=1
    ·have hb:=ZHe hsb b1
     have hz:ZM w d t a=[]:=List.length_eq_zero_iff.1 (hvl.2 hna)
     exact spec ZA9 (by unfold F.f167 F.f164;simp[s1,a1,a3,b3,b1,hvars,hz];exact hb) (by unfold F.f151 F.f137;simp[s2,a1,a3,b3,b1,hh,ZE hna];rfl) (good_any hna)
    ·exact spec _ (by unfold F.f167 F.f164;simp[s1,a1,a3,b3,b1]) (by unfold F.f151;simp[s2,a1,a3,b3,b1]) good_or
  ·by_cases b1:b.op=1
   ·have hb:=ZHe hsb b1
    have hb4:¬b.op=4:=by omega
    by_cases hva:hv d a
    ·have hz:¬(ZM w d t a).length=0:=fun e=>hvl.1 e hva
     have hz':¬ZM w d t a=[]:=fun e=>hz (by rw[e];rfl)
     exact spec _ (by unfold F.f167 F.f164;simp[s1,a1,a3,b1,hvars,hz']) (by unfold F.f151;simp[s2,a1,a3,b1,hh,ZH hva]) good_or
    ·have hz:ZM w d t a=[]:=List.length_eq_zero_iff.1 (hvl.2 hva)
     exact spec ZA9 (by unfold F.f167 F.f164;simp[s1,a1,a3,b1,hvars,hz];exact hb) (by unfold F.f151 F.f137;simp[s2,a1,a3,b1,hh,ZE hva];rfl) (good_any hva)
   ·by_cases a4:a.op=4
    rotate_left
    ·exact spec _ (by unfold F.f167 F.f164;simp[s1,a1,a3,b1,a4]) (by unfold F.f151;simp[s2,a1,a3,b1,a4]) good_or
    by_cases b4:b.op=4
    rotate_left
    ·exact spec _ (by unfold F.f167 F.f164;simp[s1,a1,a3,b1,a4,b4]) (by unfold F.f151;simp[s2,a1,a3,b1,a4,b4]) good_or
    by_cases wa:ZAM a.kids
    rotate_left
    ·exact spec _ (by unfold F.f167 F.f164;simp[s1,a1,a3,b1,a4,b4,P.YA,ZE wa]) (by unfold F.f151;simp[s2,a1,a3,b1,a4,b4,P.YK,ZE wa]) good_or
    by_cases wb:ZAM b.kids
    rotate_left
    ·exact spec _ (by unfold F.f167 F.f164;simp[s1,a1,a3,b1,a4,b4,P.YA,ZH wa,ZE wb]) (by unfold F.f151;simp[s2,a1,a3,b1,a4,b4,P.YK,ZH wa,ZE wb]) good_or
    by_cases cc:a.ctor=b.ctor
    ·exact spec _ (by unfold F.f167 F.f164;simp[s1,a1,a3,b1,a4,b4,P.YA,ZH wa,ZH wb,cc]) (by unfold F.f151;simp[s2,a1,a3,b1,a4,b4,cc]) good_or
    by_cases l2:(ZJ w t).length=2
    ·exact spec ZA9 (by unfold F.f167 F.f164 F.f160;simp[s1,a1,a3,b1,a4,b4,P.YA,ZH wa,ZH wb,cc,hc1,l2];rfl) (by unfold F.f151 F.f137;simp[s2,a1,a3,b1,a4,b4,P.YK,ZH wa,ZH wb,cc,hc2,l2];rfl) (good_any (ZL7 hsa a4 wa))
    ·exact spec _ (by unfold F.f167 F.f164;simp[s1,a1,a3,b1,a4,b4,P.YA,ZH wa,ZH wb,cc,hc1,l2]) (by unfold F.f151;simp[s2,a1,a3,b1,a4,b4,P.YK,ZH wa,ZH wb,cc,hc2,l2]) good_or
theorem ZGO (p:Pattern):(⟨p.op,p.ctor,p.n,p.m,p.var,p.kids⟩:Pattern)=p:=by cases p;rfl
theorem ZC9 {α:Type}{l:List α}(h:l.length=2):l=[l[0]'(by omega),l[1]'(by omega)]:=by
 match l,h with
 | [x,y],_=>rfl
theorem ZDA {α:Type}{l:List α}(h:l.length=1):l=[l[0]'(by omega)]:=by
 match l,h with
 | [x],_=>rfl
theorem P.Yz (w:List Data)(hw:ZO w)(d:Nat)(IH:∀t p,Zc w t->ZN w d t p->ZBy w d t p->p.wt<=1048576->∃q,F.f168 w t p=some q/\F.f152 w t p=some q/\ZHE w d t p q)
  (t:Ty) (p:Pattern) (ht:Zc w t) (hs:ZN w (d+1) t p) (hl:ZBy w (d+1) t p) (hp:p.wt<=1048576):
  ∃qs:List Pattern,qs.length=p.kids.length/\∀i (h1:i<(ZG w t p).length) (h2:i<p.kids.length) (h3:i<qs.length),
   F.f168 w (ZG w t p)[i] p.kids[i]=some qs[i]/\F.f152 w (ZG w t p)[i] p.kids[i]=some qs[i]/\ZHE w d (ZG w t p)[i] p.kids[i] qs[i]:=by
 obtain⟨ho,hlen,hk⟩:=hs
 have hts:=ZAC hw ht ho
 have hwt:=p.wt_eq
 have ex:∀i:Fin p.kids.length,∃q,F.f168 w ((ZG w t p)[i.1]'(by have:=i.2;omega)) p.kids[i.1]=some q/\F.f152 w ((ZG w t p)[i.1]'(by have:=i.2;omega)) p.kids[i.1]=some q/\ZHE w d ((ZG w t p)[i.1]'(by have:=i.2;omega)) p.kids[i.1] q:=by
  intro i
  have h2:=i.2
  have h1:i.1<(ZG w t p).length:=by omega
  have:=Zg Pattern.wt (gM h2)
  exact IH _ _ (hts _ (gM h1)) (hk i.1 (Nat.zero_le _) h1 h1 h2) (hl.1 i.1 (Nat.zero_le _) h1 h1 h2) (by omega)
 refine⟨List.ofFn fun i=>(ex i).choose,by simp,fun i h1 h2 h3=> ?_⟩
 rw[List.getElem_ofFn]
 exact(ex ⟨i,h2⟩).choose_spec
end Go.Vl
