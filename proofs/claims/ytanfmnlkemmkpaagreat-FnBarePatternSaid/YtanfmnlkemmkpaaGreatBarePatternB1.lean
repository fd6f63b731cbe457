/- A part of the proof. -/
import Derived.Test.YtanfmnlkemmkpaaGreatVlQ
import Derived.Test.YtanfmnlkemmkpaaGreatBarePatternE
set_option linter.all false
set_option maxRecDepth 100000
namespace Go.Vl
open Go Go.RowKit
open Go.IntKind (i64)
theorem oS {α β:Type}{a:α}{f:α->Option β}:(some a).bind f=f a:=rfl
theorem oE {α β:Type}:(bind:Option α->(α->Option β)->Option β)=Option.bind:=rfl
theorem gQ {α:Type}{l:List α}{i:Nat}(h:i<l.length):l[i]? =some l[i]:=List.getElem?_eq_getElem h
theorem gM {α:Type}{l:List α}{n:Nat}(h:n<l.length):l[n]∈l:=List.getElem_mem h
noncomputable def ZGY {α:Type}(p:α->Prop):Nat->List α->Option Nat
 |_,[]=>none
 |k,x::r=>if dec (p x)=true then some k else ZGY p (k+1) r
theorem ZBB {α:Type}{p:α->Prop}:∀{l:List α} {k j:Nat},ZGY p k l=some j->k<=j/\∃h:j-k<l.length,p l[j-k]/\∀i (hi:i<l.length),i<j-k->¬p l[i]
 |x::r,k,j,h=>by
  simp only[ZGY]at h
  split at h
  ·next hp=>
   obtain rfl:=Option.some.inj h
   refine⟨Nat.le_refl _,by simp,?_,fun i _ hi=>by omega⟩
   simpa using ZCh.1 hp
  ·next hp=>
   obtain⟨h1,h2,h3,h4⟩:=ZBB h
   have e:j-k=(j- (k+1))+1:=by omega
   refine⟨by omega,by simp;omega,?_,fun i hi hlt=> ?_⟩
   ·simp only[e,List.getElem_cons_succ];exact h3
   ·cases i with
    |zero=>exact fun hq=>hp (ZI hq)
    |succ i=>exact h4 i (by simpa using hi) (by omega)
theorem ZBC {α:Type}{p:α->Prop}:∀{l:List α} {k:Nat},ZGY p k l=none->∀x,x∈l->¬p x
 | [],_,_=>fun x hx=>by cases hx
 |x::r,k,h=>by
  simp only[ZGY]at h
  split at h
  ·cases h
  ·next hp=>
   intro y hy
   rcases List.mem_cons.1 hy with rfl|hy
   ·exact fun hq=>hp (ZI hq)
   ·exact ZBC h y hy
theorem ZNL {α:Type}{a:List α}{p:α->Prop}{L:Nat->Option (Lo Int Unit)}(h0:∀k,a.length<=k->L k=some (.go ()))(h1:∀k (h:k<a.length),¬p a[k]->L k=L (k+1))
  (h2:∀k (h:k<a.length),p a[k]->L k=some (.ret (k:Int))):∀(m k:Nat),a.length-k=m->L k=some (match ZGY p k (a.drop k)with|some j=>.ret (j:Int)|none=>.go ()):=by
 intro m
 induction m with
 |zero=>intro k hm;rw[h0 k (by omega),List.drop_eq_nil_of_le (by omega)];rfl
 |succ m ih=>
  intro k hm
  have hk:k<a.length:=by omega
  rw[List.drop_eq_getElem_cons hk]
  by_cases hp:p a[k]
  ·rw[h2 k hk hp];simp only[ZGY];rw[if_pos (ZI hp)]
  ·rw[h1 k hk hp,ih (k+1) (by omega)];simp only[ZGY];rw[if_neg (by rw[ZF hp];simp)]
def ZNm (c:Nat):Prop:=65<=c/\c<=90
def ZEq (s:ByteArray):Prop:=s.size=1/\ZNm (byteAt s 0)/\s≠⟨#[73]⟩
def ZFM (s:ByteArray):Prop:=1<=s.size/\s.size<=5/\ZNm (byteAt s 0)/\∀i,1<=i->i<s.size->97<=byteAt s i/\byteAt s i<=122
def ZCM (n:Nat)(t:Ty):Prop:=(t.data= -1/\t.index=0)∨(0<=t.data/\t.data<n/\-1<=t.index/\t.index<=3)
def ZEL (n:Nat)(c:Ctor):Prop:=ZFM c.name/\c.args.length<=3/\0<=c.index/\c.index<=3/\∀j,0<=j->(h:j<c.args.length)->ZCM n c.args[j]
theorem P.Yh (c:Nat):F.f11 c=some (dec (ZNm c)):=by
 unfold F.f11
 by_cases h:65<=(c:Int)
 ·rw[if_pos h];congr 1;rw[←ZAY];exact ZR ⟨fun h'=>⟨by omega,by omega⟩,fun h'=>by have:=h'.2;omega⟩
 ·rw[if_neg h,ZF fun h'=>h (by have:=h'.1;omega)]
theorem P.YAE (s:ByteArray):F.f12 s=some (dec (ZEq s)):=by
 unfold F.f12
 by_cases h:s.size=1
 ·rw[if_pos h,if_pos (by omega),P.Yh]
  simp only[oE,oS]
  by_cases hb:ZNm (byteAt s 0)
  ·rw[if_pos (ZI hb)];congr 1;rw[←ZAY];exact ZR ⟨fun h'=>⟨h,hb,fun e=>h' (by rw[e])⟩,fun h' e=>h'.2.2 (ZAQ.1 e)⟩
  ·rw[if_neg (by rw[ZF hb];simp),ZF fun h'=>hb h'.2.1]
 ·rw[if_neg h,ZF fun h'=>h h'.1]
theorem P.Yx (s:ByteArray)(hs:s.size<=1048576):F.f13 s 1=some (if dec (∀i,1<=i->i<s.size->97<=byteAt s i/\byteAt s i<=122)=true then .go ()else .ret false):=by
 refine ZIs (L:=F.f13 s) (fun k hk=> ?_) (fun k hk hq=> ?_) (fun k hk hq=> ?_) _ 1 rfl
 ·rw[F.f13,if_neg (by omega)]
 ·rw[F.f13,if_pos hk,if_neg (by omega),if_neg (by omega),if_pos (by omega)]
 ·rw[F.f13,if_pos hk]
  by_cases h:byteAt s k<97
  ·rw[if_pos h]
  ·rw[if_neg h,if_pos (by omega)]
theorem P.Yz (s:ByteArray)(hs:s.size<=1048576):F.f110 s 1=some (if dec (∀i,1<=i->i<s.size->97<=byteAt s i/\byteAt s i<=122)=true then .go ()else .ret false):=by
 refine ZIs (L:=F.f110 s) (fun k hk=> ?_) (fun k hk hq=> ?_) (fun k hk hq=> ?_) _ 1 rfl
 ·rw[F.f110,if_neg (by omega)]
 ·rw[F.f110,if_pos hk,if_neg (by omega),if_neg (by omega),if_pos (by omega)]
 ·rw[F.f110,if_pos hk]
  by_cases h:byteAt s k<97
  ·rw[if_pos h]
  ·rw[if_neg h,if_pos (by omega)]
theorem P.Yj (s:ByteArray)(hs:s.size<=1048576):F.f14 s=some (dec (ZFM s)):=by
 unfold F.f14
 by_cases h0:s.size=0
 ·rw[if_pos h0,ZF fun h=>by have:=h.1;omega]
 by_cases h5:5<s.size
 ·rw[if_neg h0,if_pos h5,ZF fun h=>by have:=h.2.1;omega]
 rw[if_neg h0,if_neg h5,if_pos (by omega),P.Yh]
 simp only[oE,oS]
 by_cases hb:ZNm (byteAt s 0)
 ·rw[if_pos (ZI hb),P.Yx s hs]
  simp only[oS]
  by_cases hall:∀i,1<=i->i<s.size->97<=byteAt s i/\byteAt s i<=122
  ·rw[if_pos (ZI hall),ZI ⟨by omega,by omega,hb,hall⟩]
  ·rw[if_neg (by rw[ZF hall];simp),ZF fun h=>hall h.2.2.2]
 ·rw[if_neg (by rw[ZF hb];simp),ZF fun h=>hb h.2.2.1]
theorem P.YE (n low high:Int):F.f109 n low high=some (dec (low<=n/\n<=high)):=by
 unfold F.f109
 by_cases h:low<=n
 ·rw[if_pos h];congr 1;rw[←ZAY];exact ZR ⟨fun h'=>⟨h,h'⟩,fun h'=>h'.2⟩
 ·rw[if_neg h,ZF fun h'=>h h'.1]
theorem P.Yo (s:ByteArray)(hs:s.size<=1048576):F.f111 s=some (dec (ZFM s)):=by
 unfold F.f111
 rw[P.YE]
 simp only[oE,oS]
 by_cases h0:1<=(s.size:Int)/\(s.size:Int)<=5
 ·rw[if_pos (ZI h0),if_pos (by omega)]
  by_cases a1:byteAt s 0<65
  ·rw[if_pos a1,ZF fun h=>by have:=h.2.2.1.1;omega]
  by_cases a2:90<byteAt s 0
  ·rw[if_neg a1,if_pos a2,ZF fun h=>by have:=h.2.2.1.2;omega]
  rw[if_neg a1,if_neg a2,P.Yz s hs]
  simp only[oS]
  by_cases hall:∀i,1<=i->i<s.size->97<=byteAt s i/\byteAt s i<=122
  ·rw[if_pos (ZI hall),ZI ⟨by omega,by omega,⟨by omega,by omega⟩,hall⟩]
  ·rw[if_neg (by rw[ZF hall];simp),ZF fun h=>hall h.2.2.2]
 ·rw[if_neg (by rw[ZF h0];simp),ZF fun h=>h0 ⟨by have:=h.1;omega,by have:=h.2.1;omega⟩]
theorem P.Yi (n:Nat)(t:Ty):F.f15 n t=some (dec (ZCM n t)):=by
 unfold F.f15
 by_cases h:t.data= -1
 ·rw[if_pos h];congr 1;rw[←ZAY];exact ZR ⟨fun h'=>.inl ⟨h,h'⟩,fun h'=>h'.elim (·.2) (fun h'=>by have:=h'.1;omega)⟩
 rw[if_neg h]
 by_cases h1:0<=t.data
 ·by_cases h2:t.data<n
  ·by_cases h3: -1<=t.index
   ·rw[if_pos h1,if_pos h2,if_pos h3];congr 1;rw[←ZAY];exact ZR ⟨fun h'=>.inr ⟨h1,h2,h3,h'⟩,fun h'=>h'.elim (fun h'=>absurd h'.1 h) (fun h'=>h'.2.2.2)⟩
   ·rw[if_pos h1,if_pos h2,if_neg h3,ZF fun h'=>h'.elim (fun h'=>h h'.1) (fun h'=>h3 h'.2.2.1)]
  ·rw[if_pos h1,if_neg h2,ZF fun h'=>h'.elim (fun h'=>h h'.1) (fun h'=>h2 h'.2.1)]
 ·rw[if_neg h1,ZF fun h'=>h'.elim (fun h'=>h h'.1) (fun h'=>h1 h'.1)]
theorem P.YAN (w:List Data)(t:Ty)(hw:w.length<=1048576):F.f112 w t=some (dec (ZCM w.length t)):=by
 unfold F.f112
 by_cases h:eq2 (t.data,t.index) (-1,0)
 ·rw[if_pos (ZI h),ZI (.inl h)]
 rw[if_neg (by rw[ZF h];simp),P.YE,ZE (by omega) (by omega)]
 simp only[oE,oS]
 by_cases h1:0<=t.data/\t.data<=(w.length:Int) -1
 ·rw[if_pos (ZI h1),P.YE]
  simp only[oS]
  congr 1;exact ZR ⟨fun h'=>.inr ⟨h1.1,by omega,h'.1,h'.2⟩,fun h'=>h'.elim (fun h'=>absurd h' h) (fun h'=>h'.2.2)⟩
 ·rw[if_neg (by rw[ZF h1];simp),ZF fun h'=>h'.elim (fun h'=>h h') (fun h'=>h1 ⟨h'.1,by have:=h'.2.1;omega⟩)]
theorem P.YZ (n:Nat)(c:Ctor)(hs:c.name.size<=1048576):F.f17 n c=some (dec (ZEL n c)):=by
 unfold F.f17
 rw[P.Yj _ hs]
 simp only[oE,oS]
 by_cases h1:ZFM c.name
 ·rw[if_pos (ZI h1)]
  by_cases h2:3<c.args.length
  ·rw[if_pos h2,ZF fun h=>by have:=h.2.1;omega]
  by_cases h3:c.index<0
  ·rw[if_neg h2,if_pos h3,ZF fun h=>by have:=h.2.2.1;omega]
  by_cases h4:3<c.index
  ·rw[if_neg h2,if_neg h3,if_pos h4,ZF fun h=>by have:=h.2.2.2.1;omega]
  rw[if_neg h2,if_neg h3,if_neg h4]
  have key:F.f16 n c 0=some (if dec (∀j,0<=j->j<c.args.length->∀h:j<c.args.length,ZCM n c.args[j])=true then .go ()else .ret false):=by
   refine ZIs (n:=c.args.length) (Q:=fun j=>∀h:j<c.args.length,ZCM n c.args[j]) (L:=F.f16 n c) (fun k hk=> ?_) (fun k hk hq=> ?_) (fun k hk hq=> ?_) _ 0 rfl
   ·rw[F.f16,if_neg (by omega)]
   ·rw[F.f16,if_pos hk,gQ hk]
    simp only[oE,oS]
    rw[P.Yi]
    simp only[oS]
    rw[if_pos (ZI (hq hk))]
   ·rw[F.f16,if_pos hk,gQ hk]
    simp only[oE,oS]
    rw[P.Yi]
    simp only[oS]
    rw[if_neg (by rw[ZF fun h=>hq fun _=>h];simp)]
  rw[key]
  simp only[oS]
  by_cases hall:∀j,0<=j->j<c.args.length->∀h:j<c.args.length,ZCM n c.args[j]
  ·rw[if_pos (ZI hall),ZI ⟨h1,by omega,by omega,by omega,fun j h0 hj=>hall j h0 hj hj⟩]
  ·rw[if_neg (by rw[ZF hall];simp),ZF fun h=>hall fun j h0 _ hj=>h.2.2.2.2 j h0 hj]
 ·rw[if_neg (by rw[ZF h1];simp),ZF fun h=>h1 h.1]
theorem P.Yv (t:Ty)(w:List Data)(hw:w.length<=1048576):F.f113 t w=some (!dec (ZCM w.length t)):=by
 unfold F.f113
 rw[P.YAN w t hw];rfl
theorem P.YAO (w:List Data)(hw:w.length<=1048576)(s:List Ty):∃v,F.f115 s w=some v/\(0<=v↔¬∀j,0<=j->(h:j<s.length)->ZCM w.length s[j]):=by
 unfold F.f115
 have key:∀(m k:Nat),s.length-k=m->∃r,F.f114 s w k=some r/\
   match r with| .ret j=>0<=j/\¬∀j,k<=j->(h:j<s.length)->ZCM w.length s[j]| .go _=>∀j,k<=j->(h:j<s.length)->ZCM w.length s[j]:=by
  intro m
  induction m with
  |zero=>
   intro k hm
   rw[F.f114,if_neg (by omega)]
   exact⟨_,rfl,fun j hj h=>by omega⟩
  |succ m ih=>
   intro k hm
   have hk:k<s.length:=by omega
   rw[F.f114,if_pos hk,gQ hk]
   simp only[oE,oS]
   rw[P.Yv _ _ hw]
   simp only[oS]
   by_cases h:ZCM w.length s[k]
   ·rw[if_neg (by rw[ZI h];simp)]
    obtain⟨r,hr,hx⟩:=ih (k+1) (by omega)
    refine⟨r,hr,?_⟩
    cases r with
    |ret j=>exact⟨hx.1,fun hh=>hx.2 fun j hj hl=>hh j (by omega) hl⟩
    |go _=>
     intro j hj hl
     by_cases e:k=j
     ·subst e;exact h
     ·exact hx j (by omega) hl
   ·rw[if_pos (by rw[ZF h];simp)]
    exact⟨_,rfl,by omega,fun hh=>h (hh k (Nat.le_refl _) hk)⟩
 obtain⟨r,hr,hx⟩:=key _ 0 rfl
 rw[hr]
 cases r with
 |ret j=>exact⟨j,rfl,fun _=>hx.2,fun _=>hx.1⟩
 |go _=>exact⟨-1,rfl,fun h=>by omega,fun h=>absurd hx h⟩
theorem P.Yb (w:List Data)(c:Ctor)(hw:w.length<=1048576)(hs:c.name.size<=1048576):F.f117 w c=some (dec (ZEL w.length c)):=by
 unfold F.f117
 rw[P.Yo _ hs]
 simp only[oE,oS]
 by_cases h1:ZFM c.name
 ·rw[if_pos (ZI h1)]
  by_cases h2:c.args.length<=3
  ·rw[if_pos h2,P.YE]
   simp only[oS]
   by_cases h3:0<=c.index/\c.index<=3
   ·rw[if_pos (ZI h3)]
    unfold F.f116
    obtain⟨v,hv,hx⟩:=P.YAO w hw c.args
    rw[hv]
    simp only[oE,oS]
    by_cases hall:∀j,0<=j->(h:j<c.args.length)->ZCM w.length c.args[j]
    ·have:¬0<=v:=fun h=>(hx.1 h) hall
     rw[ZI ⟨h1,h2,h3.1,h3.2,hall⟩];simp[this]
    ·have:0<=v:=hx.2 hall
     rw[ZF fun h=>hall h.2.2.2.2];simp[this]
   ·rw[if_neg (by rw[ZF h3];simp),ZF fun h=>h3 ⟨h.2.2.1,h.2.2.2.1⟩]
  ·rw[if_neg h2,ZF fun h=>h2 h.2.1]
 ·rw[if_neg (by rw[ZF h1];simp),ZF fun h=>h1 h.1]
abbrev ZAB (d:Data):List ByteArray:=d.ctors.map (·.name)
structure ctorAt (w:List Data)(i:Nat)(d:Data)(k:Nat)(c:Ctor):Prop where
 ok:ZEL w.length c
 new:c.name∉(w.take i).flatMap ZAB++(d.ctors.take k).map (·.name)
structure dataAt (w:List Data)(i:Nat)(d:Data):Prop where
 name:ZEq d.name
 new:d.name∉(w.take i).map (·.name)
 some:1<=d.ctors.length
 few:d.ctors.length<=4
 ctors:∀k,0<=k->k<d.ctors.length->∀h:k<d.ctors.length,ctorAt w i d k d.ctors[k]
def ZO (w:List Data):Prop:=w.length<=4/\∀i,0<=i->i<w.length->∀h:i<w.length,dataAt w i w[i]
def ZAE (w:List Data):Prop:=w.length<=1048576/\∀d,d∈w->∀c,c∈d.ctors->c.name.size<=1048576
theorem P.YR (w:List Data)(hw:ZAE w)(met4:List ByteArray)(i:Nat)(hi:i<w.length):F.f118 w met4 i w[i] ((w.take i).flatMap ZAB) 0=
  some (if dec (∀k,0<=k->k<w[i].ctors.length->∀h:k<w[i].ctors.length,ctorAt w i w[i] k w[i].ctors[k])=true then .go ((w.take i).flatMap ZAB++ZAB w[i])else .ret false):=by
 have key:=ZP0 (n:=w[i].ctors.length) (r:=false) (p:=(w.take i).flatMap ZAB++ZAB w[i]) (Q:=fun k=>∀h:k<w[i].ctors.length,ctorAt w i w[i] k w[i].ctors[k]) (L:=fun k=>F.f118 w met4 i w[i] ((w.take i).flatMap ZAB++(w[i].ctors.take k).map (·.name)) k)
  (fun k hk=>by
   show F.f118 w met4 i w[i] ((w.take i).flatMap ZAB++(w[i].ctors.take k).map (·.name)) k=_
   rw[F.f118,if_neg (by omega),List.take_of_length_le hk])
  (fun k hk hq=>by
   show F.f118 w met4 i w[i] ((w.take i).flatMap ZAB++(w[i].ctors.take k).map (·.name)) k=F.f118 w met4 i w[i] ((w.take i).flatMap ZAB++(w[i].ctors.take (k+1)).map (·.name)) (k+1)
   have hc:=hq hk
   rw[F.f118,if_pos hk,gQ hk]
   simp only[oE,oS]
   rw[P.Yb w _ hw.1 (hw.2 _ (gM hi) _ (gM hk))]
   simp only[oS]
   rw[if_pos (ZI hc.ok),if_neg (by rw[ZF hc.new];simp),ZCF,if_neg (by rw[ZF hc.new];simp),ZB1 hk,List.append_assoc])
  (fun k hk hq=>by
   show F.f118 w met4 i w[i] ((w.take i).flatMap ZAB++(w[i].ctors.take k).map (·.name)) k=_
   rw[F.f118,if_pos hk,gQ hk]
   simp only[oE,oS]
   rw[P.Yb w _ hw.1 (hw.2 _ (gM hi) _ (gM hk))]
   simp only[oS]
   by_cases h1:ZEL w.length w[i].ctors[k]
   ·rw[if_pos (ZI h1),if_pos (ZI ?_)]
    apply Classical.byContradiction
    intro h2
    exact hq fun _=>⟨h1,h2⟩
   ·rw[if_neg (by rw[ZF h1];simp)]) _ 0 rfl
 simpa using key
theorem P.Yr (w:List Data)(hw:ZAE w):F.f119 w [] [] 0=some (if dec (∀i,0<=i->i<w.length->∀h:i<w.length,dataAt w i w[i])=true then .go (w.flatMap ZAB,w.map (·.name))else .ret false):=by
 have key:=ZP0 (n:=w.length) (r:=false) (p:=(w.flatMap ZAB,w.map (·.name))) (Q:=fun i=>∀h:i<w.length,dataAt w i w[i]) (L:=fun i=>F.f119 w ((w.take i).flatMap ZAB) ((w.take i).map (·.name)) i)
  (fun i hi=>by
   show F.f119 w ((w.take i).flatMap ZAB) ((w.take i).map (·.name)) i=_
   rw[F.f119,if_neg (by omega),List.take_of_length_le hi])
  (fun i hi hq=>by
   show F.f119 w ((w.take i).flatMap ZAB) ((w.take i).map (·.name)) i=F.f119 w ((w.take (i+1)).flatMap ZAB) ((w.take (i+1)).map (·.name)) (i+1)
   have hd:=hq hi
   have hn:=hd.name
   have hbig:=hn.2.1
   unfold ZNm at hbig
   have:=hw.1
   rw[F.f119,if_pos hi,gQ hi]
   simp only[oE,oS]
   have:=hd.some;have:=hd.few
   rw[if_pos hn.1,if_pos (by have:=hn.1;omega),if_neg (by omega),if_neg (by omega),if_neg (fun h=>hn.2.2 (ZAQ.1 h)),if_neg (by rw[ZF hd.new];simp),P.YE]
   simp only[oS]
   rw[if_pos (ZI (by omega)),P.YR w hw _ i hi,if_pos (ZI hd.ctors)]
   simp only[oS]
   rw[if_pos (by omega),ZCF,if_neg (by rw[ZF hd.new];simp),ZB1 hi,ZCR hi])
  (fun i hi hq=>by
   show F.f119 w ((w.take i).flatMap ZAB) ((w.take i).map (·.name)) i=_
   have:=hw.1
   rw[F.f119,if_pos hi,gQ hi]
   simp only[oE,oS]
   by_cases h1:w[i].name.size=1
   ·rw[if_pos h1,if_pos (by omega)]
    by_cases h2:byteAt w[i].name 0<65
    ·rw[if_pos h2]
    by_cases h3:90<byteAt w[i].name 0
    ·rw[if_neg h2,if_pos h3]
    by_cases h4:w[i].name.toList=(⟨#[73]⟩:ByteArray).toList
    ·rw[if_neg h2,if_neg h3,if_pos h4]
    by_cases h5:w[i].name∈(w.take i).map (·.name)
    ·rw[if_neg h2,if_neg h3,if_neg h4,if_pos (ZI h5)]
    rw[if_neg h2,if_neg h3,if_neg h4,if_neg (by rw[ZF h5];simp),P.YE]
    simp only[oS]
    by_cases h6:1<=(w[i].ctors.length:Int)/\(w[i].ctors.length:Int)<=4
    ·rw[if_pos (ZI h6),P.YR w hw _ i hi,if_neg (by
      rw[ZF fun hh=>hq fun _=>⟨⟨h1,⟨by omega,by omega⟩,fun e=>h4 (by rw[e])⟩,h5,by omega,by omega,hh⟩];simp)]
     rfl
    ·rw[if_neg (by rw[ZF h6];simp)]
   ·rw[if_neg h1]) _ 0 rfl
 simpa using key
theorem P.Yd (w:List Data)(hw:ZAE w):F.f120 w=some (dec (ZO w)):=by
 unfold F.f120
 by_cases h:4<w.length
 ·rw[if_pos h,ZF fun hh=>by have:=hh.1;omega]
 rw[if_neg h,P.Yr w hw]
 simp only[oE,oS]
 by_cases hall:∀i,0<=i->i<w.length->∀h:i<w.length,dataAt w i w[i]
 ·rw[if_pos (ZI hall),ZI ⟨by omega,hall⟩]
 ·rw[if_neg (by rw[ZF hall];simp),ZF fun hh=>hall hh.2]
theorem P.YAC (w:List Data)(hw:ZAE w)(d k i:Nat)(hd:d<w.length)(hk:k<w[d].ctors.length)(hi:i<d)(hl:w[d].ctors.length<=4)(hli:w[i].ctors.length<=4):F.f18 w d k i 0=
  some (if dec (∀j,0<=j->j<w[i].ctors.length->∀h:j<w[i].ctors.length,w[i].ctors[j].name≠w[d].ctors[k].name)=true then .go ()else .ret true):=by
 have hi':i<w.length:=by omega
 refine ZIs (n:=w[i].ctors.length) (r:=true) (Q:=fun j=>∀h:j<w[i].ctors.length,w[i].ctors[j].name≠w[d].ctors[k].name) (L:=F.f18 w d k i) (fun j hj=> ?_) (fun j hj hq=> ?_) (fun j hj hq=> ?_) _ 0 rfl
 ·rw[F.f18,gQ hi']
  simp only[oE,oS]
  rw[if_neg (by omega)]
 ·rw[F.f18,gQ hi']
  simp only[oE,oS]
  rw[if_pos hj,if_pos (by omega),ZDv hd]
  simp only[oS]
  rw[if_pos (by omega),gQ hj,ZDv hk]
  simp only[oS]
  rw[if_neg (fun h=>hq hj (ZAQ.1 h)),if_pos (by omega)]
 ·rw[F.f18,gQ hi']
  simp only[oE,oS]
  rw[if_pos hj,if_pos (by omega),ZDv hd]
  simp only[oS]
  rw[if_pos (by omega),gQ hj,ZDv hk]
  simp only[oS]
  rw[if_pos (ZAQ.2 (Classical.byContradiction fun h=>hq fun _=>h))]
theorem P.YAB (w:List Data)(hw:ZAE w)(d k:Nat)(hd:d<w.length)(hk:k<w[d].ctors.length)(hl:w[d].ctors.length<=4):F.f19 w d k d 0=
  some (if dec (∀j,0<=j->j<k->∀h:j<w[d].ctors.length,w[d].ctors[j].name≠w[d].ctors[k].name)=true then .go ()else .ret true):=by
 refine ZIs (n:=k) (r:=true) (Q:=fun j=>∀h:j<w[d].ctors.length,w[d].ctors[j].name≠w[d].ctors[k].name) (L:=F.f19 w d k d) (fun j hj=> ?_) (fun j hj hq=> ?_) (fun j hj hq=> ?_) _ 0 rfl
 ·rw[F.f19,gQ hd]
  simp only[oE,oS]
  rcases Nat.lt_or_ge j w[d].ctors.length with h|h
  ·rw[if_pos h,if_neg (by omega),if_neg (by omega)]
  ·rw[if_neg (by omega)]
 ·have hj':j<w[d].ctors.length:=Nat.lt_trans hj hk
  rw[F.f19,gQ hd]
  simp only[oE,oS]
  rw[if_pos hj',if_neg (by omega),if_pos (by omega),ZDv hd]
  simp only[oS]
  rw[if_pos (by omega),gQ hj',ZDv hk]
  simp only[oS]
  rw[if_neg (fun h=>hq hj' (ZAQ.1 h)),if_pos (by omega)]
 ·have hj':j<w[d].ctors.length:=Nat.lt_trans hj hk
  rw[F.f19,gQ hd]
  simp only[oE,oS]
  rw[if_pos hj',if_neg (by omega),if_pos (by omega),ZDv hd]
  simp only[oS]
  rw[if_pos (by omega),gQ hj',ZDv hk]
  simp only[oS]
  rw[if_pos (ZAQ.2 (Classical.byContradiction fun h=>hq fun _=>h))]
structure fresh (w:List Data)(d k i:Nat)(hd:d<w.length)(hk:k<w[d].ctors.length):Prop where
 data:i<d->∀h:i<w.length,w[i].name≠w[d].name
 ctor:i<d->∀h:i<w.length,∀j,0<=j->j<w[i].ctors.length->∀h:j<w[i].ctors.length,w[i].ctors[j].name≠w[d].ctors[k].name
 own:i=d->∀j,0<=j->j<k->∀h:j<w[d].ctors.length,w[d].ctors[j].name≠w[d].ctors[k].name
theorem P.YU (w:List Data)(hw:ZAE w)(d k:Nat)(hd:d<w.length)(hk:k<w[d].ctors.length)(hw4:w.length<=4)(hl:∀i,i<=d->∀h:i<w.length,w[i].ctors.length<=4):F.f21 w d k=some (!dec (∀i,0<=i->i<d+1->fresh w d k i hd hk)):=by
 unfold F.f21
 have key:F.f20 w d k 0=some (if dec (∀i,0<=i->i<d+1->fresh w d k i hd hk)=true then .go ()else .ret true):=by
  refine ZIs (n:=d+1) (r:=true) (Q:=fun i=>fresh w d k i hd hk) (L:=F.f20 w d k) (fun i hi=> ?_) (fun i hi hq=> ?_) (fun i hi hq=> ?_) _ 0 rfl
  ·rw[F.f20,if_neg (by omega)]
  ·rw[F.f20,if_pos (by omega)]
   by_cases h:i<d
   ·have hi':i<w.length:=by omega
    rw[if_pos (by omega),gQ hi',ZDv hd]
    simp only[oE,oS]
    rw[if_neg (fun e=>hq.data h hi' (ZAQ.1 e)),P.YAC w hw d k i hd hk h (hl d (Nat.le_refl _) hd) (hl i (by omega) hi'),if_pos (ZI (hq.ctor h hi'))]
    simp only[oS]
    rw[if_pos (by omega)]
   ·obtain rfl:i=d:=by omega
    rw[if_neg (by omega),P.YAB w hw i k hd hk (hl i (Nat.le_refl _) hd),if_pos (ZI (hq.own rfl))]
    simp only[oE,oS]
    rw[if_pos (by omega)]
  ·rw[F.f20,if_pos (by omega)]
   by_cases h:i<d
   ·have hi':i<w.length:=by omega
    rw[if_pos (by omega),gQ hi',ZDv hd]
    simp only[oE,oS]
    by_cases hn:w[i].name=w[d].name
    ·rw[if_pos (ZAQ.2 hn)]
    ·rw[if_neg (fun e=>hn (ZAQ.1 e)),P.YAC w hw d k i hd hk h (hl d (Nat.le_refl _) hd) (hl i (by omega) hi'),if_neg (by rw[ZF fun hh=>hq ⟨fun _ _=>hn,fun _ _=>hh,fun e=>by omega⟩];simp)]
     rfl
   ·obtain rfl:i=d:=by omega
    rw[if_neg (by omega),P.YAB w hw i k hd hk (hl i (Nat.le_refl _) hd),if_neg (by rw[ZF fun hh=>hq ⟨fun e=>by omega,fun e=>by omega,fun _=>hh⟩];simp)]
    rfl
 rw[key]
 simp only[oE,oS]
 by_cases hall:∀i,0<=i->i<d+1->fresh w d k i hd hk
 ·rw[if_pos (ZI hall),ZI hall];rfl
 ·rw[if_neg (by rw[ZF hall];simp),ZF hall];rfl
theorem ZDa (w:List Data)(d k:Nat)(hd:d<w.length)(hk:k<w[d].ctors.length):(∀i,0<=i->i<d+1->fresh w d k i hd hk)↔w[d].name∉(w.take d).map (·.name)/\w[d].ctors[k].name∉(w.take d).flatMap ZAB++(w[d].ctors.take k).map (·.name):=by
 constructor
 ·intro h
  refine⟨fun hm=> ?_,fun hm=> ?_⟩
  ·obtain⟨x,hx,e⟩:=List.mem_map.1 hm
   obtain⟨i,hi,rfl⟩:=List.mem_take_iff_getElem.1 hx
   exact(h i (by omega) (by omega)).data (by omega) (by omega) e
  ·rcases List.mem_append.1 hm with hm|hm
   ·obtain⟨x,hx,hc⟩:=List.mem_flatMap.1 hm
    obtain⟨i,hi,rfl⟩:=List.mem_take_iff_getElem.1 hx
    obtain⟨c,hc,e⟩:=List.mem_map.1 hc
    obtain⟨j,hj,rfl⟩:=List.getElem_of_mem hc
    exact(h i (by omega) (by omega)).ctor (by omega) (by omega) j (by omega) hj hj e
   ·obtain⟨c,hc,e⟩:=List.mem_map.1 hm
    obtain⟨j,hj,rfl⟩:=List.mem_take_iff_getElem.1 hc
    exact(h d (by omega) (by omega)).own rfl j (by omega) (by omega) (by omega) e
 ·rintro⟨h1,h2⟩ i _ hi
  refine⟨fun hid hiw e=>h1 (List.mem_map.2 ⟨w[i],List.mem_take_iff_getElem.2 ⟨i,by omega,rfl⟩,e⟩),fun hid hiw j _ hj hj' e=>h2 (List.mem_append_left _ (List.mem_flatMap.2 ⟨w[i],List.mem_take_iff_getElem.2 ⟨i,by omega,rfl⟩,List.mem_map.2 ⟨_,gM hj,e⟩⟩)),fun e j _ hj hj' e=>h2 (List.mem_append_right _ (List.mem_map.2 ⟨_,List.mem_take_iff_getElem.2 ⟨j,by omega,rfl⟩,e⟩))⟩
theorem P.Yp (w:List Data)(hw:ZAE w)(d:Nat)(hd:d<w.length)(hw4:w.length<=4)(hl:∀i,i<=d->∀h:i<w.length,w[i].ctors.length<=4):F.f22 w d 0=
  some (if dec (∀k,0<=k->k<w[d].ctors.length->∀h:k<w[d].ctors.length,w[d].name∉(w.take d).map (·.name)/\ctorAt w d w[d] k w[d].ctors[k])=true then .go ()else .ret false):=by
 have hl0:=hl d (Nat.le_refl _) hd
 refine ZIs (n:=w[d].ctors.length) (r:=false) (Q:=fun k=>∀h:k<w[d].ctors.length,w[d].name∉(w.take d).map (·.name)/\ctorAt w d w[d] k w[d].ctors[k]) (L:=F.f22 w d) (fun k hk=> ?_) (fun k hk hq=> ?_) (fun k hk hq=> ?_) _ 0 rfl
 ·rw[F.f22,gQ hd]
  simp only[oE,oS]
  rw[if_neg (by omega)]
 ·obtain⟨h1,h2⟩:=hq hk
  rw[F.f22,gQ hd]
  simp only[oE,oS]
  rw[if_pos hk,gQ hk]
  simp only[oS]
  rw[P.YZ _ _ (hw.2 _ (gM hd) _ (gM hk))]
  simp only[oS]
  rw[if_pos (ZI h2.ok),P.YU w hw d k hd hk hw4 hl]
  simp only[oS]
  rw[ZI ((ZDa w d k hd hk).2 ⟨h1,h2.new⟩),if_neg (by simp),if_pos (by omega)]
 ·rw[F.f22,gQ hd]
  simp only[oE,oS]
  rw[if_pos hk,gQ hk]
  simp only[oS]
  rw[P.YZ _ _ (hw.2 _ (gM hd) _ (gM hk))]
  simp only[oS]
  by_cases h1:ZEL w.length w[d].ctors[k]
  ·rw[if_pos (ZI h1),P.YU w hw d k hd hk hw4 hl]
   simp only[oS]
   rw[ZF fun hh=>hq fun _=>⟨((ZDa w d k hd hk).1 hh).1,⟨h1,((ZDa w d k hd hk).1 hh).2⟩⟩,if_pos (by simp)]
  ·rw[if_neg (by rw[ZF h1];simp)]
theorem P.Yc (w:List Data)(hw:ZAE w):F.f24 w=some (dec (ZO w)):=by
 unfold F.f24
 by_cases h4:4<w.length
 ·rw[if_pos h4,ZF fun hh=>by have:=hh.1;omega]
 rw[if_neg h4]
 -- the loop runs only on over types that are right
 have key:∀(m d:Nat),w.length-d=m->(∀i,i<d->∀h:i<w.length,w[i].ctors.length<=4)->F.f23 w d=some (if dec (∀i,d<=i->i<w.length->∀h:i<w.length,dataAt w i w[i])=true then .go ()else .ret false):=by
  intro m
  induction m with
  |zero=>
   intro d hm hl
   rw[F.f23,if_neg (by omega),if_pos (ZI fun i h1 h2=>by omega)]
  |succ m ih=>
   intro d hm hl
   have hd:d<w.length:=by omega
   rw[F.f23,if_pos hd,gQ hd]
   simp only[oE,oS]
   rw[P.YAE]
   simp only[oS]
   have no:¬dataAt w d w[d]->¬∀i,d<=i->i<w.length->∀h:i<w.length,dataAt w i w[i]:=fun h hh=>h (hh d (Nat.le_refl _) hd hd)
   by_cases h1:ZEq w[d].name
   ·rw[if_pos (ZI h1)]
    by_cases h2:w[d].ctors.length=0
    ·rw[if_pos h2,if_neg (by rw[ZF (no fun h=>by have:=h.some;omega)];simp)]
    by_cases h3:4<w[d].ctors.length
    ·rw[if_neg h2,if_pos h3,if_neg (by rw[ZF (no fun h=>by have:=h.few;omega)];simp)]
    have hl':∀i,i<=d->∀h:i<w.length,w[i].ctors.length<=4:=fun i hi h=>by
     by_cases e:i=d
     ·subst e;omega
     ·exact hl i (by omega) h
    rw[if_neg h2,if_neg h3,P.Yp w hw d hd (by omega) hl']
    simp only[oS]
    by_cases hq:∀k,0<=k->k<w[d].ctors.length->∀h:k<w[d].ctors.length,w[d].name∉(w.take d).map (·.name)/\ctorAt w d w[d] k w[d].ctors[k]
    ·have hda:dataAt w d w[d]:=⟨h1,(hq 0 (by omega) (by omega) (by omega)).1,by omega,by omega,fun k a b c=>(hq k a b c).2⟩
     rw[if_pos (ZI hq)]
     simp only
     rw[if_pos (by omega),ih (d+1) (by omega) fun i hi h=>hl' i (by omega) h]
     by_cases hall:∀i,d+1<=i->i<w.length->∀h:i<w.length,dataAt w i w[i]
     ·rw[if_pos (ZI hall),if_pos (ZI fun i a b c=> ?_)]
      by_cases e:i=d
      ·subst e;exact hda
      ·exact hall i (by omega) b c
     ·rw[if_neg (by rw[ZF hall];simp),if_neg (by rw[ZF fun hh=>hall fun i a b c=>hh i (by omega) b c];simp)]
    ·rw[if_neg (by rw[ZF hq];simp)]
     simp only
     rw[if_neg (by rw[ZF (no fun h=>hq fun k a b c=>⟨h.new,h.ctors k a b c⟩)];simp)]
   ·rw[if_neg (by rw[ZF h1];simp),if_neg (by rw[ZF (no fun h=>h1 h.name)];simp)]
 rw[key _ 0 rfl fun i hi=>by omega]
 simp only[oE,oS]
 by_cases hall:∀i,0<=i->i<w.length->∀h:i<w.length,dataAt w i w[i]
 ·rw[if_pos (ZI hall),ZI ⟨by omega,hall⟩]
 ·rw[if_neg (by rw[ZF hall];simp),ZF fun hh=>hall hh.2]
def Zo (w:List Data)(t:Ty):Prop:=ZCM w.length t/\0<=t.index
theorem P.YAI (w:List Data)(t:Ty)(hw:w.length<=1048576):F.f121 w t=some (dec (Zo w t)):=by
 unfold F.f121
 by_cases h:eq2 (t.data,t.index) (-1,0)
 ·rw[if_pos (ZI h),ZI ⟨.inl h,by have:=h.2;simp at this;omega⟩]
 rw[if_neg (by rw[ZF h];simp),P.YE,ZE (by omega) (by omega)]
 simp only[oE,oS]
 by_cases h1:0<=t.data/\t.data<=(w.length:Int) -1
 ·rw[if_pos (ZI h1),P.YE]
  simp only[oS]
  congr 1;exact ZR ⟨fun h'=>⟨.inr ⟨h1.1,by omega,by omega,h'.2⟩,h'.1⟩,fun h'=>h'.1.elim (fun h'=>absurd h' h) (fun h2=>⟨h'.2,h2.2.2.2⟩)⟩
 ·rw[if_neg (by rw[ZF h1];simp),ZF fun h'=>h'.1.elim (fun h'=>h h') (fun h'=>h1 ⟨h'.1,by have:=h'.2.1;omega⟩)]
def ZA6 (w:List Data)(t:Ty):Prop:=ZO w/\Zo w t
theorem P.Yn (w:List Data)(t:Ty)(hw:ZAE w):F.f122 w t=some (dec (ZA6 w t)):=by
 unfold F.f122
 rw[P.Yd w hw]
 simp only[oE,oS]
 by_cases h:ZO w
 ·rw[if_pos (ZI h),P.YAI w t hw.1]
  simp only[oS]
  congr 1;exact ZR ⟨fun h'=>⟨h,h'⟩,fun h'=>h'.2⟩
 ·rw[if_neg (by rw[ZF h];simp),ZF fun h'=>h h'.1]
theorem ZI0 {w:List Data}(h:wtL Data.wt w<=1048576):ZAE w:=by
 refine⟨by have:=ZDB Data.wt w;omega,fun d hd c hc=> ?_⟩
 have h1:=ZAM Data.wt hd
 have h2:=ZAM Ctor.wt hc
 have e1:d.wt=d.name.size+wtL Ctor.wt d.ctors:=rfl
 have e2:c.wt=c.name.size+wtL Ty.wt c.args:=rfl
 omega
def tOk (w:List Data)(t:Ty):Prop:=t.data= -1∨(0<=t.data/\t.data<w.length)
theorem ZA7 {w:List Data}{t:Ty}(h:ZCM w.length t):tOk w t:=h.elim (fun h=>.inl h.1) (fun h=>.inr ⟨h.1,h.2.1⟩)
def ZLP (i:Int)(c:Ctor):Prop:=i=0∨c.index=0∨c.index=i
noncomputable def ZEy (i:Int):Nat->List Ctor->List Int
 |_,[]=>[]
 |k,c::r=>(if dec (ZLP i c)=true then[(k:Int)]else[])++ZEy i (k+1) r
theorem ZHC (i:Int):∀(k:Nat) (l:List Ctor),(ZEy i k l).length<=l.length
 |_,[]=>by simp[ZEy]
 |k,c::r=>by
  have:=ZHC i (k+1) r
  unfold ZEy
  split<;>simp<;>omega
theorem ZHB (i:Int){x:Int}:∀{k:Nat} {l:List Ctor},x∈ZEy i k l->(k:Int)<=x/\x<k+l.length
 |_,[],h=>by simp[ZEy]at h
 |k,c::r,h=>by
  unfold ZEy at h
  rcases List.mem_append.1 h with h|h
  ·split at h
   ·simp at h;subst h;simp;omega
   ·simp at h
  ·have:=ZHB i h
   simp;omega
def ZW (w:List Data)(t:Ty):Data:=w.getD t.data.toNat Data.z
noncomputable def ZN (w:List Data)(t:Ty):List Int:=if t.data= -1 then[]else ZEy t.index 0 (ZW w t).ctors
def Za (w:List Data)(t:Ty)(c:Int):Ctor:=(ZW w t).ctors.getD c.toNat Ctor.z
def ZCn (t:Ty)(c:Ctor)(a:Ty):Ty:=if a.index= -1 then⟨a.data,if c.index=0 then t.index else c.index⟩else a
def ZK (w:List Data)(t:Ty)(c:Int):List Ty:=(Za w t c).args.map (ZCn t (Za w t c))
theorem ZCm {w:List Data}{t:Ty}(h:tOk w t)(hn:t.data≠-1):at? w t.data=some (ZW w t)/\ZW w t∈w/\∃h:t.data.toNat<w.length,ZW w t=w[t.data.toNat]:=by
 obtain⟨h1,h2⟩:=h.resolve_left hn
 have hlt:t.data.toNat<w.length:=by omega
 unfold at? ZW
 rw[if_pos h1,gQ hlt,List.getD_eq_getElem?_getD,gQ hlt]
 exact⟨rfl,gM hlt,hlt,rfl⟩
theorem Zi {w:List Data}(hw:ZO w){t:Ty}(h:tOk w t)(hn:t.data≠-1):(ZW w t).ctors.length<=4/\∀c,c∈(ZW w t).ctors->ZEL w.length c:=by
 obtain⟨_,_,hlt,e⟩:=ZCm h hn
 have hd:=hw.2 t.data.toNat (by omega) hlt hlt
 rw[e]
 refine⟨hd.few,fun c hc=> ?_⟩
 obtain⟨k,hk,rfl⟩:=List.getElem_of_mem hc
 exact(hd.ctors k (by omega) hk hk).ok
theorem P.Yq (w:List Data)(hw:ZO w)(t:Ty)(h:tOk w t)(hn:t.data≠-1):∀(m k:Nat) (out:List Int),(ZW w t).ctors.length-k=m->out.length<=k->k<=(ZW w t).ctors.length->
  F.f41 w t out k=some (out++ZEy t.index k ((ZW w t).ctors.drop k)):=by
 have h4:=(Zi hw h hn).1
 intro m
 induction m with
 |zero=>
  intro k out hm ho hk
  rw[F.f41,(ZCm h hn).1]
  simp only[oE,oS]
  rw[if_neg (by omega),List.drop_eq_nil_of_le (by omega)];simp[ZEy]
 |succ m ih=>
  intro k out hm ho hk
  have hlt:k<(ZW w t).ctors.length:=by omega
  rw[F.f41,(ZCm h hn).1]
  simp only[oE,oS]
  rw[if_pos hlt,gQ hlt,List.drop_eq_getElem_cons hlt]
  simp only[oS,ZEy]
  have hf:F.f40 (ZW w t).ctors[k] t.index=some (dec (ZLP t.index (ZW w t).ctors[k])):=by
   unfold F.f40
   by_cases h1:(ZW w t).ctors[k].index=0
   ·rw[if_pos h1,ZI (.inr (.inl h1))]
   ·by_cases h2:t.index=0
    ·rw[if_neg h1,if_pos h2,ZI (.inl h2)]
    ·rw[if_neg h1,if_neg h2,←ZAY];congr 1;exact ZR ⟨fun h=>.inr (.inr h),fun h=>h.elim (fun h=>absurd h h2) (fun h=>h.elim (fun h=>absurd h h1) id)⟩
  rw[hf]
  simp only[oS]
  by_cases hfit:ZLP t.index (ZW w t).ctors[k]
  ·rw[if_pos (ZI hfit),if_pos (by omega),if_pos (by omega),ih (k+1) _ (by omega) (by simp;omega) (by omega),if_pos (ZI hfit)];simp
  ·rw[if_neg (by rw[ZF hfit];simp),if_pos (by omega),ih (k+1) _ (by omega) (by omega) (by omega),if_neg (by rw[ZF hfit];simp)];simp
theorem P.YO (w:List Data)(hw:ZO w)(t:Ty)(h:tOk w t):F.f42 w t=some (ZN w t):=by
 unfold F.f42 ZN
 by_cases hn:t.data= -1
 ·rw[if_pos hn,if_pos hn]
 ·rw[if_neg hn,if_neg hn,P.Yq w hw t h hn _ 0 [] rfl (by simp) (by omega)];simp
theorem P.Yu (w:List Data)(hw:ZO w)(t:Ty)(h:tOk w t)(hn:t.data≠-1):∀(m k:Nat) (out:List Int),(ZW w t).ctors.length-k=m->out.length<=k->k<=(ZW w t).ctors.length->
  F.f125 t (ZW w t) k out=some (out++ZEy t.index k ((ZW w t).ctors.drop k)):=by
 have h4:=(Zi hw h hn).1
 intro m
 induction m with
 |zero=>
  intro k out hm ho hk
  rw[F.f125,if_neg (by omega),List.drop_eq_nil_of_le (by omega)];simp[ZEy]
 |succ m ih=>
  intro k out hm ho hk
  have hlt:k<(ZW w t).ctors.length:=by omega
  rw[F.f125,if_pos hlt,gQ hlt,List.drop_eq_getElem_cons hlt]
  simp only[oE,oS,ZEy]
  have yes:ZLP t.index (ZW w t).ctors[k]->(if out.length+1<=67108864 then F.f125 t (ZW w t) (k+1) (out++[(k:Int)])else none)=
    some (out++((if dec (ZLP t.index (ZW w t).ctors[k])=true then[(k:Int)]else[])++ZEy t.index (k+1) ((ZW w t).ctors.drop (k+1)))):=by
   intro hfit
   rw[if_pos (by omega),ih (k+1) _ (by omega) (by simp;omega) (by omega),if_pos (ZI hfit)];simp
  by_cases h1:t.index=0
  ·rw[if_pos h1];exact yes (.inl h1)
  by_cases h2:(ZW w t).ctors[k].index=0
  ·rw[if_neg h1,if_pos h2];exact yes (.inr (.inl h2))
  by_cases h3:(ZW w t).ctors[k].index=t.index
  ·rw[if_neg h1,if_neg h2,if_pos h3];exact yes (.inr (.inr h3))
  ·have hfit:¬ZLP t.index (ZW w t).ctors[k]:=fun h=>h.elim h1 (fun h=>h.elim h2 h3)
   rw[if_neg h1,if_neg h2,if_neg h3,ih (k+1) _ (by omega) (by omega) (by omega),if_neg (by rw[ZF hfit];simp)];simp
theorem P.YV (w:List Data)(hw:ZO w)(t:Ty)(h:tOk w t):F.f126 w t=some (ZN w t):=by
 unfold F.f126 ZN
 by_cases hn:t.data= -1
 ·rw[if_pos hn,if_pos hn]
 ·rw[if_neg hn,if_neg hn,(ZCm h hn).1]
  simp only[oE,oS]
  rw[P.Yu w hw t h hn _ 0 [] rfl (by simp) (by omega)];simp
theorem ZT {w:List Data}{t:Ty}{c:Int}(h:c∈ZN w t):t.data≠-1/\0<=c/\c<(ZW w t).ctors.length:=by
 unfold ZN at h
 split at h
 ·cases h
 ·next hn=>
  have:=ZHB t.index h
  exact⟨hn,by omega,by omega⟩
theorem ZBG {w:List Data}{t:Ty}{c:Int}(h:c∈ZN w t):at? (ZW w t).ctors c=some (Za w t c)/\Za w t c∈(ZW w t).ctors:=by
 obtain⟨_,h1,h2⟩:=ZT h
 have hlt:c.toNat<(ZW w t).ctors.length:=by omega
 unfold at? Za
 rw[if_pos h1,gQ hlt,List.getD_eq_getElem?_getD,gQ hlt]
 exact⟨rfl,gM hlt⟩
theorem ZKH {w:List Data}(hw:ZO w){t:Ty}(ht:tOk w t){c:Int}(h:c∈ZN w t):(ZK w t c).length<=3/\∀a,a∈ZK w t c->tOk w a:=by
 have hc:=(Zi hw ht (ZT h).1).2 _ (ZBG h).2
 refine⟨by unfold ZK;rw[List.length_map];exact hc.2.1,fun a ha=> ?_⟩
 obtain⟨b,hb,rfl⟩:=List.mem_map.1 ha
 obtain⟨j,hj,rfl⟩:=List.getElem_of_mem hb
 have:=ZA7 (hc.2.2.2.2 j (by omega) hj)
 unfold ZCn
 split
 ·exact this
 ·exact this
theorem P.YH (w:List Data)(hw:ZO w)(t:Ty)(ht:tOk w t)(c:Int)(h:c∈ZN w t):F.f45 w t c=some (ZK w t c):=by
 have hc:=(Zi hw ht (ZT h).1).2 _ (ZBG h).2
 unfold F.f45
 rw[(ZCm ht (ZT h).1).1]
 simp only[oE,oS]
 rw[(ZBG h).1]
 simp only[oS]
 rw[ZBH (L:=F.f44 t (Za w t c)) (a:=(Za w t c).args) (g:=ZCn t (Za w t c)) (f:=fun a=>some (ZCn t (Za w t c) a)) (fun out i=> ?_) (fun _ _=>rfl) _ 0 [] rfl (by have:=hc.2.1;simp;omega)]
 ·simp[ZK]
 ·rw[F.f44]
  split
  ·cases(Za w t c).args[i]? with
   |none=>rfl
   |some a=>
    simp only[oE,oS,F.f43,ZCn]
    split
    ·split<;>simp
    ·simp
  ·rfl
theorem P.YS (w:List Data)(hw:ZO w)(t:Ty)(ht:tOk w t)(c:Int)(h:c∈ZN w t):F.f132 w t c=some (ZK w t c):=by
 have hc:=(Zi hw ht (ZT h).1).2 _ (ZBG h).2
 unfold F.f132
 rw[(ZCm ht (ZT h).1).1]
 simp only[oE,oS]
 rw[(ZBG h).1]
 simp only[oS]
 by_cases h0:(Za w t c).index=0
 ·rw[if_pos h0,ZBH (L:=fun out i=>F.f130 t (Za w t c) i out) (a:=(Za w t c).args) (g:=ZCn t (Za w t c)) (f:=fun a=>some (ZCn t (Za w t c) a)) (fun out i=> ?_) (fun _ _=>rfl) _ 0 [] rfl (by have:=hc.2.1;simp;omega)]
  ·simp[ZK]
  ·show F.f130 t (Za w t c) i out=_
   rw[F.f130]
   split
   ·cases(Za w t c).args[i]? with
    |none=>rfl
    |some a=>
     simp only[oE,oS,ZCn]
     split
     ·first|rfl|rw[if_pos h0]
     ·rfl
   ·rfl
 ·rw[if_neg h0,ZBH (L:=fun out i=>F.f131 (Za w t c) i out) (a:=(Za w t c).args) (g:=ZCn t (Za w t c)) (f:=fun a=>some (ZCn t (Za w t c) a)) (fun out i=> ?_) (fun _ _=>rfl) _ 0 [] rfl (by have:=hc.2.1;simp;omega)]
  ·simp[ZK]
  ·show F.f131 (Za w t c) i out=_
   rw[F.f131]
   split
   ·cases(Za w t c).args[i]? with
    |none=>rfl
    |some a=>
     simp only[oE,oS,ZCn]
     split
     ·first|rfl|rw[if_neg h0]
     ·rfl
   ·rfl
theorem P.YAK (l:List Int)(n:Int):F.f65 l n=some (dec (n∈l)):=by
 unfold F.f65
 rw[ZIs (n:=l.length) (r:=true) (Q:=fun j=>∀h:j<l.length,l[j]≠n) (L:=F.f64 l n) (fun k hk=>by rw[F.f64,if_neg (by omega)])
  (fun k hk hq=>by
   rw[F.f64,if_pos hk,gQ hk]
   simp only[oE,oS]
   rw[if_neg (hq hk)])
  (fun k hk hq=>by
   rw[F.f64,if_pos hk,gQ hk]
   simp only[oE,oS]
   rw[if_pos (Classical.byContradiction fun h=>hq fun _=>h)]) _ 0 rfl]
 simp only[oE,oS]
 by_cases hm:n∈l
 ·obtain⟨j,hj,e⟩:=List.getElem_of_mem hm
  rw[if_neg (by rw[ZF fun hh=>hh j (by omega) hj hj e];simp),ZI hm]
 ·rw[if_pos (ZI fun j _ hj h e=>hm (by rw[←e];exact gM h)),ZF hm]
theorem P.YD (l:List Int)(n:Int):F.f129 l n=some (dec (n∈l)):=by
 unfold F.f129 F.f128
 have key:∀(m k:Nat),l.length-k=m->∃r,F.f127 l n k=some r/\match r with| .ret j=>0<=j/\n∈l| .go _=>∀j,k<=j->∀h:j<l.length,l[j]≠n:=by
  intro m
  induction m with
  |zero=>intro k hm;rw[F.f127,if_neg (by omega)];exact⟨_,rfl,fun j h1 h2=>by omega⟩
  |succ m ih=>
   intro k hm
   have hk:k<l.length:=by omega
   rw[F.f127,if_pos hk,gQ hk]
   simp only[oE,oS]
   by_cases h:n=l[k]
   ·rw[if_pos h];exact⟨_,rfl,by omega,h▸gM hk⟩
   ·rw[if_neg h]
    obtain⟨r,hr,hx⟩:=ih (k+1) (by omega)
    refine⟨r,hr,?_⟩
    cases r with
    |ret j=>exact hx
    |go _=>
     intro j hj hl
     by_cases e:k=j
     ·subst e;exact fun e=>h e.symm
     ·exact hx j (by omega) hl
 obtain⟨r,hr,hx⟩:=key _ 0 rfl
 rw[hr]
 cases r with
 |ret j=>
  simp only[oE,oS]
  rw[ZI hx.2];simp[hx.1]
 |go _=>
  simp only[oE,oS]
  rw[ZF fun hm=>by obtain⟨j,hj,e⟩:=List.getElem_of_mem hm;exact hx j (by omega) hj e];simp
def pv (w:List Data)(holes:Bool):Nat->Ty->Value->Prop
 |0,_,_=>False
 |d+1,t,v=>(holes=true/\v.ctor= -2/\v.n=0/\v.kids.length=0)∨(¬(holes=true/\v.ctor= -2)/\
   ((t.data= -1/\v.ctor= -1/\0<=v.n/\v.n<=9/\v.kids.length=0)∨
   (t.data≠-1/\v.n=0/\v.ctor∈ZN w t/\v.kids.length=(ZK w t v.ctor).length/\
    ∀i,0<=i->i<(ZK w t v.ctor).length->∀(h:i<(ZK w t v.ctor).length) (h':i<v.kids.length),pv w holes d (ZK w t v.ctor)[i] v.kids[i])))
theorem ZIt (v:Value):v.wt=((v.kids.drop 0).map fun k=>1+k.wt).sum:=by
 rw[List.drop_zero,v.wt_eq]
 have:∀l:List Value,(l.map fun k=>1+k.wt).sum=wtL Value.wt l:=by
  intro l
  induction l with
  |nil=>rfl
  |cons a r ih=>simp[ih]
 exact(this _).symm
def ZCT (w:List Data)(holes:Bool)(d:Nat)(t:Ty)(v:Value)(count:Nat)(b:Bool)(c:Nat):Prop:=
 (b=true↔pv w holes d t v/\count+(1+v.wt)<=60)/\(b=true->c=count+(1+v.wt))
theorem P.YAS (w:List Data)(hw:ZO w)(holes:Bool)(d:Nat)(hd:d+1<=10)(v:Value)(args:List Ty)(hl:args.length=v.kids.length)(hargs:∀a,a∈args->tOk w a)
  (L:Int->Nat->Option (Lo (Bool×Int) Int))
  (hL:∀z i,L z i=if i<v.kids.length then v.kids[i]? >>=fun x=>args[i]? >>=fun y=>F.f152 w y x (i64.wrap (((11- (d+1):Nat):Int)+1)) holes z>>=fun r=>if r.1=true then L r.2 (i+1)else some (.ret (false,r.2))else some (.go z))
  (ih:∀(t:Ty) (x:Value) (count:Nat),tOk w t->count<=60->∃b c,F.f152 w t x ((11-d:Nat):Int) holes (count:Int)=some (b,((c:Nat):Int))/\ZCT w holes d t x count b c):
  ∀(m i:Nat) (z:Nat),v.kids.length-i=m->z<=60->∃o,L z i=some o/\
   match o with
   | .ret (b,c)=>b=false/\∃c':Nat,c=(c':Int)/\¬((∀j,i<=j->j<args.length->∀(h:j<args.length) (h':j<v.kids.length),pv w holes d args[j] v.kids[j])/\z+((v.kids.drop i).map fun k=>1+k.wt).sum<=60)
   | .go c=>c=((z+((v.kids.drop i).map fun k=>1+k.wt).sum:Nat):Int)/\(∀j,i<=j->j<args.length->∀(h:j<args.length) (h':j<v.kids.length),pv w holes d args[j] v.kids[j])/\z+((v.kids.drop i).map fun k=>1+k.wt).sum<=60:=by
 intro m
 induction m with
 |zero=>
  intro i z hm hz
  rw[hL,if_neg (by omega)]
  refine⟨_,rfl,?_⟩
  rw[List.drop_eq_nil_of_le (by omega)]
  exact⟨by simp,fun j h1 h2=>by omega,by simpa using hz⟩
 |succ m ihm=>
  intro i z hm hz
  have hi:i<v.kids.length:=by omega
  have hi':i<args.length:=by omega
  rw[hL,if_pos hi,gQ hi,gQ hi',List.drop_eq_getElem_cons hi]
  simp only[oE,oS,List.map_cons,List.sum_cons]
  rw[ZE (by omega) (by omega),show(((11- (d+1):Nat):Int)+1)=((11-d:Nat):Int)from by omega]
  obtain⟨b,c,h1,h2,h3⟩:=ih args[i] v.kids[i] z (hargs _ (gM hi')) hz
  rw[h1]
  simp only[oS]
  cases b with
  |true=>
   rw[if_pos rfl]
   have hc:=h3 rfl
   obtain⟨hp,hle⟩:=h2.1 rfl
   obtain⟨o,g1,g2⟩:=ihm (i+1) c (by omega) (by omega)
   refine⟨o,g1,?_⟩
   cases o with
   |ret r=>
    obtain⟨b',c'⟩:=r
    obtain⟨q1,c2,q2,q3⟩:=g2
    exact⟨q1,c2,q2,fun hh=>q3 ⟨fun j a b e f=>hh.1 j (by omega) b e f,by omega⟩⟩
   |go r=>
    obtain⟨q1,q2,q3⟩:=g2
    refine⟨by rw[q1];congr 1;omega,fun j a b e f=> ?_,by omega⟩
    by_cases hj:i=j
    ·subst hj;exact hp
    ·exact q2 j (by omega) b e f
  |false=>
   rw[if_neg (by simp)]
   refine⟨_,rfl,rfl,c,rfl,fun hh=> ?_⟩
   have:=h2.2 ⟨hh.1 i (Nat.le_refl _) hi' hi' hi,by omega⟩
   cases this
theorem P.Yw (w:List Data)(hw:ZO w)(holes:Bool):∀(d:Nat) (t:Ty) (v:Value) (count:Nat),d<=10->tOk w t->count<=60->
  ∃b c,F.f152 w t v ((11-d:Nat):Int) holes (count:Int)=some (b,((c:Nat):Int))/\ZCT w holes d t v count b c
 |d,t,v,count,hd,ht,hc=>by
  have e1:i64.wrap ((count:Int)+1)=((count+1:Nat):Int):=by rw[ZE (by omega) (by omega)];omega
  have no:∀(h:¬(pv w holes d t v/\count+(1+v.wt)<=60)),∃b c,(some (false,((count+1:Nat):Int)):Option (Bool×Int))=some (b,((c:Nat):Int))/\ZCT w holes d t v count b c:=
   fun h=>⟨false,count+1,rfl,⟨fun h=>(by cases h),fun hh=>absurd hh h⟩,fun h=>by cases h⟩
  rw[F.f152,e1]
  by_cases h60:60<((count+1:Nat):Int)
  ·rw[if_pos h60];exact no fun h=>by omega
  rw[if_neg h60]
  match d,hd with
  |0,_=>
   rw[if_pos (by omega)]
   exact no fun h=>h.1.elim
  |d+1,hd=>
   rw[if_neg (by omega)]
   -- a value without kids
   have leaf:v.kids.length=0->v.wt=0:=by
    intro h
    rw[v.wt_eq,List.length_eq_zero_iff.1 h];rfl
   have yes:∀(p:Prop) [Decidable p],(p->pv w holes (d+1) t v/\v.wt=0)->(pv w holes (d+1) t v->p)->
     ∃b c,(some (decide p,((count+1:Nat):Int)):Option (Bool×Int))=some (b,((c:Nat):Int))/\ZCT w holes (d+1) t v count b c:=by
    intro p _ h1 h2
    refine⟨decide p,count+1,rfl,⟨fun h=> ?_,fun h=>by simpa using h2 h.1⟩,fun h=> ?_⟩
    ·have:=h1 (by simpa using h);exact⟨this.1,by omega⟩
    ·have:=h1 (by simpa using h);omega
   have ints:t.data= -1->¬(holes=true/\v.ctor= -2)->
     ∃b c,(if v.ctor= -1 then(F.f109 v.n 0 9)>>=fun r=>if r=true then some (decide (v.kids.length=0),((count+1:Nat):Int))else some (false,((count+1:Nat):Int))else some (false,((count+1:Nat):Int)))=some (b,((c:Nat):Int))/\ZCT w holes (d+1) t v count b c:=by
    intro h1 hno
    by_cases a1:v.ctor= -1
    ·rw[if_pos a1,P.YE]
     simp only[oE,oS]
     by_cases a2:0<=v.n/\v.n<=9
     ·rw[if_pos (ZI a2)]
      exact yes _ (fun h=>⟨.inr ⟨hno,.inl ⟨h1,a1,a2.1,a2.2,h⟩⟩,leaf h⟩) (fun h=>h.elim (fun h=>h.2.2.2) (fun h=>h.2.elim (fun h=>h.2.2.2.2) (fun h=>absurd h1 h.1)))
     ·rw[if_neg (by rw[ZF a2];simp)]
      exact no fun h=>h.1.elim (fun h=>hno ⟨h.1,h.2.1⟩) (fun h=>h.2.elim (fun h=>a2 ⟨h.2.2.1,h.2.2.2.1⟩) (fun h=>h.1 h1))
    ·rw[if_neg a1]
     exact no fun h=>h.1.elim (fun h=>hno ⟨h.1,h.2.1⟩) (fun h=>h.2.elim (fun h=>a1 h.2.1) (fun h=>h.1 h1))
   -- a value with a constructor
   have ctors:∀(L:List Ty->Int->Nat->Option (Lo (Bool×Int) Int)),(∀a z i,L a z i=if i<v.kids.length then v.kids[i]? >>=fun x=>a[i]? >>=fun y=>F.f152 w y x (i64.wrap (((11- (d+1):Nat):Int)+1)) holes z>>=fun r=>if r.1=true then L a r.2 (i+1)else some (.ret (false,r.2))else some (.go z))->
     ¬(holes=true/\v.ctor= -2)->t.data≠-1->
     ∃b c,(if v.n=0 then(F.f126 w t)>>=fun x=>(F.f129 x v.ctor)>>=fun y=>if y=true then(F.f132 w t v.ctor)>>=fun a=>if a.length=v.kids.length then(L a ((count+1:Nat):Int) 0)>>=fun o=>match o with| .ret r=>some r| .go s=>some (true,s)else some (false,((count+1:Nat):Int))else some (false,((count+1:Nat):Int))else some (false,((count+1:Nat):Int)))=some (b,((c:Nat):Int))/\ZCT w holes (d+1) t v count b c:=by
    intro L hL hno h1
    by_cases h2:v.n=0
    ·rw[if_pos h2,P.YV w hw t ht]
     simp only[oE,oS]
     rw[P.YD]
     simp only[oS]
     by_cases h3:v.ctor∈ZN w t
     ·rw[if_pos (ZI h3),P.YS w hw t ht _ h3]
      simp only[oS]
      by_cases h4:(ZK w t v.ctor).length=v.kids.length
      ·rw[if_pos h4]
       obtain⟨o,g1,g2⟩:=P.YAS w hw holes d hd v (ZK w t v.ctor) h4 (ZKH hw ht h3).2 (L (ZK w t v.ctor)) (hL _) (fun t x c ht hc=>P.Yw w hw holes d t x c (by omega) ht hc) _ 0 (count+1) rfl (by omega)
       rw[g1]
       simp only[oS]
       have hwt:=ZIt v
       cases o with
       |ret r=>
        obtain⟨b,c⟩:=r
        obtain⟨rfl,c',rfl,q3⟩:=g2
        refine⟨false,c',rfl,⟨fun h=>(by cases h),fun hh=>absurd ⟨?_,?_⟩ q3⟩,fun h=>by cases h⟩
        ·exact hh.1.elim (fun h=>absurd ⟨h.1,h.2.1⟩ hno) (fun h=>h.2.elim (fun h=>absurd h.1 h1) (fun h=>h.2.2.2.2))
        ·have:=hh.2;omega
       |go c=>
        obtain⟨rfl,q2,q3⟩:=g2
        exact⟨true,_,rfl,⟨fun _=>⟨.inr ⟨hno,.inr ⟨h1,h2,h3,h4.symm,q2⟩⟩,by omega⟩,fun _=>rfl⟩,fun _=>by omega⟩
      ·rw[if_neg h4]
       exact no fun h=>h.1.elim (fun h=>hno ⟨h.1,h.2.1⟩) (fun h=>h.2.elim (fun h=>h1 h.1) (fun h=>h4 h.2.2.2.1.symm))
     ·rw[if_neg (by rw[ZF h3];simp)]
      exact no fun h=>h.1.elim (fun h=>hno ⟨h.1,h.2.1⟩) (fun h=>h.2.elim (fun h=>h1 h.1) (fun h=>h3 h.2.2.1))
    ·rw[if_neg h2]
     exact no fun h=>h.1.elim (fun h=>hno ⟨h.1,h.2.1⟩) (fun h=>h.2.elim (fun h=>h1 h.1) (fun h=>h2 h.2.1))
   by_cases hh:holes=true
   ·rw[if_pos hh]
    by_cases h0:v.ctor= -2
    ·rw[if_pos h0]
     by_cases hn:v.n=0
     ·rw[if_pos hn]
      exact yes _ (fun h=>⟨.inl ⟨hh,h0,hn,h⟩,leaf h⟩) (fun h=>h.elim (fun h=>h.2.2.2) (fun h=>absurd ⟨hh,h0⟩ h.1))
     ·rw[if_neg hn]
      exact no fun h=>h.1.elim (fun h=>hn h.2.2.1) (fun h=>h.1 ⟨hh,h0⟩)
    rw[if_neg h0]
    have hno:¬(holes=true/\v.ctor= -2):=fun h=>h0 h.2
    by_cases h1:t.data= -1
    ·rw[if_pos h1];exact ints h1 hno
    ·rw[if_neg h1]
     exact ctors (fun a=>F.f153 w v ((11- (d+1):Nat):Int) holes a) (fun a z i=>by
      show F.f153 w v ((11- (d+1):Nat):Int) holes a z i=_
      rw[F.f153]) hno h1
   ·rw[if_neg hh]
    have hno:¬(holes=true/\v.ctor= -2):=fun h=>hh h.1
    by_cases h1:t.data= -1
    ·rw[if_pos h1];exact ints h1 hno
    ·rw[if_neg h1]
     exact ctors (fun a=>F.f154 w v ((11- (d+1):Nat):Int) holes a) (fun a z i=>by
      show F.f154 w v ((11- (d+1):Nat):Int) holes a z i=_
      rw[F.f154]) hno h1
termination_by d=>d
def rok (K:Nat)(r:ZB):Prop:=r.f0.length<=2000/\(∀x,x∈r.f0->0<=x/\x<=255)/\0<=r.f1/\r.f1<=(K:Int)
theorem rok.mono {K L:Nat}{r:ZB}(h:rok K r)(hl:K<=L):rok L r:=⟨h.1,h.2.1,h.2.2.1,by have:=h.2.2.2;omega⟩
theorem ZMK {a b:Int}(ha:0<=a)(hb:0<=b)(ha':a<4611686018427387904)(hb':b<4611686018427387904):0<=ZML .i64 a b:=by
 unfold ZML
 obtain⟨m,rfl⟩:=Int.eq_ofNat_of_zero_le ha
 obtain⟨n,rfl⟩:=Int.eq_ofNat_of_zero_le hb
 have hm:m<2^62:=by omega
 have hn:n<2^62:=by omega
 have h:(BitVec.ofInt IntKind.i64.bits (m:Int)^^^BitVec.ofInt IntKind.i64.bits (n:Int)).toNat<2^62:=by
  rw[BitVec.toNat_xor]
  refine Nat.xor_lt_two_pow ?_ ?_
  ·show(BitVec.ofInt 64 (m:Int)).toNat<2^62
   rw[BitVec.toNat_ofInt];omega
  ·show(BitVec.ofInt 64 (n:Int)).toNat<2^62
   rw[BitVec.toNat_ofInt];omega
 rw[ZE (by omega) (by omega)]
 exact Int.natCast_nonneg _
theorem ZEN {α:Type}{xs:List α}{i:Int}(h0:0<=i)(h1:i<xs.length):∃x,at? xs i=some x/\x∈xs:=by
 have hi:i.toNat<xs.length:=by omega
 refine⟨xs[i.toNat],?_,gM hi⟩
 unfold at?
 rw[if_pos h0,gQ hi]
theorem P.YJ {K:Nat}{r:ZB}(h:rok K r)(hK:K<=1099511627776)(n:Int):∃v r',F.f1 r n=some (v,r')/\rok (K+1) r'/\0<=v/\(1<=n->v<n)/\(n<1->v=0):=by
 obtain⟨h1,h2,h3,h4⟩:=h
 unfold F.f1
 have e1:i64.wrap (r.f1+1)=r.f1+1:=ZE (by omega) (by omega)
 have e2:i64.wrap (r.f1+1-1)=r.f1:=by rw[ZE (by omega) (by omega)];omega
 have hr':rok (K+1) ⟨r.f0,r.f1+1⟩:=⟨h1,h2,by show 0<=r.f1+1;omega,by show r.f1+1<=((K+1:Nat):Int);omega⟩
 rw[e1,e2]
 by_cases hn:n<1
 ·rw[if_pos hn];exact⟨0,_,rfl,hr',by omega,by omega,fun _=>rfl⟩
 rw[if_neg hn]
 by_cases hl:r.f0.length=0
 ·rw[if_pos hl];exact⟨0,_,rfl,hr',by omega,by omega,fun _=>rfl⟩
 rw[if_neg hl]
 have tm:∀x:Int,0<=x->0<=x.tmod n/\x.tmod n<n:=fun x hx=>⟨Int.tmod_nonneg n hx,Int.tmod_lt_of_pos x (by omega)⟩
 have tl:∀x:Int,0<=x->0<=x.tmod (r.f0.length:Int)/\x.tmod (r.f0.length:Int)<r.f0.length:=fun x hx=>⟨Int.tmod_nonneg _ hx,Int.tmod_lt_of_pos x (by omega)⟩
 by_cases hk:r.f1<(r.f0.length:Int)
 ·rw[if_pos hk]
  obtain⟨x,hx,hm⟩:=ZEN h3 hk
  have hb:=h2 x hm
  rw[hx]
  simp only[oE,oS]
  rw[if_pos (by omega),ZE (by omega) (by omega)]
  have:=tm x hb.1
  exact⟨_,_,rfl,hr',this.1,fun _=>this.2,fun h=>by omega⟩
 ·rw[if_neg hk,if_pos (by omega)]
  have e7:i64.wrap (r.f1*7)=r.f1*7:=ZE (by omega) (by omega)
  have e73:i64.wrap (r.f1*7+3)=r.f1*7+3:=ZE (by omega) (by omega)
  rw[e7,e73]
  have t1:=tl r.f1 h3
  have t2:=tl (r.f1*7+3) (by omega)
  obtain⟨x,hx,hm⟩:=ZEN t1.1 t1.2
  obtain⟨y,hy,hm'⟩:=ZEN t2.1 t2.2
  have hb:=h2 x hm
  have hb':=h2 y hm'
  have hq0:0<=r.f1.tdiv (r.f0.length:Int):=Int.tdiv_nonneg h3 (by omega)
  have hq1:r.f1.tdiv (r.f0.length:Int)<=r.f1:=Int.tdiv_le_self _ h3
  rw[hx,hy]
  simp only[oE,oS]
  rw[if_pos (by omega)]
  generalize r.f1.tdiv (r.f0.length:Int)=q at hq0 hq1 ⊢
  rw[ZE (n:=x) (by omega) (by omega),ZE (n:=y) (by omega) (by omega),ZE (n:=q) (by omega) (by omega),ZE (n:=x*131) (by omega) (by omega),ZE (n:=y*1117) (by omega) (by omega),
   ZE (n:=r.f1*29) (by omega) (by omega),ZE (n:=q*53) (by omega) (by omega),ZE (n:=x*131+y*1117) (by omega) (by omega),ZE (n:=x*131+y*1117+r.f1*29) (by omega) (by omega),
   ZE (n:=x*131+y*1117+r.f1*29+q*53) (by omega) (by omega)]
  have hz0:0<=x*131+y*1117+r.f1*29+q*53:=by omega
  have hz1:x*131+y*1117+r.f1*29+q*53<4611686018427387904:=by omega
  generalize x*131+y*1117+r.f1*29+q*53=z at hz0 hz1 ⊢
  have hd0:0<=z.tdiv 64:=Int.tdiv_nonneg hz0 (by omega)
  have hd1:z.tdiv 64<=z:=Int.tdiv_le_self _ hz0
  rw[ZE (n:=z.tdiv 64) (by omega) (by omega)]
  have:=tm _ (ZMK hz0 hd0 hz1 (by omega))
  exact⟨_,_,rfl,hr',this.1,fun _=>this.2,fun h=>by omega⟩
theorem P.num {K:Nat}{r:ZB}(h:rok K r)(hK:K<=1099511627776)(l:List Int)(hl:l≠[]):∃v r',F.f54 r l=some (v,r')/\rok (K+1) r'/\v∈l:=by
 unfold F.f54
 obtain⟨v,r',e,h1,h2,h3,_⟩:=P.YJ h hK (l.length:Int)
 have:0<l.length:=List.length_pos_iff.2 hl
 obtain⟨x,hx,hm⟩:=ZEN h2 (h3 (by omega))
 rw[e]
 simp only[oE,oS]
 rw[hx]
 exact⟨x,r',rfl,h1,hm⟩
def W0 :List Data:=[⟨⟨#[76]⟩,[⟨⟨#[78,105,108]⟩,[],0⟩,⟨⟨#[67,111,110,115]⟩,[⟨-1,0⟩,⟨0,0⟩],0⟩]⟩]
theorem ZLz :F.f38 ⟨#[76,61,78,105,108,124,67,111,110,115,40,73,44,76,41]⟩=some (W0,true):=E.f38_le 100 _ _ (by kernel_rfl)
theorem ZLy :F.f53 W0=some [1,1,1,1]:=E.f53_le 100 _ _ (by kernel_rfl)
def W1 :List Data:=[⟨⟨#[66]⟩,[⟨⟨#[84,114,117]⟩,[],0⟩,⟨⟨#[70,108,115]⟩,[],0⟩]⟩,⟨⟨#[84]⟩,[⟨⟨#[76,101,97,102]⟩,[],0⟩,⟨⟨#[78,111,100,101]⟩,[⟨1,0⟩,⟨0,0⟩,⟨1,0⟩],0⟩]⟩]
theorem ZLx :F.f38 ⟨#[66,61,84,114,117,124,70,108,115,59,84,61,76,101,97,102,124,78,111,100,101,40,84,44,66,44,84,41]⟩=some (W1,true):=E.f38_le 100 _ _ (by kernel_rfl)
theorem ZLw :F.f53 W1=some [1,1,1,1,1,1,1,1]:=E.f53_le 100 _ _ (by kernel_rfl)
def W2 :List Data:=[⟨⟨#[69]⟩,[⟨⟨#[78,117,109]⟩,[⟨-1,0⟩],1⟩,⟨⟨#[66,111,108]⟩,[⟨1,0⟩],2⟩,⟨⟨#[65,100,100]⟩,[⟨0,1⟩,⟨0,1⟩],1⟩,⟨⟨#[73,102]⟩,[⟨0,2⟩,⟨0,-1⟩,⟨0,-1⟩],0⟩]⟩,⟨⟨#[66]⟩,[⟨⟨#[84,114,117]⟩,[],0⟩,⟨⟨#[70,108,115]⟩,[],0⟩]⟩]
theorem ZLv :F.f38 ⟨#[69,61,78,117,109,40,73,41,58,49,124,66,111,108,40,66,41,58,50,124,65,100,100,40,69,49,44,69,49,41,58,49,124,73,102,40,69,50,44,69,42,44,69,42,41,59,66,61,84,114,117,124,70,108,115]⟩=some (W2,true):=E.f38_le 100 _ _ (by kernel_rfl)
theorem ZLu :F.f53 W2=some [2,2,2,0,1,1,1,1]:=E.f53_le 100 _ _ (by kernel_rfl)
def W3 :List Data:=[⟨⟨#[79]⟩,[⟨⟨#[78,111,110]⟩,[],0⟩,⟨⟨#[83,111,109]⟩,[⟨-1,0⟩],0⟩]⟩,⟨⟨#[80]⟩,[⟨⟨#[80,97,105,114]⟩,[⟨0,0⟩,⟨0,0⟩],0⟩]⟩]
theorem ZLt :F.f38 ⟨#[79,61,78,111,110,124,83,111,109,40,73,41,59,80,61,80,97,105,114,40,79,44,79,41]⟩=some (W3,true):=E.f38_le 100 _ _ (by kernel_rfl)
theorem ZLs :F.f53 W3=some [1,1,1,1,2,2,2,2]:=E.f53_le 100 _ _ (by kernel_rfl)
def W4 :List Data:=[⟨⟨#[86]⟩,[⟨⟨#[69,110,100]⟩,[],1⟩,⟨⟨#[83,111,109,101]⟩,[⟨-1,0⟩,⟨0,1⟩],2⟩,⟨⟨#[84,119,111]⟩,[⟨0,-1⟩],0⟩]⟩]
theorem ZLr :F.f38 ⟨#[86,61,69,110,100,58,49,124,83,111,109,101,40,73,44,86,49,41,58,50,124,84,119,111,40,86,42,41]⟩=some (W4,true):=E.f38_le 100 _ _ (by kernel_rfl)
theorem ZLq :F.f53 W4=some [1,1,2,0]:=E.f53_le 100 _ _ (by kernel_rfl)
def W5 :List Data:=[⟨⟨#[78]⟩,[⟨⟨#[78,101,118,101,114]⟩,[⟨0,0⟩],0⟩]⟩,⟨⟨#[66]⟩,[⟨⟨#[84,114,117]⟩,[],0⟩,⟨⟨#[70,108,115]⟩,[],0⟩,⟨⟨#[77,97,121]⟩,[⟨0,0⟩],0⟩]⟩]
theorem ZLp :F.f38 ⟨#[78,61,78,101,118,101,114,40,78,41,59,66,61,84,114,117,124,70,108,115,124,77,97,121,40,78,41]⟩=some (W5,true):=E.f38_le 100 _ _ (by kernel_rfl)
theorem ZLo :F.f53 W5=some [0,0,0,0,1,1,1,1]:=E.f53_le 100 _ _ (by kernel_rfl)
def W6 :List Data:=[⟨⟨#[83]⟩,[⟨⟨#[82,101,100]⟩,[],0⟩,⟨⟨#[71,114,101,101,110]⟩,[],0⟩,⟨⟨#[66,108,117,101]⟩,[],0⟩,⟨⟨#[77,105,120]⟩,[⟨0,0⟩,⟨0,0⟩],0⟩]⟩]
theorem ZLn :F.f38 ⟨#[83,61,82,101,100,124,71,114,101,101,110,124,66,108,117,101,124,77,105,120,40,83,44,83,41]⟩=some (W6,true):=E.f38_le 100 _ _ (by kernel_rfl)
theorem ZLm :F.f53 W6=some [1,1,1,1]:=E.f53_le 100 _ _ (by kernel_rfl)
def ZEW :List ByteArray:=[⟨#[76,61,78,105,108,124,67,111,110,115,40,73,44,76,41]⟩,⟨#[66,61,84,114,117,124,70,108,115,59,84,61,76,101,97,102,124,78,111,100,101,40,84,44,66,44,84,41]⟩,⟨#[69,61,78,117,109,40,73,41,58,49,124,66,111,108,40,66,41,58,50,124,65,100,100,40,69,49,44,69,49,41,58,49,124,73,102,40,69,50,44,69,42,44,69,42,41,59,66,61,84,114,117,124,70,108,115]⟩,⟨#[79,61,78,111,110,124,83,111,109,40,73,41,59,80,61,80,97,105,114,40,79,44,79,41]⟩,⟨#[86,61,69,110,100,58,49,124,83,111,109,101,40,73,44,86,49,41,58,50,124,84,119,111,40,86,42,41]⟩,⟨#[78,61,78,101,118,101,114,40,78,41,59,66,61,84,114,117,124,70,108,115,124,77,97,121,40,78,41]⟩,⟨#[83,61,82,101,100,124,71,114,101,101,110,124,66,108,117,101,124,77,105,120,40,83,44,83,41]⟩,ByteArray.empty]
theorem P.YAd :F.f0=some ZEW:=rfl
def ZAO :List (List Data):=[W0,W1,W2,W3,W4,W5,W6]
theorem P.YAc {K:Nat}{r:ZB}(h:rok K r)(hK:K<=1099511627776):∃w r',F.f39 r=some (w,r')/\rok (K+1) r'/\w∈ZAO:=by
 unfold F.f39
 rw[P.YAd]
 simp only[oE,oS]
 obtain⟨v,r',e,h1,h2,h3,_⟩:=P.YJ h hK 7
 have e7:i64.wrap (((8:Nat):Int) -1)=7:=by rw[ZE (by omega) (by omega)];rfl
 have e8:ZEW.length=8:=rfl
 rw[e8,e7,e]
 simp only[oS]
 have h3:=h3 (by omega)
 have hv:v=0∨v=1∨v=2∨v=3∨v=4∨v=5∨v=6:=by omega
 rcases hv with rfl|rfl|rfl|rfl|rfl|rfl|rfl
 ·have:at? ZEW 0=some (⟨#[76,61,78,105,108,124,67,111,110,115,40,73,44,76,41]⟩:ByteArray):=rfl
  rw[this];simp only[oS]
  rw[ZLz]
  exact⟨W0,r',rfl,h1,by simp[ZAO]⟩
 ·have:at? ZEW 1=some (⟨#[66,61,84,114,117,124,70,108,115,59,84,61,76,101,97,102,124,78,111,100,101,40,84,44,66,44,84,41]⟩:ByteArray):=rfl
  rw[this];simp only[oS]
  rw[ZLx]
  exact⟨W1,r',rfl,h1,by simp[ZAO]⟩
 ·have:at? ZEW 2=some (⟨#[69,61,78,117,109,40,73,41,58,49,124,66,111,108,40,66,41,58,50,124,65,100,100,40,69,49,44,69,49,41,58,49,124,73,102,40,69,50,44,69,42,44,69,42,41,59,66,61,84,114,117,124,70,108,115]⟩:ByteArray):=rfl
  rw[this];simp only[oS]
  rw[ZLv]
  exact⟨W2,r',rfl,h1,by simp[ZAO]⟩
 ·have:at? ZEW 3=some (⟨#[79,61,78,111,110,124,83,111,109,40,73,41,59,80,61,80,97,105,114,40,79,44,79,41]⟩:ByteArray):=rfl
  rw[this];simp only[oS]
  rw[ZLt]
  exact⟨W3,r',rfl,h1,by simp[ZAO]⟩
 ·have:at? ZEW 4=some (⟨#[86,61,69,110,100,58,49,124,83,111,109,101,40,73,44,86,49,41,58,50,124,84,119,111,40,86,42,41]⟩:ByteArray):=rfl
  rw[this];simp only[oS]
  rw[ZLr]
  exact⟨W4,r',rfl,h1,by simp[ZAO]⟩
 ·have:at? ZEW 5=some (⟨#[78,61,78,101,118,101,114,40,78,41,59,66,61,84,114,117,124,70,108,115,124,77,97,121,40,78,41]⟩:ByteArray):=rfl
  rw[this];simp only[oS]
  rw[ZLp]
  exact⟨W5,r',rfl,h1,by simp[ZAO]⟩
 ·have:at? ZEW 6=some (⟨#[83,61,82,101,100,124,71,114,101,101,110,124,66,108,117,101,124,77,105,120,40,83,44,83,41]⟩:ByteArray):=rfl
  rw[this];simp only[oS]
  rw[ZLn]
  exact⟨W6,r',rfl,h1,by simp[ZAO]⟩
theorem P.YAf {K:Nat}{r:ZB}(h:rok K r)(hK:K+4<=1099511627776)(w:List Data):∃t r',F.f95 r w=some (t,r')/\rok (K+4) r':=by
 unfold F.f95
 obtain⟨v1,r1,e1,h1,_⟩:=P.YJ h (by omega) 16
 rw[e1]
 simp only[oE,oS]
 split
 ·obtain⟨v2,r2,e2,h2,_⟩:=P.num h1 (by omega) [-1,-2,9,0] (by simp)
  obtain⟨v3,r3,e3,h3,_⟩:=P.num h2 (by omega) [0,1,-1,4] (by simp)
  rw[e2];simp only[oS]
  rw[e3]
  exact⟨_,_,rfl,h3.mono (by omega)⟩
 ·obtain⟨v2,r2,e2,h2,_⟩:=P.YJ h1 (by omega) 8
  rw[e2];simp only[oS]
  split
  ·exact⟨_,_,rfl,h2.mono (by omega)⟩
  ·obtain⟨v3,r3,e3,h3,_⟩:=P.YJ h2 (by omega) (w.length:Int)
   obtain⟨v4,r4,e4,h4,_⟩:=P.num h3 (by omega) [0,0,1,2,0,3] (by simp)
   rw[e3];simp only[oS]
   rw[e4]
   exact⟨_,_,rfl,h4.mono (by omega)⟩
def pk (f:Nat->Nat):Nat->Nat
 |0=>0
 |k+1=>pk f k+f k*1024^k
theorem ZEe {f g:Nat->Nat}:∀(k:Nat),(∀i,i<k->f i=g i)->pk f k=pk g k
 |0,_=>rfl
 |k+1,h=>by rw[pk,pk,ZEe k (fun i hi=>h i (by omega)),h k (by omega)]
theorem ZFF (f g:Nat->Nat):∀(k:Nat),pk (fun i=>f i+g i) k=pk f k+pk g k
 |0=>rfl
 |k+1=>by simp only[pk];rw[ZFF f g k,Nat.add_mul];omega
theorem ZJQ (f:Nat->Nat)(j:Nat):∀(k:Nat),pk f (j+k)=pk f j+1024^j*pk (fun i=>f (j+i)) k
 |0=>by simp[pk]
 |k+1=>by
  show pk f (j+k)+f (j+k)*1024^ (j+k)=_
  rw[ZJQ f j k,pk,Nat.mul_add,Nat.pow_add]
  have:f (j+k)*(1024^j*1024^k)=1024^j*(f (j+k)*1024^k):=by rw[Nat.mul_left_comm]
  omega
theorem ZMk {f:Nat->Nat}(h:∀i,f i<1024):∀(k:Nat),pk f k<1024^k
 |0=>by simp[pk]
 |k+1=>by
  have:=ZMk h k
  have h1:f k*1024^k<=1023*1024^k:=Nat.mul_le_mul_right _ (by have:=h k;omega)
  rw[pk,Nat.pow_succ];omega
theorem ZL7 {f:Nat->Nat}(h:∀i,f i<1024)(j k:Nat):pk f (j+k)/1024^j=pk (fun i=>f (j+i)) k:=by
 rw[ZJQ,Nat.add_mul_div_left _ _ (Nat.pow_pos (by omega)),Nat.div_eq_of_lt (ZMk h j),Nat.zero_add]
theorem ZL6 {f:Nat->Nat}(h:∀i,f i<1024)(j k:Nat):pk f (j+k)%1024^j=pk f j:=by
 rw[ZJQ,Nat.add_mul_mod_self_left,Nat.mod_eq_of_lt (ZMk h j)]
def frc {α:Type}(n:Nat)(f:Nat->α):α:=Nat.rec (motive:=fun _=>α) (f 0) (fun k _=>f (Nat.succ k)) n
theorem ZCI {α:Type}(n:Nat)(f:Nat->α):frc n f=f n:=by cases n<;>rfl
theorem ZQO {a b:Nat}(h:a≠b):Nat.beq a b=false:=by
 cases e:Nat.beq a b
 ·rfl
 ·exact absurd (Nat.eq_of_beq_eq_true e) h
def ZKC (l:Nat):Nat:=if((l%64)^^^ (l/192))%3=l/64%3 then 1 else 0
def ZM3 (k:Nat):Nat->Nat:=Nat.rec (motive:=fun _=>Nat->Nat) (fun V=>V) (fun l ih V=>frc (V*1024+cond (Nat.beq (Nat.mod (Nat.xor (Nat.mod l 64) (Nat.div l 192)) 3) (Nat.mod (Nat.div l 64) 3)) 1 0) ih) k
theorem ZJs :∀(k V:Nat),ZM3 k V=pk ZKC k+1024^k*V
 |0,V=>by show V=0+1*V;omega
 |k+1,V=>by
  have e:ZM3 (k+1) V=ZM3 k (V*1024+ZKC k):=by
   show frc _ (ZM3 k)=_
   rw[ZCI]
   congr 2
   show cond (Nat.beq (((k%64)^^^ (k/192))%3) (k/64%3)) 1 0=ZKC k
   unfold ZKC
   by_cases h:((k%64)^^^ (k/192))%3=k/64%3
   ·rw[if_pos h,h];simp
   ·rw[if_neg h,(ZQO h)];rfl
  rw[e,ZJs k,pk,Nat.pow_succ,Nat.mul_add]
  have:1024^k*(V*1024)=1024^k*1024*V:=by rw[Nat.mul_assoc,Nat.mul_comm 1024 V]
  have:1024^k*ZKC k=ZKC k*1024^k:=Nat.mul_comm _ _
  omega
def tb (G u:Nat):Nat:=if((64*G+u)^^^G)%3=0 then 1 else 0
theorem ZNt {G u:Nat}(hu:u<64):((64*G+u)^^^G)%3=((G^^^ (G/64))+(u^^^ (G%64)))%3:=by
 have h1:((64*G+u)^^^G)/64=G^^^ (G/64):=by
  have:=Nat.shiftRight_xor_distrib (a:=64*G+u) (b:=G) (i:=6)
  simp only[Nat.shiftRight_eq_div_pow]at this
  rw[show(64:Nat)=2^6 from rfl,this];congr 1;omega
 have h2:((64*G+u)^^^G)%64=u^^^ (G%64):=by
  have:=Nat.xor_mod_two_pow (a:=64*G+u) (b:=G) (n:=6)
  rw[show(64:Nat)=2^6 from rfl,this];congr 1;omega
 omega
def row (T G:Nat):Nat:=Nat.mod (Nat.div T (Nat.pow 1024 (Nat.mul 64 (Nat.add (Nat.mul 3 (Nat.mod G 64)) (Nat.mod (Nat.sub 3 (Nat.mod (Nat.xor G (Nat.div G 64)) 3)) 3))))) (Nat.pow 1024 64)
theorem ZKB (l:Nat):ZKC l<1024:=by unfold ZKC;split<;>omega
theorem ZPS (G u:Nat):tb G u<=1:=by unfold tb;split<;>omega
@[irreducible] def TB :Nat:=pk ZKC 12288
theorem ZPB :TB=pk ZKC 12288:=by unfold TB;rfl
theorem ZI4 (G:Nat):row TB G=pk (tb G) 64:=by
 show(TB/1024^ (64*(3*(G%64)+(3- (G^^^ (G/64))%3)%3)))%1024^64=_
 generalize hr:(3- (G^^^ (G/64))%3)%3=r
 have hr3:r<3:=by omega
 have hh:G%64<64:=Nat.mod_lt _ (by omega)
 obtain⟨j,hj⟩:∃j,j=64*(3*(G%64)+r):=⟨_,rfl⟩
 rw[ZPB,←hj,show(12288:Nat)=j+(64+(12224-j)) by omega,ZL7 ZKB,ZL6 (fun i=>ZKB _)]
 refine ZEe _ fun u hu=> ?_
 unfold ZKC tb
 rw[ZNt hu]
 have e1:(j+u)%64=u:=by omega
 have e2:(j+u)/192=G%64:=by omega
 have e3:(j+u)/64%3=r:=by omega
 rw[e1,e2,e3]
 generalize(u^^^ (G%64))=a
 generalize hg:(G^^^ (G/64))=g at hr ⊢
 by_cases h:a%3=r
 ·rw[if_pos h,if_pos (by omega)]
 ·rw[if_neg h,if_neg (by omega)]
def cnt (m:Nat):Nat->Nat->Nat->Nat
 |0,_,_=>0
 |k+1,G,u=>tb G u+cnt m k (G+m) u
theorem ZEr (m:Nat):∀(k G u:Nat),cnt m (k+1) G u=cnt m k G u+tb (G+m*k) u
 |0,G,u=>by simp[cnt]
 |k+1,G,u=>by
  show tb G u+cnt m (k+1) (G+m) u=tb G u+cnt m k (G+m) u+_
  rw[ZEr m k,Nat.mul_add,Nat.mul_one,show G+m+m*k=G+(m*k+m) by omega];omega
theorem ZMH (m:Nat):∀(k G u:Nat),cnt m k G u<=k
 |0,G,u=>by simp[cnt]
 |k+1,G,u=>by have:=ZMH m k (G+m) u;have:=ZPS G u;simp only[cnt];omega
def acc (T m k:Nat):Nat->Nat->Nat:=
 Nat.rec (motive:=fun _=>Nat->Nat->Nat) (fun _ V=>V) (fun _ ih G V=>frc (V+row T G) fun V'=>frc (G+m) fun G'=>ih G' V') k
theorem ZMI (m:Nat):∀(k G V:Nat),acc TB m k G V=V+pk (cnt m k G) 64
 |0,G,V=>by show V=V+pk (fun u=>0) 64;rfl
 |k+1,G,V=>by
  have e:acc TB m (k+1) G V=acc TB m k (G+m) (V+row TB G):=by
   show frc (V+row TB G) (fun V'=>frc (G+m) fun G'=>acc TB m k G' V')=_
   rw[ZCI,ZCI]
  rw[e,ZMI m k,ZI4,show cnt m (k+1) G=fun u=>tb G u+cnt m k (G+m) u from rfl,ZFF];omega
def okV (V:Nat):Bool:=Nat.beq (Nat.land (V+pk (fun _=>385) 64) (pk (fun _=>512) 64)) 0
def ZHs (T m k:Nat):Nat->Nat->Nat->Bool:=
 Nat.rec (motive:=fun _=>Nat->Nat->Nat->Bool) (fun _ _ _=>true)
  (fun _ ih L H V=>cond (okV V) (frc (V+row T H-row T L) fun V'=>frc (L+m) fun L'=>frc (H+m) fun H'=>ih L' H' V') false) k
theorem ZHA {m Q:Nat}:∀(k G:Nat),ZHs TB m k G (G+m*Q) (pk (cnt m Q G) 64)=true->∀i,i<k->okV (pk (cnt m Q (G+m*i)) 64)=true
 |0,G,h,i,hi=>by omega
 |k+1,G,h,i,hi=>by
  have h':(cond (okV (pk (cnt m Q G) 64)) (ZHs TB m k (G+m) (G+m*Q+m) (pk (cnt m Q G) 64+row TB (G+m*Q) -row TB G)) false)=true:=by
   rw[←h]
   show _=cond _ (frc _ _) false
   rw[ZCI,ZCI,ZCI];rfl
  have h1:okV (pk (cnt m Q G) 64)=true:=by
   revert h';cases okV (pk (cnt m Q G) 64)<;>simp
  rw[h1,cond_true]at h'
  cases i with
  |zero=>simpa using h1
  |succ i=>
   have e:pk (cnt m Q G) 64+row TB (G+m*Q) -row TB G=pk (cnt m Q (G+m)) 64:=by
    rw[ZI4,ZI4,←ZFF,ZEe (f:=fun u=>cnt m Q G u+tb (G+m*Q) u) (g:=fun u=>tb G u+cnt m Q (G+m) u) 64 (fun u _=>(ZEr m Q G u).symm),ZFF];omega
   rw[e,show G+m*Q+m=G+m+m*Q by omega]at h'
   have:=ZHA k (G+m) h' i (by omega)
   rwa[show G+m+m*i=G+m*(i+1) by rw[Nat.mul_add];omega]at this
theorem ZOL {f:Nat->Nat}(hf:∀i,f i<=638)(h:okV (pk f 64)=true){u:Nat}(hu:u<64):f u<=126:=by
 have h0:(pk f 64+pk (fun _=>385) 64)&&& pk (fun _=>512) 64=0:=Nat.eq_of_beq_eq_true h
 rw[←ZFF]at h0
 have hb:=congrArg (fun x=>x.testBit (10*u+9)) h0
 simp only[Nat.testBit_and,Nat.zero_testBit]at hb
 have key:∀g:Nat->Nat,(∀i,g i<1024)->(pk g 64).testBit (10*u+9)=decide (512<=g u):=fun g hg=>by
  have e:=ZL7 hg u (1+(63-u))
  rw[show u+(1+(63-u))=64 by omega]at e
  have e2:=ZL6 (f:=fun i=>g (u+i)) (fun i=>hg _) 1 (63-u)
  rw[←e]at e2
  have e3:pk (fun i=>g (u+i)) 1=g u:=by simp[pk]
  rw[e3,Nat.pow_one]at e2
  rw[Nat.testBit_eq_decide_div_mod_eq,Nat.pow_add,←Nat.div_div_eq_div_mul,Nat.pow_mul]
  rw[show(2:Nat)^10=1024 from rfl,show(2:Nat)^9=512 from rfl]
  generalize pk g 64/1024^u=z at e2
  have:=hg u
  congr 1
  exact propext ⟨fun _=>by omega,fun _=>by omega⟩
 rw[key _ (fun i=>by have:=hf i;omega),key _ (fun i=>by omega)]at hb
 simp at hb
 have:=hb
 omega
def ZJ7 (T m Q k:Nat):Bool:=Nat.rec (motive:=fun _=>Bool) true (fun c ih=>cond (frc (acc T m Q c 0) fun V=>frc (c+m*Q) fun H=>ZHs T m (1101/m+1) c H V) ih false) k
theorem ZJ6 {m Q:Nat}:∀(k:Nat),ZJ7 TB m Q k=true->∀c,c<k->∀i,i<1101/m+1->okV (pk (cnt m Q (c+m*i)) 64)=true
 |0,h,c,hc=>by omega
 |k+1,h,c,hc=>by
  have h':cond (ZHs TB m (1101/m+1) k (k+m*Q) (acc TB m Q k 0)) (ZJ7 TB m Q k) false=true:=by
   rw[←h]
   show _=cond (frc _ _) _ _
   rw[ZCI,ZCI];rfl
  rw[ZMI,Nat.zero_add]at h'
  have h1:ZHs TB m (1101/m+1) k (k+m*Q) (pk (cnt m Q k) 64)=true:=by
   revert h';cases ZHs TB m (1101/m+1) k (k+m*Q) (pk (cnt m Q k) 64)<;>simp
  rw[h1,cond_true]at h'
  by_cases hk:c=k
  ·subst hk;exact ZHA _ _ h1
  ·exact ZJ6 k h' c (by omega)
def ZPL (T:Nat):Bool:=(ZJ7 T 15 256 15&& ZJ7 T 44 256 44&& ZJ7 T 73 256 73&& ZJ7 T 102 256 102)&& (ZJ7 T 1 128 1&& ZJ7 T 59 128 59&& ZJ7 T 117 128 117&& ZJ7 T 175 128 175)
def ZLd :Bool:=frc (ZM3 12288 0) ZPL
theorem ZM2 :∀k,k=12288->ZM3 k 0=TB:=by
 intro k hk
 rw[ZJs,Nat.mul_zero,Nat.add_zero,ZPB,hk]
theorem ZEu :ZLd=true:=by kernel_rfl
theorem ZO7 (k:Nat)(hk:k=12288)(h:frc (ZM3 k 0) ZPL=true):ZPL TB=true:=by
 rwa[ZCI,ZM2 k hk]at h
theorem ZJ5 {m Q:Nat}(hm:(Q=256/\(m=15∨m=44∨m=73∨m=102))∨(Q=128/\(m=1∨m=59∨m=117∨m=175))){G u:Nat}(hG:G<=1100)(hu:u<64):cnt m Q G u<=126:=by
 have h:=ZO7 12288 rfl ZEu
 unfold ZPL at h
 simp only[Bool.and_eq_true]at h
 obtain⟨⟨⟨⟨a1,a2⟩,a3⟩,a4⟩,⟨⟨a5,a6⟩,a7⟩,a8⟩:=h
 have hc:ZJ7 TB m Q m=true:=by
  rcases hm with⟨rfl,rfl|rfl|rfl|rfl⟩|⟨rfl,rfl|rfl|rfl|rfl⟩
  ·exact a1
  ·exact a2
  ·exact a3
  ·exact a4
  ·exact a5
  ·exact a6
  ·exact a7
  ·exact a8
 have hm0:0<m:=by omega
 have hq:Q<=256:=by omega
 have:=ZJ6 m hc (G%m) (Nat.mod_lt _ hm0) (G/m) (by have:=Nat.div_le_div_right (c:=m) (show G<=1101 by omega);omega)
 rw[Nat.mod_add_div]at this
 exact ZOL (fun i=>by have:=ZMH m Q G i;omega) this hu
def ZAI (f:Nat->Int):Nat->Int
 |0=>0
 |k+1=>ZAI f k+f k
theorem ZBN {f g:Nat->Int}:∀(k:Nat),(∀i,i<k->f i=g i)->ZAI f k=ZAI g k
 |0,_=>rfl
 |k+1,h=>by rw[ZAI,ZAI,ZBN k (fun i hi=>h i (by omega)),h k (by omega)]
theorem ZDF {f g:Nat->Int}:∀(k:Nat),(∀i,i<k->f i<=g i)->ZAI f k<=ZAI g k
 |0,_=>by simp[ZAI]
 |k+1,h=>by
  have:=ZDF k (fun i hi=>h i (Nat.lt_succ_of_lt hi))
  have:=h k (by omega)
  simp only[ZAI];omega
theorem ZBP (f g:Nat->Int):∀(k:Nat),ZAI (fun i=>f i+g i) k=ZAI f k+ZAI g k
 |0=>rfl
 |k+1=>by simp only[ZAI];rw[ZBP f g k];omega
theorem ZAF (c:Int):∀(k:Nat),ZAI (fun _=>c) k=c*k
 |0=>by simp[ZAI]
 |k+1=>by simp only[ZAI];rw[ZAF c k,Int.natCast_add,Int.mul_add];simp
theorem ZBO (f:Nat->Int)(a:Nat):∀(b:Nat),ZAI f (a+b)=ZAI f a+ZAI (fun i=>f (a+i)) b
 |0=>by simp[ZAI]
 |b+1=>by
  show ZAI f (a+b)+f (a+b)=_
  rw[ZBO f a b];simp only[ZAI];omega
theorem ZG6 (f:Nat->Int)(n:Nat):∀(L:Nat),ZAI f (n*L)=ZAI (fun q=>ZAI (fun i=>f (n*q+i)) n) L
 |0=>by simp[ZAI]
 |L+1=>by rw[Nat.mul_add,Nat.mul_one,ZBO,ZG6 f n L];rfl
theorem ZE2 (f:Nat->Nat->Int)(n:Nat):∀(L:Nat),ZAI (fun q=>ZAI (fun i=>f q i) n) L=ZAI (fun i=>ZAI (fun q=>f q i) L) n
 |0=>by
  have:∀n,ZAI (fun _=>0) n=0:=fun n=>by rw[ZAF];simp
  simp only[ZAI];exact(this n).symm
 |L+1=>by
  show ZAI (fun q=>ZAI (fun i=>f q i) n) L+ZAI (fun i=>f L i) n=ZAI (fun i=>ZAI (fun q=>f q i) L+f L i) n
  rw[ZE2 f n L,ZBP]
def gP (p:Nat):Int:=if p=3 then -1 else if p<2 then 0 else 1
def gY (x:Nat):Int:=gP ((x^^^ (x/64))%24)
theorem ZNH (p:Nat): -1<=gP p:=by unfold gP;split<;>(try split)<;>omega
theorem ZLL (p:Nat):gP p<=1:=by unfold gP;split<;>(try split)<;>omega
theorem ZP8 (x:Nat):(x^^^ (x/64))/8=(64*(x/512)+x%512/8)^^^ (x/512):=by
 have:=Nat.shiftRight_xor_distrib (a:=x) (b:=x/64) (i:=3)
 simp only[Nat.shiftRight_eq_div_pow]at this
 rw[show(8:Nat)=2^3 from rfl,this,show(2:Nat)^3=8 from rfl,show x/8=64*(x/512)+x%512/8 by omega,show x/64/8=x/512 by omega]
theorem ZOj (x:Nat):1-2*(tb (x/512) (x%512/8):Int)<=gY x:=by
 unfold tb gY
 rw[←ZP8]
 generalize(x^^^ (x/64))=y
 by_cases h:y/8%3=0
 ·rw[if_pos h];have:=ZNH (y%24);omega
 ·rw[if_neg h];unfold gP;rw[if_neg (by omega),if_neg (by omega)];simp
theorem ZIx {m G u:Nat}{f:Nat->Int}:∀(k:Nat),(∀q,1-2*(tb (G+m*q) u:Int)<=f q)->(k:Int) -2*(cnt m k G u:Int)<=ZAI f k
 |0,_=>by simp[ZAI,cnt]
 |k+1,h=>by
  have h1:=ZIx k h
  have h2:=h k
  rw[ZEr];simp only[ZAI];omega
theorem ZG0 (x:Nat):(x^^^ (x/64))%8=((x%512)^^^ (x%512/64))%8:=by
 have e:∀a b:Nat,(a^^^b)%8=(a%8)^^^ (b%8):=fun a b=>Nat.xor_mod_two_pow (a:=a) (b:=b) (n:=3)
 rw[e,e (x%512),show x%512%8=x%8 by omega,show x%512/64%8=x/64%8 by omega]
def gl (a:Nat):Int:=if((a^^^ (a/64))%8)=3 then -1 else if(a^^^ (a/64))%8<2 then 0 else 1
theorem ZLK (x:Nat):gl (x%512)<=gY x:=by
 unfold gl gY gP
 rw[←ZG0]
 generalize(x^^^ (x/64))=y
 by_cases h:y%8=3
 ·rw[if_pos h];repeat' split
  all_goals omega
 rw[if_neg h]
 by_cases h2:y%8<2
 ·rw[if_pos h2];repeat' split
  all_goals omega
 ·rw[if_neg h2,if_neg (by omega),if_neg (by omega)];omega
def gl4 :Bool:=(List.range 512).all fun a=>[128,384].all fun w=>decide (1<=gl a+gl ((a+w)%512)+gl ((a+2*w)%512)+gl ((a+3*w)%512))
theorem ZLI :gl4=true:=by kernel_rfl
theorem ZNG (x w:Nat)(hw:w%256=128):1<=gY x+gY (x+w)+gY (x+2*w)+gY (x+3*w):=by
 have h:=ZLI
 simp only[gl4,List.all_eq_true,decide_eq_true_eq]at h
 have:=h (x%512) (List.mem_range.2 (by omega)) (w%512) (by
  have:w%512=128∨w%512=384:=by omega
  rcases this with e|e<;>simp[e])
 have h0:=ZLK x
 have h1:=ZLK (x+w)
 have h2:=ZLK (x+2*w)
 have h3:=ZLK (x+3*w)
 rw[show(x+w)%512=(x%512+w%512)%512 by omega]at h1
 rw[show(x+2*w)%512=(x%512+2*(w%512))%512 by omega]at h2
 rw[show(x+3*w)%512=(x%512+3*(w%512))%512 by omega]at h3
 omega
def tEx :Bool:=(List.range 256).all fun r=>r==0|| [128,64,32,16,8,4,6,5].any fun t=>t*r%256==128
theorem ZKe :tEx=true:=by kernel_rfl
theorem ZQC {s:Nat}(hs:s%256≠0):∃t,4<=t/\t<=128/\t*s%256=128:=by
 have h:=ZKe
 simp only[tEx,List.all_eq_true]at h
 have:=h (s%256) (List.mem_range.2 (by omega))
 simp only[Bool.or_eq_true,beq_iff_eq,List.any_eq_true]at this
 rcases this with h|⟨t,ht,e⟩
 ·exact absurd h hs
 ·refine⟨t,?_,?_,?_⟩
  ·simp at ht;omega
  ·simp at ht;omega
  ·rw[Nat.mul_mod]at e ⊢;rwa[Nat.mod_mod]at e
theorem ZJv {s t x:Nat}(ht:4<=t)(e:t*s%256=128):4<=ZAI (fun q=>gY (x+s*q)) (4*t):=by
 have e4:4*t=t+(t+(t+t)):=by omega
 rw[e4,ZBO,ZBO,ZBO,←ZBP,←ZBP,←ZBP]
 refine Int.le_trans ?_ (ZDF (f:=fun _=>1) t fun i hi=> ?_)
 ·rw[ZAF];omega
 ·have:=ZNG (x+s*i) (t*s) e
  have a1:x+s*(t+i)=x+s*i+t*s:=by rw[Nat.mul_add,Nat.mul_comm s t];omega
  have a2:x+s*(t+(t+i))=x+s*i+2*(t*s):=by rw[Nat.mul_add,Nat.mul_add,Nat.mul_comm s t];omega
  have a3:x+s*(t+(t+(t+i)))=x+s*i+3*(t*s):=by rw[Nat.mul_add,Nat.mul_add,Nat.mul_add,Nat.mul_comm s t];omega
  rw[a1,a2,a3];omega
theorem ZC9 {m x:Nat}(hm:m=15∨m=44∨m=73∨m=102)(hx:x<=563200):4<=ZAI (fun q=>gY (x+512*m*q)) 256:=by
 have h:=ZIx (m:=m) (G:=x/512) (u:=x%512/8) (f:=fun q=>gY (x+512*m*q)) 256 (fun q=>by
  have:=ZOj (x+512*m*q)
  rw[Nat.mul_assoc]at this ⊢
  generalize m*q=z at this ⊢
  rwa[show(x+512*z)/512=x/512+z by omega,show(x+512*z)%512=x%512 by omega]at this)
 have:=ZJ5 (Or.inl ⟨rfl,hm⟩) (G:=x/512) (u:=x%512/8) (by omega) (by omega)
 omega
theorem ZG5 (f:Nat->Int):∀(k:Nat),ZAI f (2*k)=ZAI (fun j=>f (2*j)+f (2*j+1)) k
 |0=>rfl
 |k+1=>by
  show ZAI f (2*k)+f (2*k)+f (2*k+1)=_
  rw[ZG5 f k];simp only[ZAI];omega
theorem ZOk {x:Nat}(h:4<=(x^^^ (x/64))%8):gY x=1:=by
 unfold gY gP
 generalize(x^^^ (x/64))=y at h
 rw[if_neg (by omega),if_neg (by omega)]
def ZOo :Bool:=(List.range 512).all fun a=>decide (4<=(a^^^ (a/64))%8)||decide (4<=(((a+256)%512)^^^ ((a+256)%512/64))%8)
theorem ZIT :ZOo=true:=by kernel_rfl
theorem ZDA {m x:Nat}(hm:m=1∨m=59∨m=117∨m=175)(hx:x+256*m<=563200):4<=ZAI (fun q=>gY (x+256*m*q)) 256:=by
 have hf:=ZIT
 simp only[ZOo,List.all_eq_true]at hf
 have hf:=hf (x%512) (List.mem_range.2 (by omega))
 simp only[Bool.or_eq_true,decide_eq_true_eq]at hf
 have key:∀(y:Nat),y<=563200->128-2*(cnt m 128 (y/512) (y%512/8):Int)<=ZAI (fun j=>gY (y+512*(m*j))) 128:=fun y hy=>by
  have h:=ZIx (m:=m) (G:=y/512) (u:=y%512/8) (f:=fun q=>gY (y+512*(m*q))) 128 (fun q=>by
   have:=ZOj (y+512*(m*q))
   generalize m*q=z at this ⊢
   rwa[show(y+512*z)/512=y/512+z by omega,show(y+512*z)%512=y%512 by omega]at this)
  exact h
 have c126:∀(y:Nat),y<=563200->cnt m 128 (y/512) (y%512/8)<=126:=fun y hy=>ZJ5 (Or.inr ⟨rfl,hm⟩) (by omega) (by omega)
 rw[show(256:Nat)=2*128 from rfl,ZG5,ZBP]
 have e0:∀j,x+2*128*m*(2*j)=x+512*(m*j):=fun j=>by rw[show 2*128*m*(2*j)=512*(m*j) by rw[Nat.mul_assoc,Nat.mul_left_comm m 2 j,←Nat.mul_assoc]]
 have e1:∀j,x+2*128*m*(2*j+1)=(x+256*m)+512*(m*j):=fun j=>by
  have:=e0 j;rw[Nat.mul_add,Nat.mul_one];omega
 simp only[e0,e1]
 have one:∀(y:Nat),4<=((y%512)^^^ (y%512/64))%8->ZAI (fun j=>gY (y+512*(m*j))) 128=128:=fun y hy=>by
  rw[ZBN (g:=fun _=>1) 128 fun j _=>ZOk (by rw[ZG0,show(y+512*(m*j))%512=y%512 by omega];exact hy),ZAF];rfl
 rcases hf with hf|hf
 ·rw[one x hf]
  have:=key (x+256*m) hx
  have:=c126 (x+256*m) hx
  omega
 ·have e5:(x+256*m)%512=(x%512+256)%512:=by omega
  rw[one (x+256*m) (by rw[e5];exact hf)]
  have:=key x (by omega)
  have:=c126 x (by omega)
  omega
theorem ZQH {n x q0:Nat}(h0:0<n)(hn:n<=2000)(hx:x<=376300)(hq:q0<=4000/n+1):∃L,L<=512/\∀x,x<=376300->4<=ZAI (fun q=>gY (x+(29*n+53)*(q0+q))) L:=by
 have e:∀x q,x+(29*n+53)*(q0+q)=(x+(29*n+53)*q0)+(29*n+53)*q:=fun x q=>by rw[Nat.mul_add];omega
 by_cases hs:(29*n+53)%256=0
 ·have hn8:n=7∨n=263∨n=519∨n=775∨n=1031∨n=1287∨n=1543∨n=1799:=by omega
  refine⟨256,by omega,fun x hx=> ?_⟩
  simp only[e]
  rcases hn8 with rfl|rfl|rfl|rfl|rfl|rfl|rfl|rfl
  ·exact ZDA (m:=1) (by omega) (by omega)
  ·exact ZC9 (m:=15) (by omega) (by omega)
  ·exact ZDA (m:=59) (by omega) (by omega)
  ·exact ZC9 (m:=44) (by omega) (by omega)
  ·exact ZDA (m:=117) (by omega) (by omega)
  ·exact ZC9 (m:=73) (by omega) (by omega)
  ·exact ZDA (m:=175) (by omega) (by omega)
  ·exact ZC9 (m:=102) (by omega) (by omega)
 ·obtain⟨t,ht,ht',e2⟩:=ZQC hs
  refine⟨4*t,by omega,fun x hx=> ?_⟩
  simp only[e]
  exact ZJv ht e2
def bnat (b:List Int)(i:Nat):Nat:=(b.getD i 0).toNat
def ZPE (b:List Int)(k:Nat):Nat:=bnat b (k%b.length)*131+bnat b ((k*7+3)%b.length)*1117+k*29+k/b.length*53
def pNat (b:List Int)(k:Nat):Nat:=if b.length=0 then 0 else if k<b.length then bnat b k%24 else((ZPE b k)^^^ (ZPE b k/64))%24
theorem ZKS {m n:Nat}(hm:m<4611686018427387904)(hn:n<4611686018427387904):ZML .i64 (m:Int) (n:Int)=((m^^^n:Nat):Int):=by
 have h2:m^^^n<2^62:=Nat.xor_lt_two_pow (by omega) (by omega)
 unfold ZML
 have e:(BitVec.ofInt IntKind.i64.bits (m:Int)^^^BitVec.ofInt IntKind.i64.bits (n:Int)).toNat=m^^^n:=by
  rw[BitVec.toNat_xor]
  have e1:(BitVec.ofInt IntKind.i64.bits (m:Int)).toNat=m:=by
   show(BitVec.ofInt 64 (m:Int)).toNat=m
   rw[BitVec.toNat_ofInt];omega
  have e2:(BitVec.ofInt IntKind.i64.bits (n:Int)).toNat=n:=by
   show(BitVec.ofInt 64 (n:Int)).toNat=n
   rw[BitVec.toNat_ofInt];omega
  rw[e1,e2]
 rw[e,ZE (by omega) (by omega)]
theorem atN {b:List Int}(hb:∀x,x∈b->0<=x/\x<=255){i:Nat}(hi:i<b.length):at? b (i:Int)=some (bnat b i:Int)/\bnat b i<=255:=by
 have hm:=hb _ (gM hi)
 have e:(bnat b i:Int)=b[i]:=by
  unfold bnat
  rw[List.getD_eq_getElem?_getD,gQ hi]
  exact Int.toNat_of_nonneg hm.1
 refine⟨?_,by omega⟩
 unfold at?
 rw[if_pos (by omega),Int.toNat_natCast,gQ hi,e]
theorem P.YAW {b:List Int}(hb:∀x,x∈b->0<=x/\x<=255)(hl:b.length<=2000)(k:Nat)(hk:k<=1099511627776):
  F.f1 ⟨b,(k:Int)⟩ 24=some ((pNat b k:Int),⟨b,((k+1:Nat):Int)⟩):=by
 unfold F.f1 pNat
 have e1:i64.wrap ((k:Int)+1)=((k+1:Nat):Int):=by rw[ZE (by omega) (by omega)];omega
 have e2:i64.wrap (((k+1:Nat):Int) -1)=(k:Int):=by rw[ZE (by omega) (by omega)];omega
 simp only[e1,e2]
 rw[if_neg (by omega)]
 by_cases h0:b.length=0
 ·rw[if_pos h0,if_pos h0];rfl
 rw[if_neg h0,if_neg h0]
 by_cases hkl:k<b.length
 ·obtain⟨q1,q2⟩:=atN hb hkl
  rw[if_pos (by omega),if_pos hkl,q1]
  simp only[oE,oS]
  rw[if_pos (by omega),ZE (by omega) (by omega)]
  congr 2
 ·have t1:((k:Int)).tmod (b.length:Int)=((k%b.length:Nat):Int):=(Int.ofNat_tmod k b.length).symm
  have t2:((k:Int)*7+3).tmod (b.length:Int)=(((k*7+3)%b.length:Nat):Int):=by
   have:=(Int.ofNat_tmod (k*7+3) b.length).symm
   rw[←this];congr 1
  have t3:((k:Int)).tdiv (b.length:Int)=((k/b.length:Nat):Int):=(Int.ofNat_tdiv k b.length).symm
  have e7:i64.wrap ((k:Int)*7)=(k:Int)*7:=ZE (by omega) (by omega)
  have e73:i64.wrap ((k:Int)*7+3)=(k:Int)*7+3:=ZE (by omega) (by omega)
  rw[if_neg (by omega),if_pos (by omega),if_neg hkl,e7,e73,t1,t2,t3]
  obtain⟨q1,q2⟩:=atN hb (i:=k%b.length) (Nat.mod_lt _ (by omega))
  obtain⟨q3,q4⟩:=atN hb (i:=(k*7+3)%b.length) (Nat.mod_lt _ (by omega))
  rw[q1,q3]
  simp only[oE,oS]
  rw[if_pos (by omega)]
  unfold ZPE
  have hd:k/b.length<=k:=Nat.div_le_self _ _
  generalize bnat b (k%b.length)=x at*
  generalize bnat b ((k*7+3)%b.length)=y at*
  generalize k/b.length=q at*
  rw[ZE (n:=(x:Int)) (by omega) (by omega),ZE (n:=(y:Int)) (by omega) (by omega),ZE (n:=(q:Int)) (by omega) (by omega),ZE (n:=(x:Int)*131) (by omega) (by omega),ZE (n:=(y:Int)*1117) (by omega) (by omega),
   ZE (n:=(k:Int)*29) (by omega) (by omega),ZE (n:=(q:Int)*53) (by omega) (by omega),ZE (n:=(x:Int)*131+(y:Int)*1117) (by omega) (by omega),ZE (n:=(x:Int)*131+(y:Int)*1117+(k:Int)*29) (by omega) (by omega),
   ZE (n:=(x:Int)*131+(y:Int)*1117+(k:Int)*29+(q:Int)*53) (by omega) (by omega)]
  obtain⟨z,hz⟩:∃z:Nat,z=x*131+y*1117+k*29+q*53:=⟨_,rfl⟩
  have hzi:(x:Int)*131+(y:Int)*1117+(k:Int)*29+(q:Int)*53=(z:Int):=by omega
  rw[hzi,←hz]
  have e5:((z:Int)).tdiv 64=((z/64:Nat):Int):=(Int.ofNat_tdiv z 64).symm
  rw[e5,ZE (n:=((z/64:Nat):Int)) (by omega) (by omega),ZKS (by omega) (by omega)]
  congr 2
def ZBh (b:List Int)(p d:Nat):Int:=ZAI (fun j=>gP (pNat b (p+j))) d
theorem ZA5 (b:List Int)(p d e:Nat):ZBh b p (d+e)=ZBh b p d+ZBh b (p+d) e:=by
 unfold ZBh
 rw[ZBO];congr 1
 exact ZBN _ fun i _=>by rw[Nat.add_assoc]
theorem ZAV (b:List Int)(p:Nat):ZBh b p 1=gP (pNat b p):=by simp[ZBh,ZAI]
theorem ZBM (b:List Int)(p d:Nat):ZBh b p (d+1)=gP (pNat b p)+ZBh b (p+1) d:=by rw[Nat.add_comm d 1,ZA5,ZAV]
theorem ZKW (b:List Int)(p d:Nat):ZBh b p d<=d:=by
 have:=ZDF (f:=fun j=>gP (pNat b (p+j))) (g:=fun _=>1) d fun i _=>ZLL _
 rw[ZAF]at this
 show ZAI _ _<=_;omega
theorem ZKX (b:List Int)(p d:Nat): -(d:Int)<=ZBh b p d:=by
 have:=ZDF (f:=fun _=> -1) (g:=fun j=>gP (pNat b (p+j))) d fun i _=>ZNH _
 rw[ZAF]at this
 show _<=ZAI _ _;omega
theorem ZKs {b:List Int}(h0:0<b.length){q i:Nat}(hq:1<=q)(hi:i<b.length):
  gP (pNat b (b.length*q+i))=gY (bnat b i*131+bnat b ((i*7+3)%b.length)*1117+i*29+(29*b.length+53)*q):=by
 have h1:b.length*1<=b.length*q:=Nat.mul_le_mul_left _ hq
 have e1:(b.length*q+i)%b.length=i:=by rw[Nat.mul_add_mod,Nat.mod_eq_of_lt hi]
 have e2:(b.length*q+i)/b.length=q:=by rw[Nat.mul_add_div h0,Nat.div_eq_of_lt hi,Nat.add_zero]
 have e3:((b.length*q+i)*7+3)%b.length=(i*7+3)%b.length:=by
  rw[show(b.length*q+i)*7+3=b.length*(7*q)+(i*7+3) by rw[Nat.add_mul,Nat.mul_assoc,Nat.mul_comm q 7];omega,Nat.mul_add_mod]
 unfold pNat
 rw[if_neg (by omega),if_neg (by omega)]
 unfold gY ZPE
 rw[e1,e2,e3]
 have e4:(b.length*q+i)*29=i*29+29*b.length*q:=by rw[Nat.add_mul,Nat.mul_comm _ 29,Nat.mul_assoc];omega
 have e5:(29*b.length+53)*q=29*b.length*q+53*q:=Nat.add_mul _ _ _
 rw[show bnat b i*131+bnat b ((i*7+3)%b.length)*1117+(b.length*q+i)*29+q*53=bnat b i*131+bnat b ((i*7+3)%b.length)*1117+i*29+(29*b.length+53)*q by omega]
theorem ZKY {b:List Int}(hb:∀x,x∈b->0<=x/\x<=255)(hl:b.length<=2000)(h0:0<b.length){p:Nat}(hp:p<=4000):∃d,d<=1026000/\3<=ZBh b p d:=by
 obtain⟨q0,hq0⟩:∃q0,q0=p/b.length+1:=⟨_,rfl⟩
 have hpd:=Nat.div_add_mod p b.length
 have hpm:=Nat.mod_lt p h0
 have hd4:p/b.length<=4000/b.length:=Nat.div_le_div_right hp
 have hmul:b.length*q0=b.length*(p/b.length)+b.length:=by rw[hq0,Nat.mul_add,Nat.mul_one]
 obtain⟨L,hL,hg⟩:=ZQH (n:=b.length) (x:=0) (q0:=q0) h0 hl (by omega) (by omega)
 have h1:4*(b.length:Int)<=ZBh b (b.length*q0) (b.length*L):=by
  unfold ZBh
  rw[ZG6,ZE2]
  refine Int.le_trans ?_ (ZDF (f:=fun _=>4) b.length fun i hi=> ?_)
  ·rw[ZAF];omega
  ·have hx:bnat b i<=255:=(atN hb hi).2
   have hy:bnat b ((i*7+3)%b.length)<=255:=(atN hb (Nat.mod_lt _ h0)).2
   have:=hg (bnat b i*131+bnat b ((i*7+3)%b.length)*1117+i*29) (by omega)
   refine Int.le_trans this (Int.le_of_eq (ZBN L fun q _=> ?_))
   show _=gP (pNat b (b.length*q0+(b.length*q+i)))
   rw[←Nat.add_assoc,←Nat.mul_add];exact(ZKs h0 (by have:=Nat.zero_le (p/b.length);rw[hq0];exact Nat.le_add_right_of_le (Nat.le_add_left 1 _)) hi).symm
 have hLn:b.length*L<=2000*512:=Nat.mul_le_mul hl hL
 refine⟨b.length*q0-p+b.length*L,by omega,?_⟩
 rw[ZA5,show p+(b.length*q0-p)=b.length*q0 by omega]
 have:=ZKX b p (b.length*q0-p)
 omega
theorem P.YAL {b:List Int}(hb:∀x,x∈b->0<=x/\x<=255)(hl:b.length<=2000)(k:Nat)(hk:k<=1099511627775)(l:List Int)(h:l≠[]):∃v,F.f54 ⟨b,(k:Int)⟩ l=some (v,⟨b,((k+1:Nat):Int)⟩):=by
 obtain⟨v,r',e,_⟩:=P.num (K:=k) (r:=⟨b,(k:Int)⟩) ⟨hl,hb,by simp,by simp⟩ (by omega) l h
 have:r'=⟨b,((k+1:Nat):Int)⟩:=by
  have e1:i64.wrap ((k:Int)+1)=((k+1:Nat):Int):=by rw[ZE (by omega) (by omega)];omega
  unfold F.f54 F.f1 at e
  simp only[e1]at e
  revert e
  repeat' split
  all_goals simp[Option.bind_eq_some_iff]
  all_goals first
   |(intro x h1 h2;exact h2.symm)
   |(intros;subst_vars;rfl)
 exact⟨v,by rw[e,this]⟩
def ZCj (code:List Int):Prop:=code.length<=maxLen/\∀x,x∈code->0<=x/\x<=255
theorem ZHF {code:List Int}(h:ZCj code)(hl:code.length<=2000):rok 0 ⟨code,0⟩:=⟨hl,h.2,Int.le_refl 0,Int.le_refl 0⟩
theorem ZI6 {code:List Int}(h:ZCj code):rok 0 ⟨(code.drop 0).take (2000-0),0⟩:=⟨by simp;omega,fun x hx=>h.2 x (List.mem_of_mem_drop (List.mem_of_mem_take hx)),Int.le_refl 0,Int.le_refl 0⟩
theorem ZCu {w:List Data}(h:w∈ZAO):ZAE w:=by
 simp only[ZAO,List.mem_cons,List.not_mem_nil,or_false]at h
 rcases h with rfl|rfl|rfl|rfl|rfl|rfl|rfl<;>exact ZI0 (by decide)
def tIx (w:List Data)(t:Ty):Prop:=t.data= -1∨(0<=t.data/\t.data<w.length/\0<=t.index/\t.index<=3)
theorem tIx.tOk {w:List Data}{t:Ty}(h:tIx w t):tOk w t:=h.imp id fun h=>⟨h.1,h.2.1⟩
def ZBr (T:List Int)(t:Ty):Int:=if t.data= -1 then 1 else T.getD (t.data*4+t.index).toNat 0
def ZBk (T:List Int):Int->List Ty->Int
 |m,[]=>m+1
 |m,a::r=>if ZBr T a=0 then 0 else ZBk T (if m<ZBr T a then ZBr T a else m) r
def ZCZ (w:List Data)(T:List Int)(t:Ty)(c:Int):Int:=ZBk T 0 (ZK w t c)
def ZPm (i:Int)(c:Ctor):Bool:=decide (i=0)||decide (c.index=0)||decide (c.index=i)
def ZNu (w:List Data)(T:List Int):Bool:=decide (T.length=w.length*4)&& T.all (fun x=>decide (0<=x)&& decide (x<=2))&&
 (List.range w.length).all fun d=>(List.range 4).all fun i=>decide (T.getD (d*4+i) 0=0)||
  (List.range (w.getD d Data.z).ctors.length).any fun k=>ZPm i ((w.getD d Data.z).ctors.getD k Ctor.z)&& decide (ZCZ w T ⟨d,i⟩ k=T.getD (d*4+i) 0)
theorem ZLQ {i:Int}{c:Ctor}(h:ZPm i c=true):ZLP i c:=by
 simp only[ZPm,Bool.or_eq_true,decide_eq_true_eq]at h
 rcases h with(h|h)|h
 ·exact .inl h
 ·exact .inr (.inl h)
 ·exact .inr (.inr h)
theorem ZI1 {i:Int}:∀{k:Nat} {l:List Ctor} {j:Nat} (hj:j<l.length),ZLP i l[j]->((k+j:Nat):Int)∈ZEy i k l
 |k,c::r,0,hj,h=>by simp only[ZEy];rw[if_pos (ZI (show ZLP i c from h))];exact List.mem_append_left _ (by simp)
 |k,c::r,j+1,hj,h=>by
  simp only[ZEy]
  refine List.mem_append_right _ ?_
  have:=ZI1 (k:=k+1) (l:=r) (j:=j) (by simpa using hj) h
  have e:k+1+j=k+(j+1):=by omega
  rwa[e]at this
structure TOk (w:List Data)(T:List Int):Prop where
 wok:ZO w
 len:T.length=w.length*4
 rng:∀k,0<=T.getD k 0/\T.getD k 0<=2
 has:∀t,tIx w t->t.data≠-1->ZBr T t≠0->∃c,c∈ZN w t/\ZCZ w T t c=ZBr T t
theorem TOk.of {w:List Data}{T:List Int}(hw:ZO w)(h:ZNu w T=true):TOk w T:=by
 simp only[ZNu,Bool.and_eq_true,decide_eq_true_eq]at h
 obtain⟨⟨h1,h2⟩,h3⟩:=h
 refine⟨hw,h1,fun k=> ?_,fun t ht hn hd=> ?_⟩
 ·by_cases hk:k<T.length
  ·rw[List.getD_eq_getElem?_getD,gQ hk]
   have:=List.all_eq_true.1 h2 _ (gM hk)
   simpa using this
  ·rw[List.getD_eq_getElem?_getD,List.getElem?_eq_none (by omega)];simp
 ·obtain⟨q1,q2,q3,q4⟩:=ht.resolve_left hn
  have a1:=List.all_eq_true.1 h3 t.data.toNat (by simp;omega)
  have a2:=List.all_eq_true.1 a1 t.index.toNat (by simp;omega)
  simp only[Bool.or_eq_true,decide_eq_true_eq]at a2
  have e:(t.data*4+t.index).toNat=t.data.toNat*4+t.index.toNat:=by omega
  have ed:ZBr T t=T.getD (t.data.toNat*4+t.index.toNat) 0:=by unfold ZBr;rw[if_neg hn,e]
  have a3:=a2.resolve_left (by rw[←ed];exact hd)
  obtain⟨k,hk,hkk⟩:=List.any_eq_true.1 a3
  simp only[Bool.and_eq_true,decide_eq_true_eq]at hkk
  have et:(⟨(t.data.toNat:Int),(t.index.toNat:Int)⟩:Ty)=t:=by
   obtain⟨d,i⟩:=t
   simp only at q1 q3 ⊢
   rw[Int.toNat_of_nonneg q1,Int.toNat_of_nonneg q3]
  rw[et]at hkk
  have hk':k<(ZW w t).ctors.length:=by simpa[ZW]using hk
  refine⟨(k:Int),?_,by rw[hkk.2,ed]⟩
  unfold ZN
  rw[if_neg hn]
  have hf:=ZLQ hkk.1
  rw[Int.toNat_of_nonneg q3]at hf
  have hg:(w.getD t.data.toNat Data.z).ctors.getD k Ctor.z=(ZW w t).ctors[k]:=by
   unfold ZW at hk' ⊢
   rw[List.getD_eq_getElem?_getD,gQ hk'];rfl
  rw[hg]at hf
  have:=ZI1 (k:=0) hk' hf
  rwa[Nat.zero_add]at this
theorem TOk.dep {w:List Data}{T:List Int}(h:TOk w T)(t:Ty):0<=ZBr T t/\ZBr T t<=2:=by
 unfold ZBr;split
 ·omega
 ·exact h.rng _
theorem P.YN {w:List Data}{T:List Int}(h:TOk w T){t:Ty}(ht:tIx w t):F.f47 T t=some (ZBr T t):=by
 unfold F.f47 F.f46 ZBr
 by_cases hn:t.data= -1
 ·rw[if_pos hn,if_pos hn]
 ·obtain⟨q1,q2,q3,q4⟩:=ht.resolve_left hn
  have hw:=h.wok.1
  rw[if_neg hn,if_neg hn,ZE (n:=t.data*4) (by omega) (by omega),ZE (by omega) (by omega)]
  simp only[oE,oS]
  have hl:(t.data*4+t.index).toNat<T.length:=by rw[h.len];omega
  unfold at?
  rw[if_pos (by omega),gQ hl,List.getD_eq_getElem?_getD,gQ hl]
  rfl
theorem ZKI {w:List Data}(hw:ZO w){t:Ty}(ht:tIx w t){c:Int}(h:c∈ZN w t):∀a,a∈ZK w t c->tIx w a:=by
 have hc:=(Zi hw ht.tOk (ZT h).1).2 _ (ZBG h).2
 have hn:=(ZT h).1
 intro a ha
 obtain⟨b,hb,rfl⟩:=List.mem_map.1 ha
 obtain⟨j,hj,rfl⟩:=List.getElem_of_mem hb
 have:=hc.2.2.2.2 j (by omega) hj
 obtain⟨q1,q2,q3,q4⟩:=ht.resolve_left hn
 unfold ZCn
 rcases this with⟨p1,p2⟩|⟨p1,p2,p3,p4⟩
 ·rw[if_neg (by omega)];exact .inl p1
 ·split
  ·next e=>
   refine .inr ⟨p1,p2,?_,?_⟩
   ·show 0<=(if(Za w t c).index=0 then t.index else(Za w t c).index)
    split
    ·exact q3
    ·exact hc.2.2.1
   ·show(if(Za w t c).index=0 then t.index else(Za w t c).index)<=3
    split
    ·exact q4
    ·exact hc.2.2.2.1
  ·next e=>exact .inr ⟨p1,p2,by omega,p4⟩
theorem ZEj {w:List Data}{T:List Int}(h:TOk w T):∀(l:List Ty) (m:Int),0<=m->m<=2->0<=ZBk T m l/\ZBk T m l<=3/\(ZBk T m l≠0->m+1<=ZBk T m l/\∀a,a∈l->ZBr T a≠0/\ZBr T a+1<=ZBk T m l)
 | [],m,h0,h2=>⟨by simp only[ZBk];omega,by simp only[ZBk];omega,fun _=>⟨by simp only[ZBk];omega,fun a ha=>by cases ha⟩⟩
 |a::r,m,h0,h2=>by
  have hd:=h.dep a
  simp only[ZBk]
  by_cases ha:ZBr T a=0
  ·rw[if_pos ha];exact⟨by omega,by omega,fun h=>absurd rfl h⟩
  ·rw[if_neg ha]
   have hm:∃m',(if m<ZBr T a then ZBr T a else m)=m'/\0<=m'/\m'<=2/\m<=m'/\ZBr T a<=m':=by
    split
    ·exact⟨_,rfl,by omega,by omega,by omega,by omega⟩
    ·exact⟨_,rfl,by omega,by omega,by omega,by omega⟩
   obtain⟨m',e,k0,k2,k3,k4⟩:=hm
   rw[e]
   obtain⟨i1,i2,i3⟩:=ZEj h r m' k0 k2
   refine⟨i1,i2,fun hne=> ?_⟩
   obtain⟨j1,j2⟩:=i3 hne
   refine⟨by omega,fun b hb=> ?_⟩
   rcases List.mem_cons.1 hb with rfl|hb
   ·exact⟨ha,by omega⟩
   ·exact j2 b hb
def mR (n:Int):Lo Int Int:=if n=0 then .ret 0 else .go (n-1)
theorem P.Yg {w:List Data}{T:List Int}(h:TOk w T)(l:List Ty)(hl:∀a,a∈l->tIx w a):∀(n k:Nat) (m:Int),l.length-k=n->0<=m->m<=2->
  F.f48 T l m k=some (mR (ZBk T m (l.drop k))):=by
 intro n
 induction n with
 |zero=>
  intro k m hn h0 h2
  rw[F.f48,if_neg (by omega),List.drop_eq_nil_of_le (by omega)]
  show some (Lo.go m)=some (mR (m+1))
  unfold mR
  rw[if_neg (by omega)];congr 2;omega
 |succ n ih=>
  intro k m hn h0 h2
  have hk:k<l.length:=by omega
  have hd:=h.dep l[k]
  rw[F.f48,if_pos hk,gQ hk]
  simp only[oE,oS]
  rw[P.YN h (hl _ (gM hk)),List.drop_eq_getElem_cons hk]
  simp only[oS,ZBk]
  by_cases ha:ZBr T l[k]=0
  ·rw[if_pos ha,if_pos ha];rfl
  ·rw[if_neg ha,if_neg ha]
   by_cases hm:m<ZBr T l[k]
   ·rw[if_pos hm,if_pos hm,ih _ _ (by omega) (by omega) (by omega)]
   ·rw[if_neg hm,if_neg hm,ih _ _ (by omega) (by omega) (by omega)]
theorem P.YAD {w:List Data}{T:List Int}(h:TOk w T){t:Ty}(ht:tIx w t){c:Int}(hc:c∈ZN w t):F.f49 w T t c=some (ZCZ w T t c):=by
 unfold F.f49
 rw[P.YH w h.wok t ht.tOk c hc]
 simp only[oE,oS]
 rw[P.Yg h _ (ZKI h.wok ht hc) _ 0 0 rfl (by omega) (by omega),List.drop_zero]
 simp only[oS]
 have:=ZEj h (ZK w t c) 0 (by omega) (by omega)
 unfold ZCZ
 unfold mR
 by_cases h0:ZBk T 0 (ZK w t c)=0
 ·rw[if_pos h0,h0]
 ·rw[if_neg h0]
  show some (i64.wrap (ZBk T 0 (ZK w t c) -1+1))=_
  rw[ZE (by omega) (by omega)];congr 1;omega
def ZCg (w:List Data)(T:List Int)(t:Ty)(depth:Int)(c:Int):Bool:=decide (0<ZCZ w T t c)&& (decide (ZCZ w T t c<=depth)||decide (ZCZ w T t c=ZBr T t))
theorem P.Yf {w:List Data}{T:List Int}(h:TOk w T){t:Ty}(ht:tIx w t)(r:ZB)(depth:Int)(l:List Int)(hl:∀c,c∈l->c∈ZN w t)(h8:l.length<=4):∀(n k:Nat) (out:List Int),l.length-k=n->out.length<=k->
  F.f55 r w T t depth l out k=some (out++(l.drop k).filter (ZCg w T t depth)):=by
 intro n
 induction n with
 |zero=>intro k out hn ho;rw[F.f55,if_neg (by omega),List.drop_eq_nil_of_le (by omega)];simp
 |succ n ih=>
  intro k out hn ho
  have hk:k<l.length:=by omega
  rw[F.f55,if_pos hk,gQ hk]
  simp only[oE,oS]
  rw[P.YAD h ht (hl _ (gM hk)),List.drop_eq_getElem_cons hk,P.YN h ht]
  simp only[oS]
  have yes:ZCg w T t depth l[k]=true->F.f55 r w T t depth l (out++[l[k]]) (k+1)=some (out++(l[k]::l.drop (k+1)).filter (ZCg w T t depth)):=fun hf=>by
   rw[ih (k+1) _ (by omega) (by simp;omega),List.filter_cons_of_pos hf];simp
  have no:ZCg w T t depth l[k]=false->F.f55 r w T t depth l out (k+1)=some (out++(l[k]::l.drop (k+1)).filter (ZCg w T t depth)):=fun hf=>by
   rw[ih (k+1) _ (by omega) (by omega),List.filter_cons_of_neg (by simp[hf])]
  by_cases h1:0<ZCZ w T t l[k]
  ·rw[if_pos h1]
   by_cases h2:ZCZ w T t l[k]<=depth
   ·rw[if_pos h2,if_pos (by omega)];exact yes (by simp[ZCg,h1,h2])
   ·rw[if_neg h2]
    by_cases h3:ZCZ w T t l[k]=ZBr T t
    ·rw[if_pos h3,if_pos (by omega)];exact yes (by simp only[ZCg,h1,h3];simp[←h3,h1])
    ·rw[if_neg h3];exact no (by simp[ZCg,h2,h3])
  ·rw[if_neg h1];exact no (by simp[ZCg,h1])
theorem ZI2 {w:List Data}(hw:ZO w){t:Ty}(ht:tOk w t):(ZN w t).length<=4:=by
 unfold ZN
 split
 ·simp
 ·next hn=>exact Nat.le_trans (ZHC _ _ _) (Zi hw ht hn).1
theorem ZNq (c n:Int)(ks:List Value):(⟨c,n,ks⟩:Value).wt=((ks.map fun k=>1+k.wt).sum):=by
 have:=ZIt ⟨c,n,ks⟩
 simpa using this
theorem P.YAQ {w:List Data}{T:List Int}(h:TOk w T):∀(n:Nat) (t:Ty) (depth:Int) (K:Nat) (r:ZB),tIx w t->ZBr T t≠0->ZBr T t<=n->depth<=n->-1000000+n<=depth->n<=12->rok K r->K+4^n<=1099511627776->
  ∃v r',F.f56 r w T t depth=some (v,r')/\rok (K+4^n) r'/\pv w false n t v/\v.wt+1<=4^n/\(t.data≠-1->∀a,a∈ZK w t v.ctor->ZBr T a≠0)
 |0,t,depth,K,r,ht,hd,hdn,_,_,_,_,_=>by have:=h.dep t;omega
 |n+1,t,depth,K,r,ht,hd,hdn,hde,hlo,h12,hr,hK=>by
  have p4:1<=4^n:=Nat.one_le_pow _ _ (by omega)
  have p4':4^ (n+1)=4*4^n:=by rw[Nat.pow_succ];omega
  rw[F.f56]
  by_cases hn:t.data= -1
  ·rw[if_pos hn]
   obtain⟨v,r',e,h1,h2,h3,_⟩:=P.YJ hr (by omega) 10
   have h3:=h3 (by omega)
   rw[e]
   refine⟨_,_,rfl,h1.mono (by omega),?_,?_,fun h=>absurd hn h⟩
   ·exact .inr ⟨by simp,.inl ⟨hn,rfl,h2,by show v<=9;omega,rfl⟩⟩
   ·rw[ZNq];simp;omega
  ·rw[if_neg hn,P.YO w h.wok t ht.tOk]
   simp only[oE,oS]
   rw[P.Yf h ht r depth _ (fun c hc=>hc) (ZI2 h.wok ht.tOk) _ 0 [] rfl (by simp),List.drop_zero,List.nil_append]
   simp only[oS]
   obtain⟨c0,hc0,hm0⟩:=h.has t ht hn hd
   have hdt:=h.dep t
   have hf0:c0∈(ZN w t).filter (ZCg w T t depth):=List.mem_filter.2 ⟨hc0,by simp only[ZCg,hm0];simp;omega⟩
   have hpos:=List.length_pos_of_mem hf0
   obtain⟨v,r1,e,h1,h2,h3,_⟩:=P.YJ hr (by omega) (((ZN w t).filter (ZCg w T t depth)).length:Int)
   obtain⟨c,hcx,hcm⟩:=ZEN h2 (h3 (by omega))
   rw[e];simp only[oS]
   rw[hcx];simp only[oS]
   obtain⟨hcl,hcf⟩:=List.mem_filter.1 hcm
   simp only[ZCg,Bool.and_eq_true,Bool.or_eq_true,decide_eq_true_eq]at hcf
   rw[P.YH w h.wok t ht.tOk c hcl]
   simp only[oS]
   obtain⟨g1,g2,g3⟩:=ZEj h (ZK w t c) 0 (by omega) (by omega)
   have g3:=g3 (by unfold ZCZ at hcf;omega)
   have hal:=(ZKH h.wok ht.tOk hcl).1
   have hax:=ZKI h.wok ht hcl
   have hmn:ZCZ w T t c<=(n:Int)+1:=by rcases hcf.2 with q|q<;>omega
   have kid:∀a,a∈ZK w t c->∀K r,rok K r->K+4^n<=1099511627776->∃v r',F.f56 r w T a (i64.wrap (depth-1))=some (v,r')/\rok (K+4^n) r'/\pv w false n a v/\v.wt+1<=4^n:=by
    intro a ha K r hr hK
    rw[ZE (by omega) (by omega)]
    obtain⟨q1,q2⟩:=g3.2 a ha
    obtain⟨v,r',e,k1,k2,k3,_⟩:=P.YAQ h n a (depth-1) K r (hax a ha) q1 (by unfold ZCZ at hmn;omega) (by omega) (by omega) (by omega) hr hK
    exact⟨v,r',e,k1,k2,k3⟩
   have loop:∀(m k:Nat) (z:List Int) (z33:Int) (out:List Value) (K:Nat),(ZK w t c).length-k=m->out.length=k->rok K ⟨z,z33⟩->K+m*4^n<=1099511627776->
     (∀i (hi:i<out.length) (hi':i<(ZK w t c).length),pv w false n (ZK w t c)[i] out[i])->((out.map fun k=>1+k.wt).sum)<=k*4^n->k<=(ZK w t c).length->
     ∃z' z33' out',F.f57 w T depth c (ZK w t c) z z33 out k=some (z',z33',out')/\rok (K+m*4^n) ⟨z',z33'⟩/\out'.length=(ZK w t c).length/\
      (∀i (hi:i<out'.length) (hi':i<(ZK w t c).length),pv w false n (ZK w t c)[i] out'[i])/\((out'.map fun k=>1+k.wt).sum)<=(ZK w t c).length*4^n:=by
    intro m
    induction m with
    |zero=>
     intro k z z33 out K hm ho hr hK hp hs hk
     rw[F.f57,if_neg (by omega)]
     have:k=(ZK w t c).length:=by omega
     subst this
     exact⟨z,z33,out,rfl,by simpa using hr,ho,hp,hs⟩
    |succ m ih=>
     intro k z z33 out K hm ho hr hK hp hs hkl
     have hk:k<(ZK w t c).length:=by omega
     rw[F.f57,if_pos hk,gQ hk]
     simp only[oE,oS]
     have e1:(m+1)*4^n=m*4^n+4^n:=by rw[Nat.succ_mul]
     obtain⟨v,r',e,k1,k2,k3⟩:=kid _ (gM hk) K ⟨z,z33⟩ hr (by omega)
     rw[e];simp only[oS]
     rw[if_pos (by omega)]
     have e2:(k+1)*4^n=k*4^n+4^n:=by rw[Nat.succ_mul]
     have key:=fun p1 p2=>ih (k+1) r'.f0 r'.f1 (out++[v]) (K+4^n) (by omega) (by simp[ho]) k1 (by omega) p1 p2 hk
     obtain⟨z',z33',out',q1,q2,q3⟩:=key (by
      intro i hi hi'
      by_cases hik:i<out.length
      ·rw[List.getElem_append_left hik];exact hp i hik hi'
      ·have:i=k:=by simp at hi;omega
       subst this
       rw[List.getElem_append_right (by omega)]
       simpa using k2) (by
      simp only[List.map_append,List.sum_append,List.map_cons,List.map_nil,List.sum_cons,List.sum_nil];omega)
     exact⟨z',z33',out',q1,q2.mono (by omega),q3⟩
   have m3:(ZK w t c).length*4^n<=3*4^n:=Nat.mul_le_mul_right _ hal
   obtain⟨z',z33',out',q1,q2,q3,q4,q5⟩:=loop _ 0 r1.f0 r1.f1 [] (K+1) rfl rfl h1 (by simp only[Nat.sub_zero];omega) (fun i hi=>by simp at hi) (by simp) (by omega)
   rw[q1];simp only[oS]
   refine⟨_,_,rfl,q2.mono (by simp only[Nat.sub_zero];omega),?_,?_,fun _ a ha=>(g3.2 a ha).1⟩
   ·refine .inr ⟨by simp,.inr ⟨hn,rfl,hcl,q3,fun i _ _ hi hi'=>q4 i hi' hi⟩⟩
   ·rw[ZNq];omega
theorem P.YAa {w:List Data}{T:List Int}(h:TOk w T)(n:Nat)(t:Ty)(depth:Int)(K:Nat)(r:ZB)(a1:tIx w t)(a2:ZBr T t≠0)(a3:ZBr T t<=n)(a4:depth<=n)(a5: -1000000+n<=depth)(a6:n<=12)(a7:rok K r)(a8:K+4^n<=1099511627776):
  ∃v r',F.f56 r w T t depth=some (v,r')/\rok (K+4^n) r'/\pv w false n t v/\v.wt+1<=4^n:=by
 obtain⟨v,r',e,k1,k2,k3,_⟩:=P.YAQ h n t depth K r a1 a2 a3 a4 a5 a6 a7 a8
 exact⟨v,r',e,k1,k2,k3⟩
theorem ZG3 {w:List Data}(hw:w∈ZAO):ZO w/\1<=w.length/\w.length<=2/\ZAE w/\∃T,F.f53 w=some T/\TOk w T:=by
 have hs:=ZCu hw
 have wok:F.f24 w=some true->ZO w:=fun h=>by rw[P.Yc w hs]at h;exact ZCh.1 (Option.some.inj h)
 simp only[ZAO,List.mem_cons,List.not_mem_nil,or_false]at hw
 rcases hw with rfl|rfl|rfl|rfl|rfl|rfl|rfl
 ·have:=wok (E.f24_le 100 _ _ (by kernel_rfl));exact⟨this,by decide,by decide,hs,_,ZLy,TOk.of this (by decide)⟩
 ·have:=wok (E.f24_le 100 _ _ (by kernel_rfl));exact⟨this,by decide,by decide,hs,_,ZLw,TOk.of this (by decide)⟩
 ·have:=wok (E.f24_le 100 _ _ (by kernel_rfl));exact⟨this,by decide,by decide,hs,_,ZLu,TOk.of this (by decide)⟩
 ·have:=wok (E.f24_le 100 _ _ (by kernel_rfl));exact⟨this,by decide,by decide,hs,_,ZLs,TOk.of this (by decide)⟩
 ·have:=wok (E.f24_le 100 _ _ (by kernel_rfl));exact⟨this,by decide,by decide,hs,_,ZLq,TOk.of this (by decide)⟩
 ·have:=wok (E.f24_le 100 _ _ (by kernel_rfl));exact⟨this,by decide,by decide,hs,_,ZLo,TOk.of this (by decide)⟩
 ·have:=wok (E.f24_le 100 _ _ (by kernel_rfl));exact⟨this,by decide,by decide,hs,_,ZLm,TOk.of this (by decide)⟩
theorem P.YAY {K:Nat}{r:ZB}(h:rok K r)(hK:K+300<=1099511627776):∃w t v r' T,F.f58 r=some (w,t,v,r')/\rok (K+300) r'/\w∈ZAO/\F.f53 w=some T/\TOk w T/\tIx w t/\t.index<=2/\0<=t.index/\ZBr T t≠0/\pv w false 4 t v/\v.wt+1<=256/\(t.data= -1->t.index=0):=by
 unfold F.f58
 obtain⟨w,r1,e1,h1,hw⟩:=P.YAc h (by omega)
 obtain⟨hwo,hl1,hl2,hs,T,hT,hTo⟩:=ZG3 hw
 obtain⟨p,r2,e2,h2,p0,p1,_⟩:=P.YJ h1 (by omega) (w.length:Int)
 obtain⟨i,r3,e3,h3,hi⟩:=P.num h2 (by omega) [0,0,1,2] (by simp)
 obtain⟨d,r4,e4,h4,hd⟩:=P.num h3 (by omega) [3,2,4,1] (by simp)
 have hi:0<=i/\i<=2:=by simp at hi;omega
 have hd:1<=d/\d<=4:=by simp at hd;omega
 have p1:=p1 (by omega)
 have ht:tIx w ⟨p,i⟩:=.inr ⟨p0,p1,hi.1,by show i<=3;omega⟩
 rw[e1];simp only[oE,oS]
 rw[hT];simp only[oS]
 rw[e2];simp only[oS]
 rw[e3];simp only[oS]
 rw[P.YN hTo ht,e4];simp only[oS]
 split
 ·obtain⟨v,r',e,k1,k2,k3⟩:=P.YAa hTo 4 ⟨-1,0⟩ d _ r4 (.inl rfl) (by simp[ZBr]) (by simp[ZBr]) (by omega) (by omega) (by omega) h4 (by omega)
  rw[e]
  exact⟨w,⟨-1,0⟩,v,r',T,rfl,k1.mono (by omega),hw,hT,hTo,.inl rfl,by simp,by simp,by simp[ZBr],k2,k3,fun _=>rfl⟩
 ·next hne=>
  have:=hTo.dep ⟨p,i⟩
  obtain⟨v,r',e,k1,k2,k3⟩:=P.YAa hTo 4 ⟨p,i⟩ d _ r4 ht hne (by omega) (by omega) (by omega) (by omega) h4 (by omega)
  rw[e]
  exact⟨w,⟨p,i⟩,v,r',T,rfl,k1.mono (by omega),hw,hT,hTo,ht,hi.2,hi.1,hne,k2,k3,fun hh=>by have:p= -1:=hh;omega⟩
theorem ZOX {v k:Value}(h:k∈v.kids):1+k.wt<=v.wt:=by rw[v.wt_eq];exact ZAM Value.wt h
noncomputable def ZDu (l:List VarType)(n:Int):Int:=match ZGY (fun x=>x.var=n) 0 l with
 |some j=>(j:Int)
 |none=> -1
theorem P.YP (l:List VarType)(n:Int):F.f79 l n=some (ZDu l n):=by
 unfold F.f79 ZDu
 rw[ZNL (a:=l) (p:=fun x=>x.var=n) (L:=F.f78 l n) (fun k hk=>by rw[F.f78,if_neg (by omega)])
  (fun k hk hp=>by rw[F.f78,if_pos hk,gQ hk];simp only[oE,oS];rw[if_neg hp])
  (fun k hk hp=>by rw[F.f78,if_pos hk,gQ hk];simp only[oE,oS];rw[if_pos hp]) _ 0 rfl,List.drop_zero]
 cases ZGY (fun x=>x.var=n) 0 l<;>rfl
theorem ZDb (l:List VarType)(n:Int):ZDu l n= -1∨∃(j:Nat) (h:j<l.length),ZDu l n=(j:Int)/\l[j].var=n/\∀i (hi:i<l.length),i<j->l[i].var≠n:=by
 unfold ZDu
 cases h:ZGY (fun x:VarType=>x.var=n) 0 l with
 |none=>exact .inl rfl
 |some j=>
  obtain⟨_,h2,h3,h4⟩:=ZBB h
  exact .inr ⟨j,h2,rfl,h3,h4⟩
theorem ZEH (l:List VarType)(j:Nat)(hj:j<l.length):ZDu l l[j].var=(j:Int)↔∀i (hi:i<l.length),i<j->l[i].var≠l[j].var:=by
 constructor
 ·intro h
  rcases ZDb l l[j].var with q|⟨k,hk,q1,q2,q3⟩
  ·omega
  ·have:k=j:=by omega
   subst this;exact q3
 ·intro h
  unfold ZDu
  cases hf:ZGY (fun x:VarType=>x.var=l[j].var) 0 l with
  |none=>exact absurd rfl (ZBC hf l[j] (gM hj))
  |some k=>
   obtain⟨_,h2,h3,h4⟩:=ZBB hf
   show(k:Int)=j
   have:¬k<j:=fun hlt=>h k h2 hlt h3
   have:¬j<k:=fun hlt=>h4 j hj (by omega) rfl
   omega
theorem P.YAh (v:Int):F.f124 v=some (dec (0<=v/\v<=5)):=by
 unfold F.f124;rw[P.YE];rfl
theorem ZEP {w:List Data}(hw:ZO w){t:Ty}(ht:Zo w t){c:Int}(h:c∈ZN w t):∀a,a∈ZK w t c->Zo w a:=by
 have hc:=(Zi hw (ZA7 ht.1) (ZT h).1).2 _ (ZBG h).2
 have hn:=(ZT h).1
 intro a ha
 obtain⟨b,hb,rfl⟩:=List.mem_map.1 ha
 obtain⟨j,hj,rfl⟩:=List.getElem_of_mem hb
 have:=hc.2.2.2.2 j (by omega) hj
 have ht2:=ht.2
 rcases ht.1 with q|⟨q1,q2,q3,q4⟩
 ·exact absurd q.1 hn
 unfold ZCn
 rcases this with⟨p1,p2⟩|⟨p1,p2,p3,p4⟩
 ·rw[if_neg (by omega)];exact⟨.inl ⟨p1,p2⟩,by omega⟩
 ·split
  ·next e=>
   have hx:0<=(if(Za w t c).index=0 then t.index else(Za w t c).index)/\(if(Za w t c).index=0 then t.index else(Za w t c).index)<=3:=by
    split
    ·exact⟨ht2,q4⟩
    ·exact⟨hc.2.2.1,hc.2.2.2.1⟩
   exact⟨.inr ⟨p1,p2,by show -1<=(if(Za w t c).index=0 then t.index else(Za w t c).index);omega,hx.2⟩,hx.1⟩
  ·next e=>exact⟨.inr ⟨p1,p2,p3,p4⟩,by omega⟩
def ZAk (w:List Data)(t:Ty)(p:Pattern):Prop:=
 (p.op=1/\p.var=0/\p.n=0/\p.m=0/\p.ctor=0)∨
 (p.op=2/\0<=p.var/\p.var<=5/\p.n=0/\p.m=0/\p.ctor=0)∨
 (p.op=3/\p.var=0/\p.ctor=0/\t.data= -1/\0<=p.n/\p.n<=p.m/\p.m<=9)∨
 (p.op=4/\p.var=0/\p.n=0/\p.m=0/\p.ctor∈ZN w t)∨
 (p.op=5/\p.var=0/\p.n=0/\p.m=0/\p.ctor=0)∨
 (p.op=6/\0<=p.var/\p.var<=5/\p.n=0/\p.m=0/\p.ctor=0)
noncomputable def ZG (w:List Data)(t:Ty)(p:Pattern):List Ty:=if p.op=4 then ZK w t p.ctor else if p.op=5 then[t,t]else if p.op=6 then[t]else[]
theorem P.YAJ (w:List Data)(hw:ZO w)(t:Ty)(ht:tOk w t)(p:Pattern):F.f66 w t p=some (dec (ZAk w t p)):=by
 unfold F.f66
 rw[P.YO w hw t ht]
 simp only[oE,oS,P.YAK]
 have yes:ZAk w t p->some true=some (dec (ZAk w t p)):=fun h=>by rw[ZI h]
 have no:¬ZAk w t p->some false=some (dec (ZAk w t p)):=fun h=>by rw[ZF h]
 repeat' split
 all_goals first
  |(refine no fun h=> ?_;unfold ZAk at h;omega)
  |(refine yes ?_;unfold ZAk;omega)
  |skip
 ·rw[←ZAY];congr 1;refine ZR ?_;unfold ZAk;omega
 ·congr 1;refine ZR ⟨fun h=>.inr (.inr (.inr (.inl ⟨by assumption,by assumption,by assumption,by assumption,h⟩))),fun h=> ?_⟩
  unfold ZAk at h
  rcases h with h|h|h|h|h|h
  ·omega
  ·omega
  ·omega
  ·exact h.2.2.2.2
  ·omega
  ·omega
theorem P.YL (w:List Data)(hw:ZO w)(t:Ty)(ht:tOk w t)(p:Pattern)(h:ZAk w t p):F.f69 w t p=some (ZG w t p):=by
 unfold F.f69 ZG
 by_cases h4:p.op=4
 ·rw[if_pos h4,if_pos h4]
  have hc:p.ctor∈ZN w t:=by
   unfold ZAk at h
   rcases h with h|h|h|h|h|h
   ·omega
   ·omega
   ·omega
   ·exact h.2.2.2.2
   ·omega
   ·omega
  rw[P.YH w hw t ht _ hc];rfl
 ·rw[if_neg h4,if_neg h4]
  have k:F.f67 p.op=some (if p.op=5 then 2 else if p.op=6 then 1 else 0):=by
   unfold F.f67;split
   ·rfl
   ·split
    ·rfl
    ·rfl
  by_cases h5:p.op=5
  ·rw[if_pos h5]
   rw[if_pos h5]at k
   rw[F.f68,k]
   simp only[oE,oS]
   rw[if_pos (by omega),if_pos (by simp),if_pos (by omega),F.f68,k]
   simp only[oE,oS]
   rw[if_pos (by omega),if_pos (by simp),if_pos (by omega),F.f68,k]
   simp only[oE,oS]
   rw[if_neg (by omega)];simp
  ·rw[if_neg h5]
   rw[if_neg h5]at k
   by_cases h6:p.op=6
   ·rw[if_pos h6]
    rw[if_pos h6]at k
    rw[F.f68,k]
    simp only[oE,oS]
    rw[if_pos (by omega),if_pos (by simp),if_pos (by omega),F.f68,k]
    simp only[oE,oS]
    rw[if_neg (by omega)];simp
   ·rw[if_neg h6]
    rw[if_neg h6]at k
    rw[F.f68,k]
    simp only[oE,oS]
    rw[if_neg (by omega)];simp
theorem ZAm {w:List Data}(hw:ZO w){t:Ty}(ht:Zo w t){p:Pattern}(h:ZAk w t p):∀a,a∈ZG w t p->Zo w a:=by
 unfold ZG
 intro a ha
 split at ha
 ·next h4=>
  have hc:p.ctor∈ZN w t:=by
   unfold ZAk at h
   rcases h with h|h|h|h|h|h
   ·omega
   ·omega
   ·omega
   ·exact h.2.2.2.2
   ·omega
   ·omega
  exact ZEP hw ht hc a ha
 ·split at ha
  ·simp at ha;subst ha;exact ht
  ·split at ha
   ·simp at ha;subst ha;exact ht
   ·cases ha
theorem P.YAV (p:Pattern)(c n v:Bool)(k:Int):F.f123 p c n v k=some (dec ((c=true∨p.ctor=0)/\(n=true∨(p.n=0/\p.m=0))/\(v=true∨p.var=0)/\(p.kids.length:Int)=k)):=by
 unfold F.f123
 cases c<;>cases n<;>cases v<;>simp only[Bool.false_eq_true,if_true,if_false,false_or,true_or,true_and]
 all_goals(repeat' split)
 all_goals first
  |(rw[←ZAY];done)
  |(rw[←ZAY];congr 1;refine ZR ?_;omega)
  |(rw[ZF];omega)
theorem P.YAM (w:List Data)(hw:ZO w)(t:Ty)(ht:tOk w t)(p:Pattern):
  ∃ts,F.f133 w t p=some (ts,dec (ZAk w t p/\p.kids.length=(ZG w t p).length))/\(ZAk w t p->ts=ZG w t p):=by
 unfold F.f133
 simp only[P.YAV,P.YAh,P.YV w hw t ht,P.YD,oE,oS,ZCh]
 by_cases h1:p.op=1
 ·rw[if_pos h1]
  have e:ZG w t p=[]:=by unfold ZG;rw[if_neg (by omega),if_neg (by omega),if_neg (by omega)]
  rw[e]
  refine⟨[],?_,fun _=>rfl⟩
  congr 2;refine ZR ?_;unfold ZAk;simp only[Bool.false_eq_true,false_or,List.length_nil];omega
 rw[if_neg h1]
 by_cases h2:p.op=2
 ·rw[if_pos h2]
  have e:ZG w t p=[]:=by unfold ZG;rw[if_neg (by omega),if_neg (by omega),if_neg (by omega)]
  rw[e]
  refine⟨[],?_,fun _=>rfl⟩
  split
  ·next hh=>
   simp only[Bool.false_eq_true,false_or,true_or,true_and]at hh
   congr 2;refine ZR ?_;unfold ZAk;simp only[List.length_nil,List.length_cons];omega
  ·next hh=>
   simp only[Bool.false_eq_true,false_or,true_or,true_and]at hh
   rw[ZF];unfold ZAk;simp only[List.length_nil,List.length_cons];omega
 rw[if_neg h2]
 by_cases h3:p.op=3
 ·rw[if_pos h3]
  have e:ZG w t p=[]:=by unfold ZG;rw[if_neg (by omega),if_neg (by omega),if_neg (by omega)]
  rw[e]
  refine⟨[],?_,fun _=>rfl⟩
  simp only[Bool.false_eq_true,false_or,true_or,true_and,List.length_nil]
  repeat' split
  all_goals first
   |(rw[←ZAY];congr 2;refine ZR ?_;unfold ZAk;omega)
   |(rw[ZF];unfold ZAk;omega)
 rw[if_neg h3]
 by_cases h4:p.op=4
 ·rw[if_pos h4]
  have e:ZG w t p=ZK w t p.ctor:=by unfold ZG;rw[if_pos h4]
  rw[e]
  by_cases hc:p.ctor∈ZN w t
  ·rw[if_pos hc,P.YS w hw t ht _ hc]
   simp only[oS]
   refine⟨ZK w t p.ctor,?_,fun _=>rfl⟩
   congr 2;refine ZR ⟨fun h=>⟨.inr (.inr (.inr (.inl ⟨h4,?_,?_,?_,hc⟩))),?_⟩,fun h=> ?_⟩
   ·simp at h;exact h.2.1
   ·simp at h;exact h.1.1
   ·simp at h;exact h.1.2
   ·simp at h;omega
   ·obtain⟨h,hl⟩:=h
    unfold ZAk at h
    rcases h with h|h|h|h|h|h
    ·omega
    ·omega
    ·omega
    ·exact⟨.inl trivial,.inr ⟨h.2.2.1,h.2.2.2.1⟩,.inr h.2.1,by omega⟩
    ·omega
    ·omega
  ·rw[if_neg hc]
   have hn:¬ZAk w t p:=by
    intro h
    unfold ZAk at h
    rcases h with h|h|h|h|h|h
    ·omega
    ·omega
    ·omega
    ·exact hc h.2.2.2.2
    ·omega
    ·omega
   exact⟨[],by rw[ZF fun h=>hn h.1],fun h=>absurd h hn⟩
 rw[if_neg h4]
 by_cases h5:p.op=5
 ·rw[if_pos h5]
  have e:ZG w t p=[t,t]:=by unfold ZG;rw[if_neg (by omega),if_pos (by omega)]
  rw[e]
  refine⟨[t,t],?_,fun _=>rfl⟩
  congr 2;refine ZR ?_;unfold ZAk;simp only[Bool.false_eq_true,false_or,List.length_nil,List.length_cons];omega
 rw[if_neg h5]
 by_cases h6:p.op=6
 ·rw[if_pos h6]
  have e:ZG w t p=[t]:=by unfold ZG;rw[if_neg (by omega),if_neg (by omega),if_pos (by omega)]
  rw[e]
  refine⟨[t],?_,fun _=>rfl⟩
  split
  ·next hh=>
   simp only[Bool.false_eq_true,false_or,true_or,true_and]at hh
   congr 2;refine ZR ?_;unfold ZAk;simp only[List.length_nil,List.length_cons];omega
  ·next hh=>
   simp only[Bool.false_eq_true,false_or,true_or,true_and]at hh
   rw[ZF];unfold ZAk;simp only[List.length_nil,List.length_cons];omega
 rw[if_neg h6]
 have hn:¬ZAk w t p:=by unfold ZAk;omega
 exact⟨[],by rw[ZF fun h=>hn h.1],fun h=>absurd h hn⟩
def ZV (w:List Data):Nat->Ty->Pattern->Prop
 |0,_,_=>False
 |d+1,t,p=>ZAk w t p/\p.kids.length=(ZG w t p).length/\∀i,0<=i->i<(ZG w t p).length->∀(h:i<(ZG w t p).length) (h':i<p.kids.length),ZV w d (ZG w t p)[i] p.kids[i]
theorem P.YM (w:List Data)(hw:ZO w):∀(d:Nat) (t:Ty) (p:Pattern),Zo w t->d<=10->F.f70 w t p d=some (dec (ZV w d t p))
 |0,t,p,ht,hd=>by rw[F.f70,if_pos (by omega),ZF (by simp[ZV])]
 |d+1,t,p,ht,hd=>by
  rw[F.f70,if_neg (by omega),P.YAJ w hw t (ZA7 ht.1)]
  simp only[oE,oS]
  by_cases ho:ZAk w t p
  ·rw[if_pos (ZI ho),P.YL w hw t (ZA7 ht.1) p ho]
   simp only[oS]
   have hts:=ZAm hw ht ho
   by_cases h4:p.kids.length=(ZG w t p).length
   ·rw[if_pos h4,ZIs (n:=(ZG w t p).length) (r:=false) (Q:=fun i=>∀(h:i<(ZG w t p).length) (h':i<p.kids.length),ZV w d (ZG w t p)[i] p.kids[i]) (L:=F.f71 w p ((d+1:Nat):Int) (ZG w t p))
     (fun k hk=>by rw[F.f71,if_neg (by omega)])
     (fun k hk hq=>by
      have hk':k<p.kids.length:=by omega
      rw[F.f71,if_pos hk,gQ hk,gQ hk']
      simp only[oE,oS]
      rw[ZE (by omega) (by omega),show((d+1:Nat):Int) -1=(d:Int)from by omega,P.YM w hw d _ _ (hts _ (gM hk)) (by omega)]
      simp only[oS]
      rw[if_pos (ZI (hq hk hk'))])
     (fun k hk hq=>by
      have hk':k<p.kids.length:=by omega
      rw[F.f71,if_pos hk,gQ hk,gQ hk']
      simp only[oE,oS]
      rw[ZE (by omega) (by omega),show((d+1:Nat):Int) -1=(d:Int)from by omega,P.YM w hw d _ _ (hts _ (gM hk)) (by omega)]
      simp only[oS]
      rw[if_neg (by rw[ZF fun h=>hq fun _ _=>h];simp)]) _ 0 rfl]
    simp only[oS]
    by_cases hall:∀i,0<=i->i<(ZG w t p).length->∀(h:i<(ZG w t p).length) (h':i<p.kids.length),ZV w d (ZG w t p)[i] p.kids[i]
    ·rw[if_pos (ZI hall),ZI ⟨ho,h4,hall⟩]
    ·rw[if_neg (by rw[ZF hall];simp),ZF fun h=>hall h.2.2]
   ·rw[if_neg h4,ZF fun h=>h4 h.2.1]
  ·rw[if_neg (by rw[ZF ho];simp),ZF fun h=>ho h.1]
theorem P.YAU (v:Pattern)(hv:v.wt<=1048576):∀(most:Nat),most<=60->∃c:Nat,F.f72 v most=some (c:Int)/\1<=c/\c<=1+v.wt/\(1+v.wt<=most->c=1+v.wt)/\(most<1+v.wt->most<c):=by
 induction v using Pattern.ind with
 |_ v ih=>
  intro most hm
  have hw:=v.wt_eq
  have key:∀(m i:Nat) (n:Nat),v.kids.length-i=m->1<=n->n+((v.kids.drop i).map fun k=>1+k.wt).sum<=1+v.wt->
    ∃c:Nat,F.f73 v most n i=some (c:Int)/\n<=c/\c<=n+((v.kids.drop i).map fun k=>1+k.wt).sum/\(n+((v.kids.drop i).map fun k=>1+k.wt).sum<=most->c=n+((v.kids.drop i).map fun k=>1+k.wt).sum)/\(most<n+((v.kids.drop i).map fun k=>1+k.wt).sum->most<c):=by
   intro m
   induction m with
   |zero=>
    intro i n hmi hn hb
    rw[F.f73,if_neg (by omega),List.drop_eq_nil_of_le (by omega)]
    exact⟨n,rfl,by omega,by simp,by simp,by simp⟩
   |succ m ih2=>
    intro i n hmi hn hb
    have hi:i<v.kids.length:=by omega
    rw[List.drop_eq_getElem_cons hi]at hb ⊢
    simp only[List.map_cons,List.sum_cons]at hb ⊢
    rw[F.f73,if_pos hi]
    by_cases hle:n<=most
    ·rw[if_pos (by omega),gQ hi]
     simp only[oE,oS]
     have hk:v.kids[i].wt<=1048576:=by omega
     obtain⟨c,h1,h2,h3,h4,h5⟩:=ih v.kids[i] (gM hi) hk (most-n) (by omega)
     rw[ZE (by omega) (by omega),show((most:Int) - (n:Int))=((most-n:Nat):Int)from by omega,h1]
     simp only[oS]
     rw[ZE (by omega) (by omega),show((n:Int)+(c:Int))=((n+c:Nat):Int)from by omega]
     obtain⟨c',g1,g2,g3,g4,g5⟩:=ih2 (i+1) (n+c) (by omega) (by omega) (by omega)
     refine⟨c',g1,by omega,by omega,fun h=> ?_,fun h=> ?_⟩
     ·have:=h4 (by omega)
      have:=g4 (by omega)
      omega
     ·by_cases hx:1+v.kids[i].wt<=most-n
      ·have:=h4 hx
       exact g5 (by omega)
      ·have:=h5 (by omega)
       omega
    ·rw[if_neg (by omega)]
     exact⟨n,rfl,by omega,by omega,fun h=>by omega,fun h=>by omega⟩
  have hs:((v.kids.drop 0).map fun k=>1+k.wt).sum=v.wt:=by
   rw[List.drop_zero,hw]
   have:∀l:List Pattern,(l.map fun k=>1+k.wt).sum=wtL Pattern.wt l:=by
    intro l
    induction l with
    |nil=>rfl
    |cons a r ih=>simp[ih]
   exact this _
  obtain⟨c,h1,h2,h3,h4,h5⟩:=key _ 0 1 rfl (by omega) (by omega)
  rw[hs]at h3 h4 h5
  unfold F.f72
  have h1':F.f73 v most 1 0=some (c:Int):=h1
  rw[h1']
  exact⟨c,rfl,by omega,h3,h4,h5⟩
theorem ZET (v:Pattern):v.wt=((v.kids.drop 0).map fun k=>1+k.wt).sum:=by
 rw[List.drop_zero,v.wt_eq]
 have:∀l:List Pattern,(l.map fun k=>1+k.wt).sum=wtL Pattern.wt l:=by
  intro l
  induction l with
  |nil=>rfl
  |cons a r ih=>simp[ih]
 exact(this _).symm
noncomputable def ZY (w:List Data):Nat->Ty->Pattern->List VarType
 |0,_,_=>[]
 |d+1,t,p=>(if p.op=2∨p.op=6 then[⟨p.var,t⟩]else[])++(((ZG w t p).zip p.kids).take (if p.op=5 then 1 else p.kids.length)).flatMap fun x=>ZY w d x.1 x.2
theorem ZFc {f:Ty×Pattern->List VarType}(hf:∀x,(f x).length<=1+x.2.wt):∀(ts:List Ty) (ks:List Pattern) (n:Nat),(((ts.zip ks).take n).flatMap f).length<=wtL Pattern.wt ks
 | [],ks,n=>by simp
 |t::ts,[],n=>by simp
 |t::ts,k::ks,0=>by simp
 |t::ts,k::ks,n+1=>by
  have h1:=ZFc hf ts ks n
  have h2:=hf (t,k)
  simp only[List.zip_cons_cons,List.take_succ_cons,List.flatMap_cons,List.length_append,ZC4]at h1 h2 ⊢
  omega
theorem ZCD (w:List Data):∀(d:Nat) (t:Ty) (p:Pattern),(ZY w d t p).length<=1+p.wt
 |0,t,p=>by simp[ZY]
 |d+1,t,p=>by
  have:=ZFc (f:=fun x=>ZY w d x.1 x.2) (fun x=>ZCD w d x.1 x.2) (ZG w t p) p.kids (if p.op=5 then 1 else p.kids.length)
  rw[ZY,List.length_append,p.wt_eq]
  have h1:(if p.op=2∨p.op=6 then[(⟨p.var,t⟩:VarType)]else[]).length<=1:=by split<;>simp
  omega
theorem ZDC {w:List Data}{p:Pattern}{ts:List Ty}(hl:p.kids.length=ts.length)(h5:p.op≠5){f:Ty×Pattern->List VarType}{L:List VarType->Nat->Option (List VarType)}
  (hL:∀out i,L out i=if i<ts.length then(if i=0 then ts[i]? >>=fun x=>p.kids[i]? >>=fun y=>F.f74 out w x y>>=fun v=>L v (i+1)else(if p.op=5 then some out else ts[i]? >>=fun x=>p.kids[i]? >>=fun y=>F.f74 out w x y>>=fun v=>L v (i+1)))else some out)
  (hf:∀x:Ty×Pattern,(f x).length<=1+x.2.wt)
  (ih:∀i (h:i<ts.length) (h':i<p.kids.length) (out:List VarType),out.length+(1+p.kids[i].wt)<=67108864->F.f74 out w ts[i] p.kids[i]=some (out++f (ts[i],p.kids[i]))):
  ∀(m i:Nat) (out:List VarType),ts.length-i=m->out.length+((p.kids.drop i).map fun k=>1+k.wt).sum<=67108864->L out i=some (out++((ts.zip p.kids).drop i).flatMap f):=by
 intro m
 induction m with
 |zero=>
  intro i out hm hb
  rw[hL,if_neg (by omega),List.drop_eq_nil_of_le (by simp;omega)];simp
 |succ m ihm=>
  intro i out hm hb
  have hi:i<ts.length:=by omega
  have hi':i<p.kids.length:=by omega
  rw[List.drop_eq_getElem_cons hi']at hb
  simp only[List.map_cons,List.sum_cons]at hb
  have e:(ts[i]? >>=fun x=>p.kids[i]? >>=fun y=>F.f74 out w x y>>=fun v=>L v (i+1))=some (out++((ts.zip p.kids).drop i).flatMap f):=by
   rw[gQ hi,gQ hi']
   simp only[oE,oS]
   rw[ih i hi hi' out (by omega)]
   simp only[oS]
   have:=hf (ts[i],p.kids[i])
   simp only at this
   rw[ihm (i+1) _ (by omega) (by rw[List.length_append];omega),List.drop_eq_getElem_cons (l:=ts.zip p.kids) (i:=i) (by simp;omega)]
   simp
  rw[hL,if_pos hi,if_neg h5,e]
  split<;>rfl
theorem Zl {w:List Data}{t:Ty}{p:Pattern}(h:ZAk w t p)(h5:p.op=5):ZG w t p=[t,t]:=by unfold ZG;rw[if_neg (by omega),if_pos h5]
theorem P.YG (w:List Data)(hw:ZO w):∀(d:Nat) (t:Ty) (p:Pattern) (out:List VarType),Zo w t->ZV w d t p->out.length+(1+p.wt)<=67108864->F.f74 out w t p=some (out++ZY w d t p)
 |0,t,p,out,ht,hs,hb=>hs.elim
 |d+1,t,p,out,ht,hs,hb=>by
  obtain⟨ho,hl,hk⟩:=hs
  have hts:=ZAm hw ht ho
  have hsum:=ZET p
  have ih:∀i (h:i<(ZG w t p).length) (h':i<p.kids.length) (out:List VarType),out.length+(1+p.kids[i].wt)<=67108864->F.f74 out w (ZG w t p)[i] p.kids[i]=some (out++(fun x:Ty×Pattern=>ZY w d x.1 x.2) ((ZG w t p)[i],p.kids[i])):=
   fun i h h' out hb=>P.YG w hw d _ _ out (hts _ (gM h)) (hk i (by omega) h h h') hb
  have hf:∀x:Ty×Pattern,((fun x:Ty×Pattern=>ZY w d x.1 x.2) x).length<=1+x.2.wt:=fun x=>ZCD w d x.1 x.2
  have full:∀n,p.kids.length<=n->((ZG w t p).zip p.kids).take n=(ZG w t p).zip p.kids:=fun n hn=>List.take_of_length_le (by simp;omega)
  rw[F.f74,P.YL w hw t (ZA7 ht.1) p ho]
  simp only[oE,oS]
  by_cases h2:p.op=2
  ·rw[if_pos h2,if_pos (by omega),ZDC (f:=fun x=>ZY w d x.1 x.2) (L:=F.f77 w p (ZG w t p)) hl (by omega) (fun out i=>by rw[F.f77]) hf ih _ 0 _ rfl (by simp at hsum ⊢;omega)]
   simp only[oS]
   rw[ZY,if_pos (.inl h2),if_neg (by omega),full _ (Nat.le_refl _)];simp
  ·rw[if_neg h2]
   by_cases h6:p.op=6
   ·rw[if_pos h6,if_pos (by omega),ZDC (f:=fun x=>ZY w d x.1 x.2) (L:=F.f75 w p (ZG w t p)) hl (by omega) (fun out i=>by rw[F.f75]) hf ih _ 0 _ rfl (by simp at hsum ⊢;omega)]
    simp only[oS]
    rw[ZY,if_pos (.inr h6),if_neg (by omega),full _ (Nat.le_refl _)];simp
   ·rw[if_neg h6]
    by_cases h5:p.op=5
    ·have et:=Zl ho h5
     rw[et]at hl
     have h0:0<p.kids.length:=by rw[hl];simp
     have h0':0<(ZG w t p).length:=by rw[et];simp
     have hw0:1+p.kids[0].wt<=p.wt:=by
      rw[hsum,List.drop_zero]
      obtain⟨a,r,e⟩:=List.exists_cons_of_length_pos h0
      simp[e]
     have e0:=ih 0 h0' h0 out (by omega)
     rw[F.f76,if_pos h0',if_pos rfl,gQ h0',gQ h0]
     simp only[oE,oS]
     rw[e0]
     simp only[oS]
     rw[F.f76,if_pos (by rw[et];simp),if_neg (by omega),if_pos h5]
     simp only[oS]
     rw[ZY,if_neg (by omega),if_pos h5]
     have e1:((ZG w t p).zip p.kids).take 1=[((ZG w t p)[0],p.kids[0])]:=by
      obtain⟨a,r,e⟩:=List.exists_cons_of_length_pos h0
      obtain⟨b,r',e'⟩:=List.exists_cons_of_length_pos h0'
      simp[e,e']
     rw[e1];simp
    ·rw[ZDC (f:=fun x=>ZY w d x.1 x.2) (L:=F.f76 w p (ZG w t p)) hl h5 (fun out i=>by rw[F.f76]) hf ih _ 0 _ rfl (by simp at hsum ⊢;omega)]
     simp only[oS]
     rw[ZY,if_neg (by omega),if_neg h5,full _ (Nat.le_refl _)];simp
def ZEz (l:List VarType):Prop:=(l.map VarType.var).Nodup
def ZF7 (a b:List VarType):Prop:=a.length=b.length/\∀x,x∈a->x∈b
theorem ZHK (l:List VarType):ZEz l↔∀i j (hi:i<l.length) (hj:j<l.length),i<j->l[i].var≠l[j].var:=by
 unfold ZEz List.Nodup
 rw[List.pairwise_map,List.pairwise_iff_getElem]
theorem ZIU {l:List VarType}{n:Int}(h:ZDu l n= -1):∀x,x∈l->x.var≠n:=by
 unfold ZDu at h
 cases hf:ZGY (fun x:VarType=>x.var=n) 0 l with
 |none=>exact ZBC hf
 |some j=>rw[hf]at h;simp only at h;omega
theorem ZPP {a b:VarType}(h:a.var=b.var)(h2:eq2 (a.type.data,a.type.index) (b.type.data,b.type.index)):a=b:=by
 obtain⟨v,d,i⟩:=a
 obtain⟨v',d',i'⟩:=b
 simp only[eq2]at h h2
 obtain⟨rfl,rfl⟩:=h2
 subst h;rfl
theorem P.YW (l:List VarType):F.f82 l 0=some (if dec (ZEz l)=true then .go ()else .ret false):=by
 rw[ZIs (n:=l.length) (r:=false) (Q:=fun j=>∀h:j<l.length,ZDu l l[j].var=(j:Int)) (L:=F.f82 l) (fun k hk=>by rw[F.f82,if_neg (by omega)])
  (fun k hk hq=>by
   rw[F.f82,if_pos hk,gQ hk]
   simp only[oE,oS,P.YP]
   rw[if_pos (hq hk)])
  (fun k hk hq=>by
   rw[F.f82,if_pos hk,gQ hk]
   simp only[oE,oS,P.YP]
   rw[if_neg fun h=>hq fun _=>h]) _ 0 rfl]
 congr 2
 rw[ZR]
 rw[ZHK]
 constructor
 ·intro h i j hi hj hij
  exact(ZEH l j hj).1 (h j (by omega) hj hj) i hi hij
 ·intro h j _ _ hj
  exact(ZEH l j hj).2 fun i hi hij=>h i j hi hj hij
theorem P.Yy (a b:List VarType)(hb:ZEz b):F.f81 a b=some (dec (ZF7 a b)):=by
 unfold F.f81
 have step:∀k (hk:k<a.length),F.f80 a b k=if dec (a[k]∈b)=true then F.f80 a b (k+1)else some (.ret false):=by
  intro k hk
  rw[F.f80,if_pos hk,gQ hk]
  simp only[oE,oS,P.YP]
  rcases ZDb b a[k].var with h|⟨j,hj,h1,h2,h3⟩
  ·rw[if_pos (by omega),if_neg]
   rw[ZF fun hm=>ZIU h _ hm rfl];simp
  ·rw[if_neg (by omega),h1,ZHd,gQ hj]
   simp only[oS]
   by_cases he:eq2 (b[j].type.data,b[j].type.index) (a[k].type.data,a[k].type.index)
   ·rw[if_pos (ZI he),if_pos (ZI (by rw[←ZPP h2 he];exact gM hj))]
   ·rw[if_neg (by rw[ZF he];simp),if_neg]
    rw[ZF fun hm=> ?_];· simp
    obtain⟨i,hi,e⟩:=List.getElem_of_mem hm
    have hij:i=j:=by
     rw[ZHK]at hb
     rcases Nat.lt_trichotomy i j with hlt|heq|hlt
     ·exact absurd (by rw[e,h2]) (hb i j hi hj hlt)
     ·exact heq
     ·exact absurd (by rw[e,h2]) (hb j i hj hi hlt)
    subst hij
    exact he (by rw[e];exact⟨rfl,rfl⟩)
 rw[ZIs (n:=a.length) (r:=false) (Q:=fun j=>∀h:j<a.length,a[j]∈b) (L:=F.f80 a b) (fun k hk=>by rw[F.f80,if_neg (by omega)])
  (fun k hk hq=>by rw[step k hk,if_pos (ZI (hq hk))])
  (fun k hk hq=>by rw[step k hk,if_neg (by rw[ZF fun h=>hq fun _=>h];simp)]) _ 0 rfl]
 simp only[oE,oS]
 by_cases h:∀j,0<=j->j<a.length->∀h:j<a.length,a[j]∈b
 ·rw[if_pos (ZI h),←ZAY]
  have hx:∀x,x∈a->x∈b:=fun x hx=>by obtain⟨j,hj,e⟩:=List.getElem_of_mem hx;rw[←e];exact h j (by omega) hj hj
  show some (dec (a.length=b.length))=some (dec (ZF7 a b))
  congr 1;exact ZR ⟨fun hl=>⟨hl,hx⟩,fun hs=>hs.1⟩
 ·rw[if_neg (by rw[ZF h];simp),ZF fun hs=>h fun j _ hj _=>hs.2 _ (gM hj)]
theorem ZL3 {a b:VarType}:eq3 (a.var,a.type.data,a.type.index) (b.var,b.type.data,b.type.index)↔a=b:=by
 obtain⟨v,d,i⟩:=a
 obtain⟨v',d',i'⟩:=b
 simp[eq3]
theorem P.YK (l:List VarType)(n:VarType):F.f136 l n=some (dec (n∈l)):=by
 unfold F.f136 F.f135
 rw[ZNL (a:=l) (p:=fun x=>n=x) (L:=F.f134 l n) (fun k hk=>by rw[F.f134,if_neg (by omega)])
  (fun k hk hp=>by
   rw[F.f134,if_pos hk,gQ hk]
   simp only[oE,oS]
   rw[if_neg (by rw[ZF fun h=>hp (ZL3.1 h)];simp)])
  (fun k hk hp=>by
   rw[F.f134,if_pos hk,gQ hk]
   simp only[oE,oS]
   rw[if_pos (ZI (ZL3.2 hp))]) _ 0 rfl,List.drop_zero]
 cases h:ZGY (fun x:VarType=>n=x) 0 l with
 |none=>
  simp only[oE,oS]
  rw[ZF fun hm=>ZBC h _ hm rfl];simp
 |some j=>
  obtain⟨_,h2,h3,_⟩:=ZBB h
  simp only[oE,oS]
  rw[ZI (by rw[h3];exact gM h2)];simp
theorem P.Ys (a b:List VarType):F.f141 a b=some (dec (ZF7 a b)):=by
 unfold F.f141
 by_cases hl:a.length=b.length
 ·rw[if_pos hl]
  unfold F.f140 F.f139
  have one:∀q,F.f137 q b=some (!dec (q∈b)):=by
   intro q;unfold F.f137;rw[P.YK];rfl
  rw[ZNL (a:=a) (p:=fun x=>¬x∈b) (L:=F.f138 a b) (fun k hk=>by rw[F.f138,if_neg (by omega)])
   (fun k hk hp=>by
    rw[F.f138,if_pos hk,gQ hk]
    simp only[oE,oS,one]
    rw[if_neg (by rw[ZI (Classical.byContradiction hp)];simp)])
   (fun k hk hp=>by
    rw[F.f138,if_pos hk,gQ hk]
    simp only[oE,oS,one]
    rw[if_pos (by rw[ZF hp];simp)]) _ 0 rfl,List.drop_zero]
  cases h:ZGY (fun x:VarType=>¬x∈b) 0 a with
  |none=>
   simp only[oE,oS]
   rw[ZI ⟨hl,fun x hx=>Classical.byContradiction (ZBC h x hx)⟩];simp
  |some j=>
   obtain⟨_,h2,h3,_⟩:=ZBB h
   simp only[oE,oS]
   rw[ZF fun hs=>h3 (hs.2 _ (gM h2))];simp
 ·rw[if_neg hl,ZF fun h=>hl h.1]
def ZEA (w:List Data):Nat->Ty->Pattern->Prop
 |0,_,_=>False
 |d+1,t,p=>(∀i,0<=i->i<(ZG w t p).length->∀(h:i<(ZG w t p).length) (h':i<p.kids.length),ZEA w d (ZG w t p)[i] p.kids[i])/\
   if p.op=5 then(∀(h0:0<p.kids.length) (h1:1<p.kids.length),ZF7 (ZY w d t p.kids[0]) (ZY w d t p.kids[1]))else ZEz (ZY w (d+1) t p)
theorem ZC6 {w:List Data}{d:Nat}{t:Ty}{p:Pattern}(ho:ZAk w t p)(h5:p.op=5)(h0:0<p.kids.length):ZY w (d+1) t p=ZY w d t p.kids[0]:=by
 have et:=Zl ho h5
 rw[ZY,if_neg (by omega),if_pos h5,et]
 obtain⟨a,r,e⟩:=List.exists_cons_of_length_pos h0
 simp[e]
theorem ZC7 {w:List Data}:∀{d:Nat} {t:Ty} {p:Pattern},ZV w d t p->ZEA w d t p->ZEz (ZY w d t p)
 |0,t,p,hs,hl=>hs.elim
 |d+1,t,p,hs,hl=>by
  obtain⟨ho,hlen,hk⟩:=hs
  obtain⟨h1,h2⟩:=hl
  by_cases h5:p.op=5
  ·have et:=Zl ho h5
   have h0:0<p.kids.length:=by rw[hlen,et];simp
   have h0':0<(ZG w t p).length:=by rw[et];simp
   rw[ZC6 ho h5 h0]
   have e0:(ZG w t p)[0]=t:=by simp[et]
   have a:=hk 0 (Nat.le_refl _) h0' h0' h0
   have b:=h1 0 (Nat.le_refl _) h0' h0' h0
   rw[e0]at a b
   exact ZC7 a b
  ·rw[if_neg h5]at h2;exact h2
theorem P.YQ (w:List Data)(hw:ZO w):∀(d:Nat) (t:Ty) (p:Pattern),Zo w t->ZV w d t p->p.wt<=1048576->F.f83 w t p=some (dec (ZEA w d t p))
 |0,t,p,ht,hs,hb=>hs.elim
 |d+1,t,p,ht,hs,hb=>by
  have hs':=hs
  obtain⟨ho,hl,hk⟩:=hs
  have hts:=ZAm hw ht ho
  have hsum:=p.wt_eq
  have hkw:∀k (h:k<p.kids.length),1+p.kids[k].wt<=p.wt:=fun k h=>by have:=ZAM Pattern.wt (gM h);omega
  have ih:∀k (h:k<(ZG w t p).length) (h':k<p.kids.length),F.f83 w (ZG w t p)[k] p.kids[k]=some (dec (ZEA w d (ZG w t p)[k] p.kids[k])):=
   fun k h h'=>P.YQ w hw d _ _ (hts _ (gM h)) (hk k (by omega) h h h') (by have:=hkw k h';omega)
  rw[F.f83,P.YL w hw t (ZA7 ht.1) p ho]
  simp only[oE,oS]
  rw[ZIs (n:=(ZG w t p).length) (r:=false) (Q:=fun i=>∀(h:i<(ZG w t p).length) (h':i<p.kids.length),ZEA w d (ZG w t p)[i] p.kids[i]) (L:=F.f84 w t p (ZG w t p))
   (fun k hk=>by rw[F.f84,if_neg (by omega)])
   (fun k hk hq=>by
    have hk':k<p.kids.length:=by omega
    rw[F.f84,if_pos hk,gQ hk,gQ hk']
    simp only[oE,oS]
    rw[ih k hk hk']
    simp only[oS]
    rw[if_pos (ZI (hq hk hk'))])
   (fun k hk hq=>by
    have hk':k<p.kids.length:=by omega
    rw[F.f84,if_pos hk,gQ hk,gQ hk']
    simp only[oE,oS]
    rw[ih k hk hk']
    simp only[oS]
    rw[if_neg (by rw[ZF fun h=>hq fun _ _=>h];simp)]) _ 0 rfl]
  simp only[oS]
  by_cases hall:∀i,0<=i->i<(ZG w t p).length->∀(h:i<(ZG w t p).length) (h':i<p.kids.length),ZEA w d (ZG w t p)[i] p.kids[i]
  ·rw[if_pos (ZI hall)]
   simp only
   by_cases h5:p.op=5
   ·have et:=Zl ho h5
    have h0:0<p.kids.length:=by rw[hl,et];simp
    have h1:1<p.kids.length:=by rw[hl,et];simp
    have h0':0<(ZG w t p).length:=by rw[et];simp
    have h1':1<(ZG w t p).length:=by rw[et];simp
    have e0:(ZG w t p)[0]=t:=by simp[et]
    have e1:(ZG w t p)[1]=t:=by simp[et]
    have a0:=hk 0 (Nat.le_refl _) h0' h0' h0
    have a1:=hk 1 (by omega) h1' h1' h1
    have b1:=hall 1 (by omega) h1' h1' h1
    rw[e0]at a0
    rw[e1]at a1 b1
    rw[if_pos h5,gQ h0,gQ h1]
    simp only[oS]
    rw[P.YG w hw d t _ [] ht a0 (by have:=hkw 0 h0;simp;omega),P.YG w hw d t _ [] ht a1 (by have:=hkw 1 h1;simp;omega)]
    simp only[oS,List.nil_append]
    rw[P.Yy _ _ (ZC7 a1 b1)]
    simp only[oS]
    congr 1
    refine ZR ⟨fun h=>⟨hall,?_⟩,fun h=> ?_⟩
    ·rw[if_pos h5];exact fun _ _=>h
    ·have:=h.2;rw[if_pos h5]at this;exact this h0 h1
   ·rw[if_neg h5,P.YG w hw (d+1) t p [] ht hs' (by simp;omega)]
    simp only[oS,List.nil_append]
    rw[P.YW]
    simp only[oS]
    by_cases hn:ZEz (ZY w (d+1) t p)
    ·rw[if_pos (ZI hn),ZI ⟨hall,by rw[if_neg h5];exact hn⟩]
    ·rw[if_neg (by rw[ZF hn];simp),ZF fun h=>hn (by have:=h.2;rwa[if_neg h5]at this)]
  ·rw[if_neg (by rw[ZF hall];simp),ZF fun h=>hall h.1]
theorem ZGz {f:Ty×Pattern->List VarType}{x:VarType}:∀{ts:List Ty} {ks:List Pattern} {n:Nat},x∈(((ts.zip ks).take n).flatMap f)->∃i,∃(h:i<ts.length) (h':i<ks.length),x∈f (ts[i],ks[i])
 | [],ks,n,h=>by simp at h
 |t::ts,[],n,h=>by simp at h
 |t::ts,k::ks,0,h=>by simp at h
 |t::ts,k::ks,n+1,h=>by
  simp only[List.zip_cons_cons,List.take_succ_cons,List.flatMap_cons,List.mem_append]at h
  rcases h with h|h
  ·exact⟨0,by simp,by simp,by simpa using h⟩
  ·obtain⟨i,h1,h2,h3⟩:=ZGz h
   exact⟨i+1,by simpa using h1,by simpa using h2,by simpa using h3⟩
theorem ZEf {w:List Data}(hw:ZO w):∀{d:Nat} {t:Ty} {p:Pattern},Zo w t->ZV w d t p->∀x,x∈ZY w d t p->0<=x.var/\x.var<=5/\Zo w x.type
 |0,t,p,ht,hs=>hs.elim
 |d+1,t,p,ht,hs=>by
  obtain⟨ho,hl,hk⟩:=hs
  intro x hx
  rw[ZY,List.mem_append]at hx
  rcases hx with hx|hx
  ·split at hx
   ·next h=>
    simp at hx;subst hx
    unfold ZAk at ho
    refine⟨?_,?_,ht⟩<;>simp only<;>omega
   ·cases hx
  ·obtain⟨i,h,h',hm⟩:=ZGz hx
   exact ZEf hw (ZAm hw ht ho _ (gM h)) (hk i (by omega) h h h') x hm
theorem ZP4 {R:Type}{vs:List VarType}{r:R}{M:(Nat->Bool)->Nat->Option (Lo R Unit)}(hv:∀x,x∈vs->0<=x.var/\x.var<=5)
  (hM:∀s i,M s i=if i<vs.length then vs[i]? >>=fun x=>if 0<=x.var/\x.var.toNat<6 then(if s x.var.toNat=true then some (.ret r)else M (ZHo s x.var.toNat true) (i+1))else none else some (.go ())):
  ∀(m i:Nat) (s:Nat->Bool),vs.length-i=m->M s i=some (if dec (ZEz (vs.drop i)/\∀x,x∈vs.drop i->s x.var.toNat=false)=true then .go ()else .ret r):=by
 intro m
 induction m with
 |zero=>
  intro i s hm
  rw[hM,if_neg (by omega),List.drop_eq_nil_of_le (by omega),if_pos (ZI ⟨by simp[ZEz],by simp⟩)]
 |succ m ih=>
  intro i s hm
  have hi:i<vs.length:=by omega
  have hr:=hv _ (gM hi)
  rw[hM,if_pos hi,gQ hi]
  simp only[oE,oS]
  rw[if_pos (by omega),List.drop_eq_getElem_cons hi]
  by_cases h:s vs[i].var.toNat=true
  ·rw[if_pos h,if_neg]
   rw[ZF fun hh=> ?_];· simp
   have:=hh.2 vs[i] (List.mem_cons_self ..)
   rw[h]at this;cases this
  ·rw[if_neg h,ih (i+1) _ (by omega)]
   congr 2
   rw[ZR]
   have hs:s vs[i].var.toNat=false:=by simpa using h
   constructor
   ·rintro⟨h1,h2⟩
    refine⟨?_,fun x hx=> ?_⟩
    ·unfold ZEz at h1 ⊢
     rw[List.map_cons,List.nodup_cons]
     refine⟨fun hm=> ?_,h1⟩
     obtain⟨y,hy,e⟩:=List.mem_map.1 hm
     have:=h2 y hy
     rw[e]at this
     simp[ZHo]at this
    ·rcases List.mem_cons.1 hx with rfl|hx
     ·exact hs
     ·have:=h2 x hx
      unfold ZHo at this
      split at this
      ·cases this
      ·exact this
   ·rintro⟨h1,h2⟩
    unfold ZEz at h1 ⊢
    rw[List.map_cons,List.nodup_cons]at h1
    refine⟨h1.2,fun x hx=> ?_⟩
    unfold ZHo
    have hx':=hv x (List.mem_of_mem_drop hx)
    rw[if_neg fun e=>h1.1 (List.mem_map.2 ⟨x,hx,by omega⟩)]
    exact h2 x (List.mem_cons_of_mem _ hx)
abbrev ZPI (w:List Data)(d:Nat)(ts:List Ty)(ks:List Pattern)(i:Nat):Prop:=∀j,i<=j->j<ts.length->∀(h:j<ts.length) (h':j<ks.length),ZV w d ts[j] ks[j]/\ZEA w d ts[j] ks[j]
def ZB9 (w:List Data)(d:Nat)(t:Ty)(p:Pattern)(count:Nat)(vs:List VarType)(b:Bool)(c:Nat):Prop:=
 (b=true↔ZV w d t p/\ZEA w d t p/\count+(1+p.wt)<=60)/\(b=true->c=count+(1+p.wt)/\vs=ZY w d t p)
theorem P.YAT (w:List Data)(d:Nat)(hd:d+1<=10)(p:Pattern)(hp:p.wt<=1048576)(ts:List Ty)(hl:ts.length=p.kids.length)(hts:∀a,a∈ts->Zo w a)(h5:p.op≠5)
  (L:Int->List VarType->Nat->Option (Lo ((List VarType)×Bool×Int) (Int×(List VarType))))
  (hL:∀z vars i,L z vars i=if i<p.kids.length then p.kids[i]? >>=fun x=>ts[i]? >>=fun y=>F.f145 w y x (i64.wrap (((11- (d+1):Nat):Int)+1)) z>>=fun r=>if r.2.1=true then(if p.op=5 then(if i=1 then F.f141 vars r.1>>=fun b=>if b=true then L r.2.2 vars (i+1)else some (.ret ([],false,r.2.2))else(if vars.length+r.1.length<=67108864 then L r.2.2 (vars++r.1) (i+1)else none))else(if vars.length+r.1.length<=67108864 then L r.2.2 (vars++r.1) (i+1)else none))else some (.ret ([],false,r.2.2))else some (.go (z,vars)))
  (ih:∀(t:Ty) (x:Pattern) (count:Nat),Zo w t->x.wt<=1048576->count<=60->∃vs b c,F.f145 w t x ((11-d:Nat):Int) (count:Int)=some (vs,b,((c:Nat):Int))/\ZB9 w d t x count vs b c):
  ∀(m i z:Nat) (vars:List VarType),p.kids.length-i=m->z<=60->vars.length+((p.kids.drop i).map fun k=>1+k.wt).sum<=67108864->∃o,L z vars i=some o/\
   match o with
   | .ret (vs,b,c)=>b=false/\∃c':Nat,c=(c':Int)/\¬(ZPI w d ts p.kids i/\z+((p.kids.drop i).map fun k=>1+k.wt).sum<=60)
   | .go (c,vs)=>c=((z+((p.kids.drop i).map fun k=>1+k.wt).sum:Nat):Int)/\vs=vars++((ts.zip p.kids).drop i).flatMap (fun x=>ZY w d x.1 x.2)/\ZPI w d ts p.kids i/\z+((p.kids.drop i).map fun k=>1+k.wt).sum<=60:=by
 intro m
 induction m with
 |zero=>
  intro i z vars hm hz hb
  rw[hL,if_neg (by omega)]
  refine⟨_,rfl,?_⟩
  rw[List.drop_eq_nil_of_le (by omega),List.drop_eq_nil_of_le (by simp;omega)]
  exact⟨by simp,by simp,fun j h1 h2=>by omega,by simpa using hz⟩
 |succ m ihm=>
  intro i z vars hm hz hb
  have hi:i<p.kids.length:=by omega
  have hi':i<ts.length:=by omega
  have hkw:=ZAM Pattern.wt (gM hi)
  have hpw:=p.wt_eq
  rw[List.drop_eq_getElem_cons hi]at hb ⊢
  simp only[List.map_cons,List.sum_cons]at hb ⊢
  rw[hL,if_pos hi,gQ hi,gQ hi']
  simp only[oE,oS]
  rw[ZE (by omega) (by omega),show(((11- (d+1):Nat):Int)+1)=((11-d:Nat):Int)from by omega]
  obtain⟨vs,b,c,h1,h2,h3⟩:=ih ts[i] p.kids[i] z (hts _ (gM hi')) (by omega) hz
  rw[h1]
  simp only[oS]
  cases b with
  |true=>
   rw[if_pos rfl,if_neg h5]
   obtain⟨hc,hv⟩:=h3 rfl
   obtain⟨hp1,hp2,hle⟩:=h2.1 rfl
   have hvl:=ZCD w d ts[i] p.kids[i]
   rw[←hv]at hvl
   rw[if_pos (by omega)]
   obtain⟨o,g1,g2⟩:=ihm (i+1) c (vars++vs) (by omega) (by omega) (by rw[List.length_append];omega)
   refine⟨o,g1,?_⟩
   cases o with
   |ret r=>
    obtain⟨vs',b',c'⟩:=r
    obtain⟨q1,c2,q2,q3⟩:=g2
    exact⟨q1,c2,q2,fun hh=>q3 ⟨fun j a b e f=>hh.1 j (by omega) b e f,by omega⟩⟩
   |go r=>
    obtain⟨c2,vs2⟩:=r
    obtain⟨q1,q2,q3,q4⟩:=g2
    refine⟨by rw[q1];congr 1;omega,?_,fun j a b e f=> ?_,by omega⟩
    ·rw[q2,List.drop_eq_getElem_cons (l:=ts.zip p.kids) (i:=i) (by simp;omega),hv];simp
    ·by_cases hj:i=j
     ·subst hj;exact⟨hp1,hp2⟩
     ·exact q3 j (by omega) b e f
  |false=>
   rw[if_neg (by simp)]
   refine⟨_,rfl,rfl,c,rfl,fun hh=> ?_⟩
   have hk:=hh.1 i (Nat.le_refl _) hi' hi' hi
   have:=h2.2 ⟨hk.1,hk.2,by omega⟩
   cases this
theorem P.Ya (w:List Data)(hw:ZO w):∀(d:Nat) (t:Ty) (p:Pattern) (count:Nat),d<=10->Zo w t->p.wt<=1048576->count<=60->
  ∃vs b c,F.f145 w t p ((11-d:Nat):Int) (count:Int)=some (vs,b,((c:Nat):Int))/\ZB9 w d t p count vs b c
 |d,t,p,count,hd,ht,hp,hc=>by
  have e1:i64.wrap ((count:Int)+1)=((count+1:Nat):Int):=by rw[ZE (by omega) (by omega)];omega
  have no:∀(h:¬(ZV w d t p/\ZEA w d t p/\count+(1+p.wt)<=60)) (c:Nat),∃vs b c',(some (([]:List VarType),false,(c:Int)):Option (List VarType×Bool×Int))=some (vs,b,((c':Nat):Int))/\ZB9 w d t p count vs b c':=
   fun h c=>⟨[],false,c,rfl,⟨fun h=>(by cases h),fun hh=>absurd hh h⟩,fun h=>by cases h⟩
  rw[F.f145,e1]
  by_cases h60:60<((count+1:Nat):Int)
  ·rw[if_pos h60];exact no (fun h=>by omega) _
  rw[if_neg h60]
  match d,hd with
  |0,_=>
   rw[if_pos (by omega)]
   exact no (fun h=>h.1.elim) _
  |d+1,hd=>
   rw[if_neg (by omega)]
   obtain⟨ts,h1,h2⟩:=P.YAM w hw t (ZA7 ht.1) p
   rw[h1]
   simp only[oE,oS]
   by_cases hs:ZAk w t p/\p.kids.length=(ZG w t p).length
   ·rw[if_pos (ZI hs)]
    obtain⟨ho,hl⟩:=hs
    obtain rfl:=h2 ho
    have hts:=ZAm hw ht ho
    have hwt:=ZET p
    have ihx:∀(t:Ty) (x:Pattern) (count:Nat),Zo w t->x.wt<=1048576->count<=60->∃vs b c,F.f145 w t x ((11-d:Nat):Int) (count:Int)=some (vs,b,((c:Nat):Int))/\ZB9 w d t x count vs b c:=
     fun t x c ht hx hc=>P.Ya w hw d t x c (by omega) ht hx hc
    have shape_of:∀{i:Nat},ZPI w d (ZG w t p) p.kids 0->ZV w (d+1) t p:=fun h=>⟨ho,hl,fun i _ hi h1 h2=>(h i (by omega) hi h1 h2).1⟩
    by_cases h5:p.op=5
    ·rw[if_neg (by omega),if_neg (by omega)]
     have et:=Zl ho h5
     have h0:0<p.kids.length:=by rw[hl,et];simp
     have h1':1<p.kids.length:=by rw[hl,et];simp
     have hl2:p.kids.length=2:=by rw[hl,et];rfl
     have e0:(ZG w t p)[0]? =some t:=by rw[et];rfl
     have e1:(ZG w t p)[1]? =some t:=by rw[et];rfl
     have hsum:p.wt=(1+p.kids[0].wt)+(1+p.kids[1].wt):=by
      have e:p.kids=[p.kids[0],p.kids[1]]:=List.ext_getElem (by simp[hl2]) (fun i h1 h2=>by
       have:i=0∨i=1:=by omega
       rcases this with rfl|rfl<;>rfl)
      rw[hwt,List.drop_zero]
      conv=>lhs;rw[e]
      simp
     have ed:i64.wrap (((11- (d+1):Nat):Int)+1)=((11-d:Nat):Int):=by rw[ZE (by omega) (by omega)];omega
     obtain⟨v0,b0,c0,a1,a2,a3⟩:=ihx t p.kids[0] (count+1) ht (by omega) (by omega)
     have kid0:ZV w (d+1) t p->ZEA w (d+1) t p->(ZV w d t p.kids[0]/\ZEA w d t p.kids[0])/\(ZV w d t p.kids[1]/\ZEA w d t p.kids[1])/\ZF7 (ZY w d t p.kids[0]) (ZY w d t p.kids[1]):=by
      rintro⟨_,_,hk⟩ ⟨q1,q2⟩
      rw[if_pos h5]at q2
      have x0':0<(ZG w t p).length:=by rw[et];simp
      have x1':1<(ZG w t p).length:=by rw[et];simp
      have y0:(ZG w t p)[0]=t:=by simp[et]
      have y1:(ZG w t p)[1]=t:=by simp[et]
      have k0:=hk 0 (Nat.le_refl _) x0' x0' h0
      have k1:=hk 1 (by omega) x1' x1' h1'
      have l0:=q1 0 (Nat.le_refl _) x0' x0' h0
      have l1:=q1 1 (by omega) x1' x1' h1'
      rw[y0]at k0 l0
      rw[y1]at k1 l1
      exact⟨⟨k0,l0⟩,⟨k1,l1⟩,q2 h0 h1'⟩
     rw[F.f147,if_pos h0,gQ h0,e0]
     simp only[oE,oS]
     rw[ed,a1]
     simp only[oS]
     cases b0 with
     |false=>
      rw[if_neg (by simp)]
      simp only[oS]
      exact no (fun h=>by
       have:=a2.2 ⟨(kid0 h.1 h.2.1).1.1,(kid0 h.1 h.2.1).1.2,by omega⟩
       cases this) _
     |true=>
      obtain⟨hc0,rfl⟩:=a3 rfl
      obtain⟨s0,l0,z0⟩:=a2.1 rfl
      have hv0:=ZCD w d t p.kids[0]
      rw[if_pos rfl,if_pos h5,if_neg (by omega),if_pos (by simp;omega),F.f147,if_pos h1',gQ h1',e1]
      simp only[oE,oS]
      obtain⟨v1,b1,c1,g1,g2,g3⟩:=ihx t p.kids[1] c0 ht (by omega) (by omega)
      rw[ed,g1]
      simp only[oS]
      cases b1 with
      |false=>
       rw[if_neg (by simp)]
       simp only[oS]
       exact no (fun h=>by
        have:=g2.2 ⟨(kid0 h.1 h.2.1).2.1.1,(kid0 h.1 h.2.1).2.1.2,by omega⟩
        cases this) _
      |true=>
       obtain⟨hc1,rfl⟩:=g3 rfl
       obtain⟨s1,l1,z1⟩:=g2.1 rfl
       rw[if_pos rfl,if_pos h5,if_pos trivial,P.Ys]
       simp only[oS,List.nil_append]
       by_cases hsv:ZF7 (ZY w d t p.kids[0]) (ZY w d t p.kids[1])
       ·rw[if_pos (ZI hsv),F.f147,if_neg (by omega)]
        simp only[oS]
        have kk:∀i,0<=i->i<(ZG w t p).length->∀(h:i<(ZG w t p).length) (h':i<p.kids.length),ZV w d (ZG w t p)[i] p.kids[i]/\ZEA w d (ZG w t p)[i] p.kids[i]:=by
         intro i _ _ h h'
         have ei:(ZG w t p)[i]=t:=by
          have:i=0∨i=1:=by omega
          rcases this with rfl|rfl<;>simp[et]
         rw[ei]
         have:i=0∨i=1:=by omega
         rcases this with rfl|rfl
         ·exact⟨s0,l0⟩
         ·exact⟨s1,l1⟩
        have sh:ZV w (d+1) t p:=⟨ho,hl,fun i a b c e=>(kk i a b c e).1⟩
        have li:ZEA w (d+1) t p:=⟨fun i a b c e=>(kk i a b c e).2,by rw[if_pos h5];exact fun _ _=>hsv⟩
        have hnd:=ZC7 sh li
        have hvk:=ZEf hw ht sh
        rw[ZC6 ho h5 h0]at hnd hvk
        rw[ZP4 (vs:=ZY w d t p.kids[0]) (M:=F.f143 ((c1:Int),ZY w d t p.kids[0])) (r:=([],false,(c1:Int))) (fun x hx=>⟨(hvk x hx).1,(hvk x hx).2.1⟩) (fun s i=>by rw[F.f143]) _ 0 _ rfl,List.drop_zero,if_pos (ZI ⟨hnd,fun _ _=>rfl⟩)]
        exact⟨_,true,c1,rfl,⟨fun _=>⟨sh,li,by omega⟩,fun _=>rfl⟩,fun _=>⟨by omega,(ZC6 ho h5 h0).symm⟩⟩
       ·rw[if_neg (by rw[ZF hsv];simp)]
        simp only[oS]
        exact no (fun h=>hsv (kid0 h.1 h.2.1).2.2) _
    ·have kidx:ZV w (d+1) t p->ZEA w (d+1) t p->ZPI w d (ZG w t p) p.kids 0:=fun a b i hi hlt h h'=>⟨a.2.2 i hi hlt h h',b.1 i hi hlt h h'⟩
     have fin:∀(v00:List VarType) (hv00:v00.length<=1) (hv:v00=if p.op=2∨p.op=6 then[(⟨p.var,t⟩:VarType)]else[])
       (L:Int->List VarType->Nat->Option (Lo ((List VarType)×Bool×Int) (Int×(List VarType))))
       (hL:∀z vars i,L z vars i=if i<p.kids.length then p.kids[i]? >>=fun x=>(ZG w t p)[i]? >>=fun y=>F.f145 w y x (i64.wrap (((11- (d+1):Nat):Int)+1)) z>>=fun r=>if r.2.1=true then(if p.op=5 then(if i=1 then F.f141 vars r.1>>=fun b=>if b=true then L r.2.2 vars (i+1)else some (.ret ([],false,r.2.2))else(if vars.length+r.1.length<=67108864 then L r.2.2 (vars++r.1) (i+1)else none))else(if vars.length+r.1.length<=67108864 then L r.2.2 (vars++r.1) (i+1)else none))else some (.ret ([],false,r.2.2))else some (.go (z,vars)))
       (M:Int×List VarType->(Nat->Bool)->Nat->Option (Lo ((List VarType)×Bool×Int) Unit))
       (hM:∀q s i,M q s i=if i<q.2.length then q.2[i]? >>=fun x=>if 0<=x.var/\x.var.toNat<6 then(if s x.var.toNat=true then some (.ret ([],false,q.1))else M q (ZHo s x.var.toNat true) (i+1))else none else some (.go ())),
       ∃vs b c,((L ((count+1:Nat):Int) v00 0).bind fun o=>match o with
        | .ret r0=>some r0
        | .go s=>(M s (fun _=>false) 0).bind fun o=>match o with
         | .ret r0=>some r0
         | .go _=>some (s.2,true,s.1))=some (vs,b,((c:Nat):Int))/\ZB9 w (d+1) t p count vs b c:=by
      intro v00 hv00 hv L hL M hM
      obtain⟨o,g1,g2⟩:=P.YAT w d hd p hp (ZG w t p) hl.symm hts h5 L hL ihx _ 0 (count+1) v00 rfl (by omega) (by rw[←hwt];omega)
      rw[g1]
      simp only[oS]
      rw[←hwt]at g2
      cases o with
      |ret r=>
       obtain⟨vs,b,c⟩:=r
       obtain⟨rfl,c',rfl,q3⟩:=g2
       exact⟨vs,false,c',rfl,⟨fun h=>(by cases h),fun hh=>absurd ⟨kidx hh.1 hh.2.1,by have:=hh.2.2;omega⟩ q3⟩,fun h=>by cases h⟩
      |go s=>
       obtain⟨c,vs⟩:=s
       obtain⟨rfl,q2,q3,q4⟩:=g2
       have hvs:vs=ZY w (d+1) t p:=by
        rw[q2,ZY,hv,if_neg h5,List.take_of_length_le (by simp;omega)];simp
       have sh:ZV w (d+1) t p:=⟨ho,hl,fun i a b c e=>(q3 i a b c e).1⟩
       have hvk:=ZEf hw ht sh
       rw[←hvs]at hvk
       dsimp only
       rw[ZP4 (vs:=vs) (M:=M (((count+1+p.wt:Nat):Int),vs)) (r:=([],false,((count+1+p.wt:Nat):Int))) (fun x hx=>⟨(hvk x hx).1,(hvk x hx).2.1⟩) (fun s i=>by rw[hM]) _ 0 _ rfl,List.drop_zero]
       simp only[oS]
       by_cases hn:ZEz vs
       ·rw[if_pos (ZI ⟨hn,fun _ _=>by first|rfl|trivial⟩)]
        exact⟨vs,true,count+1+p.wt,rfl,⟨fun _=>⟨sh,⟨fun i a b c e=>(q3 i a b c e).2,by rw[if_neg h5,←hvs];exact hn⟩,by omega⟩,fun _=>rfl⟩,fun _=>⟨by omega,hvs⟩⟩
       ·rw[if_neg (by rw[ZF fun h=>hn h.1];simp)]
        exact no (fun h=>hn (by have:=h.2.1.2;rw[if_neg h5,←hvs]at this;exact this)) _
     by_cases h2:p.op=2
     ·rw[if_pos h2]
      exact fin [⟨p.var,t⟩] (by simp) (by rw[if_pos (.inl h2)]) (F.f148 w p ((11- (d+1):Nat):Int) (ZG w t p,dec (ZAk w t p/\p.kids.length=(ZG w t p).length))) (fun z vars i=>by rw[F.f148]) F.f144 (fun q s i=>by rw[F.f144])
     ·rw[if_neg h2]
      by_cases h6:p.op=6
      ·rw[if_pos h6]
       exact fin [⟨p.var,t⟩] (by simp) (by rw[if_pos (.inr h6)]) (F.f146 w p ((11- (d+1):Nat):Int) (ZG w t p,dec (ZAk w t p/\p.kids.length=(ZG w t p).length))) (fun z vars i=>by rw[F.f146]) F.f142 (fun q s i=>by rw[F.f142])
      ·rw[if_neg h6]
       exact fin [] (by simp) (by rw[if_neg (by omega)]) (F.f147 w p ((11- (d+1):Nat):Int) (ZG w t p,dec (ZAk w t p/\p.kids.length=(ZG w t p).length))) (fun z vars i=>by rw[F.f147]) F.f143 (fun q s i=>by rw[F.f143])
   ·rw[if_neg (by rw[ZF hs];simp)]
    exact no (fun h=>hs ⟨h.1.1,h.1.2.1⟩) _
termination_by d=>d
def ZCB (w:List Data)(t:Ty)(p:Pattern):Prop:=ZV w 10 t p/\ZEA w 10 t p/\1+p.wt<=60
theorem P.YAR (w:List Data)(hw:ZO w)(t:Ty)(ht:Zo w t)(p:Pattern)(hp:p.wt<=1048576):F.f85 w t p=some (dec (ZCB w t p)):=by
 unfold F.f85
 have e10:F.f70 w t p 10=some (dec (ZV w 10 t p)):=P.YM w hw 10 t p ht (by omega)
 rw[e10]
 simp only[oE,oS]
 by_cases h1:ZV w 10 t p
 ·rw[if_pos (ZI h1)]
  obtain⟨c,g1,g2,g3,g4,g5⟩:=P.YAU p hp 60 (by omega)
  have g1':F.f72 p 60=some (c:Int):=g1
  rw[g1']
  simp only[oS]
  by_cases hc:1+p.wt<=60
  ·rw[if_pos (by have:=g4 hc;omega),P.YQ w hw 10 t p ht h1 hp]
   simp only[oS]
   congr 1;exact ZR ⟨fun h=>⟨h1,h,hc⟩,fun h=>h.2.1⟩
  ·rw[if_neg (by have:=g5 (by omega);omega),ZF fun h=>hc h.2.2]
 ·rw[if_neg (by rw[ZF h1];simp),ZF fun h=>h1 h.1]
theorem P.YX (w:List Data)(hw:ZO w)(t:Ty)(ht:Zo w t)(p:Pattern)(hp:p.wt<=1048576):∃vs,F.f149 w t p=some (vs,dec (ZCB w t p))/\(ZCB w t p->vs=ZY w 10 t p):=by
 unfold F.f149
 obtain⟨vs,b,c,g1,g2,g3⟩:=P.Ya w hw 10 t p 0 (by omega) ht hp (by omega)
 have g1':F.f145 w t p 1 0=some (vs,b,(c:Int)):=g1
 rw[g1']
 simp only[oE,oS]
 have hb:b=dec (ZCB w t p):=by
  cases b with
  |true=>rw[ZI];obtain⟨a,b,c⟩:=g2.1 rfl;exact⟨a,b,by omega⟩
  |false=>rw[ZF];intro h;have:=g2.2 ⟨h.1,h.2.1,by have:=h.2.2;omega⟩;cases this
 subst hb
 exact⟨vs,rfl,fun h=>(g3 (ZI h)).2⟩
def ZP6 (v:Int):Nat->Pattern->Prop
 |0,_=>False
 |d+1,p=>(∃i,∃h:i<p.kids.length,ZP6 v d p.kids[i])∨((p.op=2∨p.op=6)/\p.var=v)
theorem ZG7 :∀{a b:List Int},a.Nodup->(∀x,x∈a->x∈b)->b.length<=a.length->∀x,x∈b->x∈a
 | [],b,_,_,hl=>fun x hx=>by
  have:b=[]:=List.length_eq_zero_iff.1 (by simpa using hl)
  rw[this]at hx;cases hx
 |y::a,b,hn,hs,hl=>fun x hx=>by
  rw[List.nodup_cons]at hn
  have hy:=hs y (List.mem_cons_self ..)
  by_cases e:x=y
  ·rw[e];exact List.mem_cons_self ..
  ·refine List.mem_cons_of_mem _ (ZG7 (a:=a) (b:=b.erase y) hn.2 (fun z hz=> ?_) ?_ x ((List.mem_erase_of_ne e).2 hx))
   ·exact(List.mem_erase_of_ne fun(e:z=y)=>hn.1 (by rw[←e];exact hz)).2 (hs z (List.mem_cons_of_mem _ hz))
   ·rw[List.length_erase_of_mem hy];simp at hl;omega
theorem ZHv {a b:List VarType}(hn:ZEz a)(h:ZF7 a b){v:Int}(hv:∃x,x∈b/\x.var=v):∃x,x∈a/\x.var=v:=by
 obtain⟨x,hx,e⟩:=hv
 have:=ZG7 (a:=a.map VarType.var) (b:=b.map VarType.var) hn (fun y hy=>by obtain⟨z,hz,e⟩:=List.mem_map.1 hy;exact List.mem_map.2 ⟨z,h.2 z hz,e⟩) (by simp[h.1]) v (List.mem_map.2 ⟨x,hx,e⟩)
 obtain⟨z,hz,e⟩:=List.mem_map.1 this
 exact⟨z,hz,e⟩
theorem ZBy (a b c d e:Int):(⟨a,b,c,d,e,[]⟩:Pattern).wt=0:=by rw[Pattern.wt_eq];rfl
theorem ZNp (a b c d e:Int)(k:Pattern):(⟨a,b,c,d,e,[k]⟩:Pattern).wt=1+k.wt:=by rw[Pattern.wt_eq];simp
theorem ZNo (a b c d e:Int)(k l:Pattern):(⟨a,b,c,d,e,[k,l]⟩:Pattern).wt=2+k.wt+l.wt:=by rw[Pattern.wt_eq];simp;omega
theorem ZIu {α:Type}(f:α->Nat):∀(l:List α) (i:Nat) (h:i<l.length) (x:α),wtL f (l.set i x)+f l[i]=wtL f l+f x
 |a::l,0,h,x=>by simp;omega
 |a::l,i+1,h,x=>by
  have:=ZIu f l i (by simpa using h) x
  simp;omega
theorem P.Ym (w:List Data)(hw:ZO w)(t:Ty)(ht:Zo w t)(p:Pattern)(hp:p.wt<=1048576):F.f150 w t p=some (dec (ZCB w t p)):=by
 unfold F.f150
 obtain⟨vs,h1,_⟩:=P.YX w hw t ht p hp
 rw[h1];rfl
def hv (d:Nat)(p:Pattern):Prop:=∃v,ZP6 v d p
def vb :Nat->Pattern->Prop
 |0,_=>False
 |d+1,p=>(∀i (h:i<p.kids.length),vb d p.kids[i])/\(p.op=5->∀i j (hi:i<p.kids.length) (hj:j<p.kids.length),hv d p.kids[i]->hv d p.kids[j])
theorem ZD4 {w:List Data}:∀{d:Nat} {t:Ty} {p:Pattern},ZV w d t p->ZV w (d+1) t p
 |d+1,t,p,h=>⟨h.1,h.2.1,fun i h0 hi h1 h2=>ZD4 (h.2.2 i h0 hi h1 h2)⟩
def ZPN :Pattern:=⟨1,0,0,0,0,[]⟩
theorem ZIG {w:List Data}(d:Nat){t:Ty}{p:Pattern}(ho:ZAk w t p)(hp:p.op=1∨p.op=2∨p.op=3)(hk:p.kids=[]):ZV w (d+1) t p/\vb (d+1) p/\p.wt=0:=by
 have e:ZG w t p=[]:=by unfold ZG;rw[if_neg (by omega),if_neg (by omega),if_neg (by omega)]
 refine⟨⟨ho,by rw[e,hk];rfl,fun i _ hi=>(by rw[e]at hi;cases hi)⟩,⟨fun i hi=>(by rw[hk]at hi;simp at hi),fun _ i j hi=>(by rw[hk]at hi;simp at hi)⟩,by rw[Pattern.wt_eq,hk];rfl⟩
theorem ZKJ {w:List Data}(d:Nat){t:Ty}:ZV w (d+1) t ZPN/\vb (d+1) ZPN/\ZPN.wt=0:=ZIG d (.inl ⟨rfl,rfl,rfl,rfl,rfl⟩) (.inl rfl) rfl
theorem ZK6 {α:Type}{l:List α}(h:l.length=1):l=[l[0]'(by omega)]:=by
 match l,h with
 | [x],_=>rfl
theorem P.Yl {w:List Data}{d e:Nat}{as:List Ty}{depth x:Int}(hd:i64.wrap (depth-1)=(d:Int))
  (ih:∀a,a∈as->∀K r,rok K r->K+e<=1099511627776->∃p r',F.f59 r w a (d:Int)=some (p,r')/\rok (K+e) r'/\p.wt+1<=e):
  ∀(k K:Nat) (z:List Int) (z32:Int) (out:List Pattern),k<=as.length->rok K ⟨z,z32⟩->K+k*e<=1099511627776->out.length+k<=67108864->
   ∃z' z32' out',F.f60 w depth x as z z32 out (as.length-k)=some (z',z32',out')/\rok (K+k*e) ⟨z',z32'⟩/\wtL Pattern.wt out'<=wtL Pattern.wt out+k*e
 |0,K,z,z32,out,hk,hr,hK,ho=>by
  rw[F.f60,if_neg (by omega)]
  exact⟨z,z32,out,rfl,hr.mono (by omega),by omega⟩
 |k+1,K,z,z32,out,hk,hr,hK,ho=>by
  have hi:as.length- (k+1)<as.length:=by omega
  rw[Nat.add_mul,Nat.one_mul]at hK
  obtain⟨p,r1,e1,h1,h2⟩:=ih _ (gM hi) K ⟨z,z32⟩ hr (by omega)
  obtain⟨z',z32',out',f1,f2,f3⟩:=P.Yl hd ih k (K+e) r1.f0 r1.f1 (out++[p]) (by omega) h1 (by omega) (by simp;omega)
  rw[F.f60,if_pos hi,gQ hi]
  simp only[oE,oS]
  rw[hd,e1]
  simp only[oS]
  rw[if_pos (by omega)]
  have ei:as.length- (k+1)+1=as.length-k:=by omega
  rw[ei]
  refine⟨z',z32',out',f1,f2.mono (by rw[Nat.add_mul];omega),?_⟩
  have:wtL Pattern.wt (out++[p])=wtL Pattern.wt out+(1+p.wt):=by simp[wtL];omega
  rw[Nat.add_mul];omega
theorem P.YAX {w:List Data}(hw:ZO w):∀(d:Nat) (t:Ty) (K:Nat) (r:ZB),Zo w t->d<=12->rok K r->K+5^d<=1099511627776->
  ∃p r',F.f59 r w t (d:Int)=some (p,r')/\rok (K+5^d) r'/\p.wt+1<=5^d
 |0,t,K,r,ht,hd,hr,hK=>by
  rw[F.f59,if_pos (by omega)]
  exact⟨_,_,rfl,hr.mono (by omega),by rw[ZBy];simp⟩
 |1,t,K,r,ht,hd,hr,hK=>by
  rw[F.f59,if_pos (by omega)]
  exact⟨_,_,rfl,hr.mono (by omega),by rw[ZBy];simp⟩
 |d+2,t,K,r,ht,hd,hr,hK=>by
  have hpos:1<=5^d:=Nat.pow_pos (show 0<5 by omega)
  have e25:5^ (d+2)=25*5^d:=by rw[Nat.pow_succ,Nat.pow_succ];omega
  have e7:5^ (d+1)=5*5^d:=by rw[Nat.pow_succ];omega
  have hwr:i64.wrap (((d+2:Nat):Int) -1)=((d+1:Nat):Int):=by rw[ZE (by omega) (by omega)];omega
  have ih:=fun(a:Ty) (ha:Zo w a) (K:Nat) (r:ZB) hr hK=>P.YAX hw (d+1) a K r ha (by omega) hr hK
  rw[e25]at hK ⊢
  rw[e7]at ih
  generalize 5^d=q at hpos hK ih ⊢
  rw[F.f59,if_neg (by omega)]
  obtain⟨v1,r1,e1,h1,a1,b1,_⟩:=P.YJ hr (by omega) 4
  rw[e1]
  simp only[oE,oS]
  split
  ·exact⟨_,_,rfl,h1.mono (by omega),by rw[ZBy];omega⟩
  obtain⟨v2,r2,e2,h2,a2,b2,_⟩:=P.YJ h1 (by omega) 6
  rw[e2]
  simp only[oS]
  split
  ·rw[hwr]
   obtain⟨p1,r3,e3,h3,w3⟩:=ih t ht _ r2 h2 (by omega)
   obtain⟨p2,r4,e4,h4,w4⟩:=ih t ht _ r3 h3 (by omega)
   rw[e3]
   simp only[oS]
   rw[e4]
   exact⟨_,_,rfl,h4.mono (by omega),by rw[ZNo];show 2+p1.wt+p2.wt+1<=_;omega⟩
  ·split
   ·obtain⟨v3,r3,e3,h3,a3,b3,_⟩:=P.YJ h2 (by omega) 10
    obtain⟨v4,r4,e4,h4,a4,b4,_⟩:=P.YJ h3 (by omega) (i64.wrap (10-v3))
    obtain⟨v5,r5,e5,h5,a5,b5,_⟩:=P.YJ h4 (by omega) 2
    rw[e3]
    simp only[oS]
    rw[e4]
    simp only[oS]
    rw[e5]
    exact⟨_,_,rfl,h5.mono (by omega),by rw[ZBy];omega⟩
   ·next hn=>
    rw[P.YO w hw t (ZA7 ht.1)]
    simp only[oS]
    split
    ·exact⟨_,_,rfl,h2.mono (by omega),by rw[ZBy];omega⟩
    ·next hl=>
     obtain⟨v3,r3,e3,h3,a3,b3,_⟩:=P.YJ h2 (by omega) ((ZN w t).length:Int)
     have b3:=b3 (by omega)
     obtain⟨c,hc,hm⟩:=ZEN a3 b3
     rw[e3]
     simp only[oS]
     rw[hc]
     simp only[oS]
     rw[P.YH w hw t (ZA7 ht.1) c hm]
     simp only[oS]
     have hal:(ZK w t c).length<=3:=by
      have:=(Zi hw (ZA7 ht.1) (ZT hm).1).2 _ (ZBG hm).2
      unfold ZK;rw[List.length_map];exact this.2.1
     have hmul:(ZK w t c).length*(5*q)<=3*(5*q):=Nat.mul_le_mul_right _ hal
     obtain⟨z',z32',out',f1,f2,f3⟩:=P.Yl (x:=c) hwr (fun a ha K r hr hK=>ih a (ZEP hw ht hm a ha) K r hr hK) (ZK w t c).length _ r3.f0 r3.f1 [] (Nat.le_refl _) h3 (by omega) (by simp;omega)
     rw[Nat.sub_self]at f1
     rw[f1]
     refine⟨_,_,rfl,f2.mono (by omega),?_⟩
     rw[Pattern.wt_eq]
     simp at f3
     show wtL Pattern.wt out'+1<=_
     omega
end Go.Vl
