/- A part of the proof. -/
import Derived.Test.YtinfmpljhapfgaaGreatDoorVlQ
import Derived.Test.YtinfmpljhapfgaaGreatDoorClausesPrefixE
set_option linter.all false
set_option maxRecDepth 100000
namespace Go.Vl
open Go Go.RowKit
open Go.IntKind (i64)
theorem oS {α β:Type}{a:α}{f:α->Option β}:(some a).bind f=f a:=rfl
theorem oE {α β:Type}:(bind:Option α->(α->Option β)->Option β)=Option.bind:=rfl
theorem gQ {α:Type}{l:List α}{i:Nat}(h:i<l.length):l[i]? =some l[i]:=List.getElem?_eq_getElem h
theorem gM {α:Type}{l:List α}{n:Nat}(h:n<l.length):l[n]∈l:=List.getElem_mem h
noncomputable def ZF3 {α:Type}(p:α->Prop):Nat->List α->Option Nat
 |_,[]=>none
 |k,x::r=>if dec (p x)=true then some k else ZF3 p (k+1) r
theorem ZAu {α:Type}{p:α->Prop}:∀{l:List α} {k j:Nat},ZF3 p k l=some j->k<=j/\∃h:j-k<l.length,p l[j-k]/\∀i (hi:i<l.length),i<j-k->¬p l[i]
 |x::r,k,j,h=>by
  simp only[ZF3]at h
  split at h
  ·next hp=>
   obtain rfl:=Option.some.inj h
   refine⟨Nat.le_refl _,by simp,?_,fun i _ hi=>by omega⟩
   simpa using ZDV.1 hp
  ·next hp=>
   obtain⟨h1,h2,h3,h4⟩:=ZAu h
   have e:j-k=(j- (k+1))+1:=by omega
   refine⟨by omega,by simp;omega,?_,fun i hi hlt=> ?_⟩
   ·simp only[e,List.getElem_cons_succ];exact h3
   ·cases i with
    |zero=>exact fun hq=>hp (ZG hq)
    |succ i=>exact h4 i (by simpa using hi) (by omega)
theorem ZAv {α:Type}{p:α->Prop}:∀{l:List α} {k:Nat},ZF3 p k l=none->∀x,x∈l->¬p x
 | [],_,_=>fun x hx=>by cases hx
 |x::r,k,h=>by
  simp only[ZF3]at h
  split at h
  ·cases h
  ·next hp=>
   intro y hy
   rcases List.mem_cons.1 hy with rfl|hy
   ·exact fun hq=>hp (ZG hq)
   ·exact ZAv h y hy
theorem ZLB {α:Type}{a:List α}{p:α->Prop}{L:Nat->Option (Lo Int Unit)}(h0:∀k,a.length<=k->L k=some (.go ()))(h1:∀k (h:k<a.length),¬p a[k]->L k=L (k+1))
  (h2:∀k (h:k<a.length),p a[k]->L k=some (.ret (k:Int))):∀(m k:Nat),a.length-k=m->L k=some (match ZF3 p k (a.drop k)with|some j=>.ret (j:Int)|none=>.go ()):=by
 intro m
 induction m with
 |zero=>intro k hm;rw[h0 k (by omega),List.drop_eq_nil_of_le (by omega)];rfl
 |succ m ih=>
  intro k hm
  have hk:k<a.length:=by omega
  rw[List.drop_eq_getElem_cons hk]
  by_cases hp:p a[k]
  ·rw[h2 k hk hp];simp only[ZF3];rw[if_pos (ZG hp)]
  ·rw[h1 k hk hp,ih (k+1) (by omega)];simp only[ZF3];rw[if_neg (by rw[ZE hp];simp)]
def ZNb (c:Nat):Prop:=65<=c/\c<=90
def ZEs (s:ByteArray):Prop:=s.size=1/\ZNb (byteAt s 0)/\s≠⟨#[73]⟩
def ZFQ (s:ByteArray):Prop:=1<=s.size/\s.size<=5/\ZNb (byteAt s 0)/\∀i,1<=i->i<s.size->97<=byteAt s i/\byteAt s i<=122
def ZBZ (n:Nat)(t:Ty):Prop:=(t.data= -1/\t.index=0)∨(0<=t.data/\t.data<n/\-1<=t.index/\t.index<=3)
def ZEI (n:Nat)(c:Ctor):Prop:=ZFQ c.name/\c.args.length<=3/\0<=c.index/\c.index<=3/\∀j,0<=j->(h:j<c.args.length)->ZBZ n c.args[j]
theorem P.Ye (c:Nat):F.f11 c=some (dec (ZNb c)):=by
 unfold F.f11
 by_cases h:65<=(c:Int)
 ·rw[if_pos h];congr 1;rw[←ZAH];exact ZL ⟨fun h'=>⟨by omega,by omega⟩,fun h'=>by have:=h'.2;omega⟩
 ·rw[if_neg h,ZE fun h'=>h (by have:=h'.1;omega)]
theorem P.YAI (s:ByteArray):F.f12 s=some (dec (ZEs s)):=by
 unfold F.f12
 by_cases h:s.size=1
 ·rw[if_pos h,if_pos (by omega),P.Ye]
  simp only[oE,oS]
  by_cases hb:ZNb (byteAt s 0)
  ·rw[if_pos (ZG hb)];congr 1;rw[←ZAH];exact ZL ⟨fun h'=>⟨h,hb,fun e=>h' (by rw[e])⟩,fun h' e=>h'.2.2 (ZAR.1 e)⟩
  ·rw[if_neg (by rw[ZE hb];simp),ZE fun h'=>hb h'.2.1]
 ·rw[if_neg h,ZE fun h'=>h h'.1]
theorem P.Yx (s:ByteArray)(hs:s.size<=1048576):F.f13 s 1=some (if dec (∀i,1<=i->i<s.size->97<=byteAt s i/\byteAt s i<=122)=true then .go ()else .ret false):=by
 refine ZIn (L:=F.f13 s) (fun k hk=> ?_) (fun k hk hq=> ?_) (fun k hk hq=> ?_) _ 1 rfl
 ·rw[F.f13,if_neg (by omega)]
 ·rw[F.f13,if_pos hk,if_neg (by omega),if_neg (by omega),if_pos (by omega)]
 ·rw[F.f13,if_pos hk]
  by_cases h:byteAt s k<97
  ·rw[if_pos h]
  ·rw[if_neg h,if_pos (by omega)]
theorem P.YAB (s:ByteArray)(hs:s.size<=1048576):F.f102 s 1=some (if dec (∀i,1<=i->i<s.size->97<=byteAt s i/\byteAt s i<=122)=true then .go ()else .ret false):=by
 refine ZIn (L:=F.f102 s) (fun k hk=> ?_) (fun k hk hq=> ?_) (fun k hk hq=> ?_) _ 1 rfl
 ·rw[F.f102,if_neg (by omega)]
 ·rw[F.f102,if_pos hk,if_neg (by omega),if_neg (by omega),if_pos (by omega)]
 ·rw[F.f102,if_pos hk]
  by_cases h:byteAt s k<97
  ·rw[if_pos h]
  ·rw[if_neg h,if_pos (by omega)]
theorem P.Yg (s:ByteArray)(hs:s.size<=1048576):F.f14 s=some (dec (ZFQ s)):=by
 unfold F.f14
 by_cases h0:s.size=0
 ·rw[if_pos h0,ZE fun h=>by have:=h.1;omega]
 by_cases h5:5<s.size
 ·rw[if_neg h0,if_pos h5,ZE fun h=>by have:=h.2.1;omega]
 rw[if_neg h0,if_neg h5,if_pos (by omega),P.Ye]
 simp only[oE,oS]
 by_cases hb:ZNb (byteAt s 0)
 ·rw[if_pos (ZG hb),P.Yx s hs]
  simp only[oS]
  by_cases hall:∀i,1<=i->i<s.size->97<=byteAt s i/\byteAt s i<=122
  ·rw[if_pos (ZG hall),ZG ⟨by omega,by omega,hb,hall⟩]
  ·rw[if_neg (by rw[ZE hall];simp),ZE fun h=>hall h.2.2.2]
 ·rw[if_neg (by rw[ZE hb];simp),ZE fun h=>hb h.2.2.1]
theorem P.YG (n low high:Int):F.f101 n low high=some (dec (low<=n/\n<=high)):=by
 unfold F.f101
 by_cases h:low<=n
 ·rw[if_pos h];congr 1;rw[←ZAH];exact ZL ⟨fun h'=>⟨h,h'⟩,fun h'=>h'.2⟩
 ·rw[if_neg h,ZE fun h'=>h h'.1]
theorem P.Ym (s:ByteArray)(hs:s.size<=1048576):F.f103 s=some (dec (ZFQ s)):=by
 unfold F.f103
 rw[P.YG]
 simp only[oE,oS]
 by_cases h0:1<=(s.size:Int)/\(s.size:Int)<=5
 ·rw[if_pos (ZG h0),if_pos (by omega)]
  by_cases a1:byteAt s 0<65
  ·rw[if_pos a1,ZE fun h=>by have:=h.2.2.1.1;omega]
  by_cases a2:90<byteAt s 0
  ·rw[if_neg a1,if_pos a2,ZE fun h=>by have:=h.2.2.1.2;omega]
  rw[if_neg a1,if_neg a2,P.YAB s hs]
  simp only[oS]
  by_cases hall:∀i,1<=i->i<s.size->97<=byteAt s i/\byteAt s i<=122
  ·rw[if_pos (ZG hall),ZG ⟨by omega,by omega,⟨by omega,by omega⟩,hall⟩]
  ·rw[if_neg (by rw[ZE hall];simp),ZE fun h=>hall h.2.2.2]
 ·rw[if_neg (by rw[ZE h0];simp),ZE fun h=>h0 ⟨by have:=h.1;omega,by have:=h.2.1;omega⟩]
theorem P.YR (n:Nat)(t:Ty):F.f15 n t=some (dec (ZBZ n t)):=by
 unfold F.f15
 by_cases h:t.data= -1
 ·rw[if_pos h];congr 1;rw[←ZAH];exact ZL ⟨fun h'=>.inl ⟨h,h'⟩,fun h'=>h'.elim (·.2) (fun h'=>by have:=h'.1;omega)⟩
 rw[if_neg h]
 by_cases h1:0<=t.data
 ·by_cases h2:t.data<n
  ·by_cases h3: -1<=t.index
   ·rw[if_pos h1,if_pos h2,if_pos h3];congr 1;rw[←ZAH];exact ZL ⟨fun h'=>.inr ⟨h1,h2,h3,h'⟩,fun h'=>h'.elim (fun h'=>absurd h'.1 h) (fun h'=>h'.2.2.2)⟩
   ·rw[if_pos h1,if_pos h2,if_neg h3,ZE fun h'=>h'.elim (fun h'=>h h'.1) (fun h'=>h3 h'.2.2.1)]
  ·rw[if_pos h1,if_neg h2,ZE fun h'=>h'.elim (fun h'=>h h'.1) (fun h'=>h2 h'.2.1)]
 ·rw[if_neg h1,ZE fun h'=>h'.elim (fun h'=>h h'.1) (fun h'=>h1 h'.1)]
theorem P.YAO (w:List Data)(t:Ty)(hw:w.length<=1048576):F.f104 w t=some (dec (ZBZ w.length t)):=by
 unfold F.f104
 by_cases h:eq2 (t.data,t.index) (-1,0)
 ·rw[if_pos (ZG h),ZG (.inl h)]
 rw[if_neg (by rw[ZE h];simp),P.YG,ZF (by omega) (by omega)]
 simp only[oE,oS]
 by_cases h1:0<=t.data/\t.data<=(w.length:Int) -1
 ·rw[if_pos (ZG h1),P.YG]
  simp only[oS]
  congr 1;exact ZL ⟨fun h'=>.inr ⟨h1.1,by omega,h'.1,h'.2⟩,fun h'=>h'.elim (fun h'=>absurd h' h) (fun h'=>h'.2.2)⟩
 ·rw[if_neg (by rw[ZE h1];simp),ZE fun h'=>h'.elim (fun h'=>h h') (fun h'=>h1 ⟨h'.1,by have:=h'.2.1;omega⟩)]
theorem P.YY (n:Nat)(c:Ctor)(hs:c.name.size<=1048576):F.f17 n c=some (dec (ZEI n c)):=by
 unfold F.f17
 rw[P.Yg _ hs]
 simp only[oE,oS]
 by_cases h1:ZFQ c.name
 ·rw[if_pos (ZG h1)]
  by_cases h2:3<c.args.length
  ·rw[if_pos h2,ZE fun h=>by have:=h.2.1;omega]
  by_cases h3:c.index<0
  ·rw[if_neg h2,if_pos h3,ZE fun h=>by have:=h.2.2.1;omega]
  by_cases h4:3<c.index
  ·rw[if_neg h2,if_neg h3,if_pos h4,ZE fun h=>by have:=h.2.2.2.1;omega]
  rw[if_neg h2,if_neg h3,if_neg h4]
  have key:F.f16 n c 0=some (if dec (∀j,0<=j->j<c.args.length->∀h:j<c.args.length,ZBZ n c.args[j])=true then .go ()else .ret false):=by
   refine ZIn (n:=c.args.length) (Q:=fun j=>∀h:j<c.args.length,ZBZ n c.args[j]) (L:=F.f16 n c) (fun k hk=> ?_) (fun k hk hq=> ?_) (fun k hk hq=> ?_) _ 0 rfl
   ·rw[F.f16,if_neg (by omega)]
   ·rw[F.f16,if_pos hk,gQ hk]
    simp only[oE,oS]
    rw[P.YR]
    simp only[oS]
    rw[if_pos (ZG (hq hk))]
   ·rw[F.f16,if_pos hk,gQ hk]
    simp only[oE,oS]
    rw[P.YR]
    simp only[oS]
    rw[if_neg (by rw[ZE fun h=>hq fun _=>h];simp)]
  rw[key]
  simp only[oS]
  by_cases hall:∀j,0<=j->j<c.args.length->∀h:j<c.args.length,ZBZ n c.args[j]
  ·rw[if_pos (ZG hall),ZG ⟨h1,by omega,by omega,by omega,fun j h0 hj=>hall j h0 hj hj⟩]
  ·rw[if_neg (by rw[ZE hall];simp),ZE fun h=>hall fun j h0 _ hj=>h.2.2.2.2 j h0 hj]
 ·rw[if_neg (by rw[ZE h1];simp),ZE fun h=>h1 h.1]
theorem P.Yt (t:Ty)(w:List Data)(hw:w.length<=1048576):F.f105 t w=some (!dec (ZBZ w.length t)):=by
 unfold F.f105
 rw[P.YAO w t hw];rfl
theorem P.YAP (w:List Data)(hw:w.length<=1048576)(s:List Ty):∃v,F.f107 s w=some v/\(0<=v↔¬∀j,0<=j->(h:j<s.length)->ZBZ w.length s[j]):=by
 unfold F.f107
 have key:∀(m k:Nat),s.length-k=m->∃r,F.f106 s w k=some r/\
   match r with| .ret j=>0<=j/\¬∀j,k<=j->(h:j<s.length)->ZBZ w.length s[j]| .go _=>∀j,k<=j->(h:j<s.length)->ZBZ w.length s[j]:=by
  intro m
  induction m with
  |zero=>
   intro k hm
   rw[F.f106,if_neg (by omega)]
   exact⟨_,rfl,fun j hj h=>by omega⟩
  |succ m ih=>
   intro k hm
   have hk:k<s.length:=by omega
   rw[F.f106,if_pos hk,gQ hk]
   simp only[oE,oS]
   rw[P.Yt _ _ hw]
   simp only[oS]
   by_cases h:ZBZ w.length s[k]
   ·rw[if_neg (by rw[ZG h];simp)]
    obtain⟨r,hr,hx⟩:=ih (k+1) (by omega)
    refine⟨r,hr,?_⟩
    cases r with
    |ret j=>exact⟨hx.1,fun hh=>hx.2 fun j hj hl=>hh j (by omega) hl⟩
    |go _=>
     intro j hj hl
     by_cases e:k=j
     ·subst e;exact h
     ·exact hx j (by omega) hl
   ·rw[if_pos (by rw[ZE h];simp)]
    exact⟨_,rfl,by omega,fun hh=>h (hh k (Nat.le_refl _) hk)⟩
 obtain⟨r,hr,hx⟩:=key _ 0 rfl
 rw[hr]
 cases r with
 |ret j=>exact⟨j,rfl,fun _=>hx.2,fun _=>hx.1⟩
 |go _=>exact⟨-1,rfl,fun h=>by omega,fun h=>absurd hx h⟩
theorem P.Ya (w:List Data)(c:Ctor)(hw:w.length<=1048576)(hs:c.name.size<=1048576):F.f109 w c=some (dec (ZEI w.length c)):=by
 unfold F.f109
 rw[P.Ym _ hs]
 simp only[oE,oS]
 by_cases h1:ZFQ c.name
 ·rw[if_pos (ZG h1)]
  by_cases h2:c.args.length<=3
  ·rw[if_pos h2,P.YG]
   simp only[oS]
   by_cases h3:0<=c.index/\c.index<=3
   ·rw[if_pos (ZG h3)]
    unfold F.f108
    obtain⟨v,hv,hx⟩:=P.YAP w hw c.args
    rw[hv]
    simp only[oE,oS]
    by_cases hall:∀j,0<=j->(h:j<c.args.length)->ZBZ w.length c.args[j]
    ·have:¬0<=v:=fun h=>(hx.1 h) hall
     rw[ZG ⟨h1,h2,h3.1,h3.2,hall⟩];simp[this]
    ·have:0<=v:=hx.2 hall
     rw[ZE fun h=>hall h.2.2.2.2];simp[this]
   ·rw[if_neg (by rw[ZE h3];simp),ZE fun h=>h3 ⟨h.2.2.1,h.2.2.2.1⟩]
  ·rw[if_neg h2,ZE fun h=>h2 h.2.1]
 ·rw[if_neg (by rw[ZE h1];simp),ZE fun h=>h1 h.1]
abbrev ZAE (d:Data):List ByteArray:=d.ctors.map (·.name)
structure ctorAt (w:List Data)(i:Nat)(d:Data)(k:Nat)(c:Ctor):Prop where
 ok:ZEI w.length c
 new:c.name∉(w.take i).flatMap ZAE++(d.ctors.take k).map (·.name)
structure dataAt (w:List Data)(i:Nat)(d:Data):Prop where
 name:ZEs d.name
 new:d.name∉(w.take i).map (·.name)
 some:1<=d.ctors.length
 few:d.ctors.length<=4
 ctors:∀k,0<=k->k<d.ctors.length->∀h:k<d.ctors.length,ctorAt w i d k d.ctors[k]
def ZN (w:List Data):Prop:=w.length<=4/\∀i,0<=i->i<w.length->∀h:i<w.length,dataAt w i w[i]
def Zu (w:List Data):Prop:=w.length<=1048576/\∀d,d∈w->∀c,c∈d.ctors->c.name.size<=1048576
theorem P.YQ (w:List Data)(hw:Zu w)(met4:List ByteArray)(i:Nat)(hi:i<w.length):F.f110 w met4 i w[i] ((w.take i).flatMap ZAE) 0=
  some (if dec (∀k,0<=k->k<w[i].ctors.length->∀h:k<w[i].ctors.length,ctorAt w i w[i] k w[i].ctors[k])=true then .go ((w.take i).flatMap ZAE++ZAE w[i])else .ret false):=by
 have key:=ZQG (n:=w[i].ctors.length) (r:=false) (p:=(w.take i).flatMap ZAE++ZAE w[i]) (Q:=fun k=>∀h:k<w[i].ctors.length,ctorAt w i w[i] k w[i].ctors[k]) (L:=fun k=>F.f110 w met4 i w[i] ((w.take i).flatMap ZAE++(w[i].ctors.take k).map (·.name)) k)
  (fun k hk=>by
   show F.f110 w met4 i w[i] ((w.take i).flatMap ZAE++(w[i].ctors.take k).map (·.name)) k=_
   rw[F.f110,if_neg (by omega),List.take_of_length_le hk])
  (fun k hk hq=>by
   show F.f110 w met4 i w[i] ((w.take i).flatMap ZAE++(w[i].ctors.take k).map (·.name)) k=F.f110 w met4 i w[i] ((w.take i).flatMap ZAE++(w[i].ctors.take (k+1)).map (·.name)) (k+1)
   have hc:=hq hk
   rw[F.f110,if_pos hk,gQ hk]
   simp only[oE,oS]
   rw[P.Ya w _ hw.1 (hw.2 _ (gM hi) _ (gM hk))]
   simp only[oS]
   rw[if_pos (ZG hc.ok),if_neg (by rw[ZE hc.new];simp),ZCA,if_neg (by rw[ZE hc.new];simp),ZB0 hk,List.append_assoc])
  (fun k hk hq=>by
   show F.f110 w met4 i w[i] ((w.take i).flatMap ZAE++(w[i].ctors.take k).map (·.name)) k=_
   rw[F.f110,if_pos hk,gQ hk]
   simp only[oE,oS]
   rw[P.Ya w _ hw.1 (hw.2 _ (gM hi) _ (gM hk))]
   simp only[oS]
   by_cases h1:ZEI w.length w[i].ctors[k]
   ·rw[if_pos (ZG h1),if_pos (ZG ?_)]
    apply Classical.byContradiction
    intro h2
    exact hq fun _=>⟨h1,h2⟩
   ·rw[if_neg (by rw[ZE h1];simp)]) _ 0 rfl
 simpa using key
theorem P.Yq (w:List Data)(hw:Zu w):F.f111 w [] [] 0=some (if dec (∀i,0<=i->i<w.length->∀h:i<w.length,dataAt w i w[i])=true then .go (w.flatMap ZAE,w.map (·.name))else .ret false):=by
 have key:=ZQG (n:=w.length) (r:=false) (p:=(w.flatMap ZAE,w.map (·.name))) (Q:=fun i=>∀h:i<w.length,dataAt w i w[i]) (L:=fun i=>F.f111 w ((w.take i).flatMap ZAE) ((w.take i).map (·.name)) i)
  (fun i hi=>by
   show F.f111 w ((w.take i).flatMap ZAE) ((w.take i).map (·.name)) i=_
   rw[F.f111,if_neg (by omega),List.take_of_length_le hi])
  (fun i hi hq=>by
   show F.f111 w ((w.take i).flatMap ZAE) ((w.take i).map (·.name)) i=F.f111 w ((w.take (i+1)).flatMap ZAE) ((w.take (i+1)).map (·.name)) (i+1)
   have hd:=hq hi
   have hn:=hd.name
   have hbig:=hn.2.1
   unfold ZNb at hbig
   have:=hw.1
   rw[F.f111,if_pos hi,gQ hi]
   simp only[oE,oS]
   have:=hd.some;have:=hd.few
   rw[if_pos hn.1,if_pos (by have:=hn.1;omega),if_neg (by omega),if_neg (by omega),if_neg (fun h=>hn.2.2 (ZAR.1 h)),if_neg (by rw[ZE hd.new];simp),P.YG]
   simp only[oS]
   rw[if_pos (ZG (by omega)),P.YQ w hw _ i hi,if_pos (ZG hd.ctors)]
   simp only[oS]
   rw[if_pos (by omega),ZCA,if_neg (by rw[ZE hd.new];simp),ZB0 hi,ZCP hi])
  (fun i hi hq=>by
   show F.f111 w ((w.take i).flatMap ZAE) ((w.take i).map (·.name)) i=_
   have:=hw.1
   rw[F.f111,if_pos hi,gQ hi]
   simp only[oE,oS]
   by_cases h1:w[i].name.size=1
   ·rw[if_pos h1,if_pos (by omega)]
    by_cases h2:byteAt w[i].name 0<65
    ·rw[if_pos h2]
    by_cases h3:90<byteAt w[i].name 0
    ·rw[if_neg h2,if_pos h3]
    by_cases h4:w[i].name.toList=(⟨#[73]⟩:ByteArray).toList
    ·rw[if_neg h2,if_neg h3,if_pos h4]
    by_cases h5:w[i].name∈(w.take i).map (·.name)
    ·rw[if_neg h2,if_neg h3,if_neg h4,if_pos (ZG h5)]
    rw[if_neg h2,if_neg h3,if_neg h4,if_neg (by rw[ZE h5];simp),P.YG]
    simp only[oS]
    by_cases h6:1<=(w[i].ctors.length:Int)/\(w[i].ctors.length:Int)<=4
    ·rw[if_pos (ZG h6),P.YQ w hw _ i hi,if_neg (by
      rw[ZE fun hh=>hq fun _=>⟨⟨h1,⟨by omega,by omega⟩,fun e=>h4 (by rw[e])⟩,h5,by omega,by omega,hh⟩];simp)]
     rfl
    ·rw[if_neg (by rw[ZE h6];simp)]
   ·rw[if_neg h1]) _ 0 rfl
 simpa using key
theorem P.Yb (w:List Data)(hw:Zu w):F.f112 w=some (dec (ZN w)):=by
 unfold F.f112
 by_cases h:4<w.length
 ·rw[if_pos h,ZE fun hh=>by have:=hh.1;omega]
 rw[if_neg h,P.Yq w hw]
 simp only[oE,oS]
 by_cases hall:∀i,0<=i->i<w.length->∀h:i<w.length,dataAt w i w[i]
 ·rw[if_pos (ZG hall),ZG ⟨by omega,hall⟩]
 ·rw[if_neg (by rw[ZE hall];simp),ZE fun hh=>hall hh.2]
theorem P.YAG (w:List Data)(hw:Zu w)(d k i:Nat)(hd:d<w.length)(hk:k<w[d].ctors.length)(hi:i<d)(hl:w[d].ctors.length<=4)(hli:w[i].ctors.length<=4):F.f18 w d k i 0=
  some (if dec (∀j,0<=j->j<w[i].ctors.length->∀h:j<w[i].ctors.length,w[i].ctors[j].name≠w[d].ctors[k].name)=true then .go ()else .ret true):=by
 have hi':i<w.length:=by omega
 refine ZIn (n:=w[i].ctors.length) (r:=true) (Q:=fun j=>∀h:j<w[i].ctors.length,w[i].ctors[j].name≠w[d].ctors[k].name) (L:=F.f18 w d k i) (fun j hj=> ?_) (fun j hj hq=> ?_) (fun j hj hq=> ?_) _ 0 rfl
 ·rw[F.f18,gQ hi']
  simp only[oE,oS]
  rw[if_neg (by omega)]
 ·rw[F.f18,gQ hi']
  simp only[oE,oS]
  rw[if_pos hj,if_pos (by omega),ZDq hd]
  simp only[oS]
  rw[if_pos (by omega),gQ hj,ZDq hk]
  simp only[oS]
  rw[if_neg (fun h=>hq hj (ZAR.1 h)),if_pos (by omega)]
 ·rw[F.f18,gQ hi']
  simp only[oE,oS]
  rw[if_pos hj,if_pos (by omega),ZDq hd]
  simp only[oS]
  rw[if_pos (by omega),gQ hj,ZDq hk]
  simp only[oS]
  rw[if_pos (ZAR.2 (Classical.byContradiction fun h=>hq fun _=>h))]
theorem P.YAF (w:List Data)(hw:Zu w)(d k:Nat)(hd:d<w.length)(hk:k<w[d].ctors.length)(hl:w[d].ctors.length<=4):F.f19 w d k d 0=
  some (if dec (∀j,0<=j->j<k->∀h:j<w[d].ctors.length,w[d].ctors[j].name≠w[d].ctors[k].name)=true then .go ()else .ret true):=by
 refine ZIn (n:=k) (r:=true) (Q:=fun j=>∀h:j<w[d].ctors.length,w[d].ctors[j].name≠w[d].ctors[k].name) (L:=F.f19 w d k d) (fun j hj=> ?_) (fun j hj hq=> ?_) (fun j hj hq=> ?_) _ 0 rfl
 ·rw[F.f19,gQ hd]
  simp only[oE,oS]
  rcases Nat.lt_or_ge j w[d].ctors.length with h|h
  ·rw[if_pos h,if_neg (by omega),if_neg (by omega)]
  ·rw[if_neg (by omega)]
 ·have hj':j<w[d].ctors.length:=Nat.lt_trans hj hk
  rw[F.f19,gQ hd]
  simp only[oE,oS]
  rw[if_pos hj',if_neg (by omega),if_pos (by omega),ZDq hd]
  simp only[oS]
  rw[if_pos (by omega),gQ hj',ZDq hk]
  simp only[oS]
  rw[if_neg (fun h=>hq hj' (ZAR.1 h)),if_pos (by omega)]
 ·have hj':j<w[d].ctors.length:=Nat.lt_trans hj hk
  rw[F.f19,gQ hd]
  simp only[oE,oS]
  rw[if_pos hj',if_neg (by omega),if_pos (by omega),ZDq hd]
  simp only[oS]
  rw[if_pos (by omega),gQ hj',ZDq hk]
  simp only[oS]
  rw[if_pos (ZAR.2 (Classical.byContradiction fun h=>hq fun _=>h))]
structure fresh (w:List Data)(d k i:Nat)(hd:d<w.length)(hk:k<w[d].ctors.length):Prop where
 data:i<d->∀h:i<w.length,w[i].name≠w[d].name
 ctor:i<d->∀h:i<w.length,∀j,0<=j->j<w[i].ctors.length->∀h:j<w[i].ctors.length,w[i].ctors[j].name≠w[d].ctors[k].name
 own:i=d->∀j,0<=j->j<k->∀h:j<w[d].ctors.length,w[d].ctors[j].name≠w[d].ctors[k].name
theorem P.YT (w:List Data)(hw:Zu w)(d k:Nat)(hd:d<w.length)(hk:k<w[d].ctors.length)(hw4:w.length<=4)(hl:∀i,i<=d->∀h:i<w.length,w[i].ctors.length<=4):F.f21 w d k=some (!dec (∀i,0<=i->i<d+1->fresh w d k i hd hk)):=by
 unfold F.f21
 have key:F.f20 w d k 0=some (if dec (∀i,0<=i->i<d+1->fresh w d k i hd hk)=true then .go ()else .ret true):=by
  refine ZIn (n:=d+1) (r:=true) (Q:=fun i=>fresh w d k i hd hk) (L:=F.f20 w d k) (fun i hi=> ?_) (fun i hi hq=> ?_) (fun i hi hq=> ?_) _ 0 rfl
  ·rw[F.f20,if_neg (by omega)]
  ·rw[F.f20,if_pos (by omega)]
   by_cases h:i<d
   ·have hi':i<w.length:=by omega
    rw[if_pos (by omega),gQ hi',ZDq hd]
    simp only[oE,oS]
    rw[if_neg (fun e=>hq.data h hi' (ZAR.1 e)),P.YAG w hw d k i hd hk h (hl d (Nat.le_refl _) hd) (hl i (by omega) hi'),if_pos (ZG (hq.ctor h hi'))]
    simp only[oS]
    rw[if_pos (by omega)]
   ·obtain rfl:i=d:=by omega
    rw[if_neg (by omega),P.YAF w hw i k hd hk (hl i (Nat.le_refl _) hd),if_pos (ZG (hq.own rfl))]
    simp only[oE,oS]
    rw[if_pos (by omega)]
  ·rw[F.f20,if_pos (by omega)]
   by_cases h:i<d
   ·have hi':i<w.length:=by omega
    rw[if_pos (by omega),gQ hi',ZDq hd]
    simp only[oE,oS]
    by_cases hn:w[i].name=w[d].name
    ·rw[if_pos (ZAR.2 hn)]
    ·rw[if_neg (fun e=>hn (ZAR.1 e)),P.YAG w hw d k i hd hk h (hl d (Nat.le_refl _) hd) (hl i (by omega) hi'),if_neg (by rw[ZE fun hh=>hq ⟨fun _ _=>hn,fun _ _=>hh,fun e=>by omega⟩];simp)]
     rfl
   ·obtain rfl:i=d:=by omega
    rw[if_neg (by omega),P.YAF w hw i k hd hk (hl i (Nat.le_refl _) hd),if_neg (by rw[ZE fun hh=>hq ⟨fun e=>by omega,fun e=>by omega,fun _=>hh⟩];simp)]
    rfl
 rw[key]
 simp only[oE,oS]
 by_cases hall:∀i,0<=i->i<d+1->fresh w d k i hd hk
 ·rw[if_pos (ZG hall),ZG hall];rfl
 ·rw[if_neg (by rw[ZE hall];simp),ZE hall];rfl
theorem ZDT (w:List Data)(d k:Nat)(hd:d<w.length)(hk:k<w[d].ctors.length):(∀i,0<=i->i<d+1->fresh w d k i hd hk)↔w[d].name∉(w.take d).map (·.name)/\w[d].ctors[k].name∉(w.take d).flatMap ZAE++(w[d].ctors.take k).map (·.name):=by
 constructor
 ·intro h
  refine⟨fun hm=> ?_,fun hm=> ?_⟩
  ·obtain⟨x,hx,e⟩:=List.mem_map.1 hm
   obtain⟨i,hi,rfl⟩:=List.mem_take_iff_getElem.1 hx
   exact(h i (by omega) (by omega)).data (by omega) (by omega) e
  ·rcases List.mem_append.1 hm with hm|hm
   ·obtain⟨x,hx,hc⟩:=List.mem_flatMap.1 hm
    obtain⟨i,hi,rfl⟩:=List.mem_take_iff_getElem.1 hx
    obtain⟨c,hc,e⟩:=List.mem_map.1 hc
    obtain⟨j,hj,rfl⟩:=List.getElem_of_mem hc
    exact(h i (by omega) (by omega)).ctor (by omega) (by omega) j (by omega) hj hj e
   ·obtain⟨c,hc,e⟩:=List.mem_map.1 hm
    obtain⟨j,hj,rfl⟩:=List.mem_take_iff_getElem.1 hc
    exact(h d (by omega) (by omega)).own rfl j (by omega) (by omega) (by omega) e
 ·rintro⟨h1,h2⟩ i _ hi
  refine⟨fun hid hiw e=>h1 (List.mem_map.2 ⟨w[i],List.mem_take_iff_getElem.2 ⟨i,by omega,rfl⟩,e⟩),fun hid hiw j _ hj hj' e=>h2 (List.mem_append_left _ (List.mem_flatMap.2 ⟨w[i],List.mem_take_iff_getElem.2 ⟨i,by omega,rfl⟩,List.mem_map.2 ⟨_,gM hj,e⟩⟩)),fun e j _ hj hj' e=>h2 (List.mem_append_right _ (List.mem_map.2 ⟨_,List.mem_take_iff_getElem.2 ⟨j,by omega,rfl⟩,e⟩))⟩
theorem P.Yo (w:List Data)(hw:Zu w)(d:Nat)(hd:d<w.length)(hw4:w.length<=4)(hl:∀i,i<=d->∀h:i<w.length,w[i].ctors.length<=4):F.f22 w d 0=
  some (if dec (∀k,0<=k->k<w[d].ctors.length->∀h:k<w[d].ctors.length,w[d].name∉(w.take d).map (·.name)/\ctorAt w d w[d] k w[d].ctors[k])=true then .go ()else .ret false):=by
 have hl0:=hl d (Nat.le_refl _) hd
 refine ZIn (n:=w[d].ctors.length) (r:=false) (Q:=fun k=>∀h:k<w[d].ctors.length,w[d].name∉(w.take d).map (·.name)/\ctorAt w d w[d] k w[d].ctors[k]) (L:=F.f22 w d) (fun k hk=> ?_) (fun k hk hq=> ?_) (fun k hk hq=> ?_) _ 0 rfl
 ·rw[F.f22,gQ hd]
  simp only[oE,oS]
  rw[if_neg (by omega)]
 ·obtain⟨h1,h2⟩:=hq hk
  rw[F.f22,gQ hd]
  simp only[oE,oS]
  rw[if_pos hk,gQ hk]
  simp only[oS]
  rw[P.YY _ _ (hw.2 _ (gM hd) _ (gM hk))]
  simp only[oS]
  rw[if_pos (ZG h2.ok),P.YT w hw d k hd hk hw4 hl]
  simp only[oS]
  rw[ZG ((ZDT w d k hd hk).2 ⟨h1,h2.new⟩),if_neg (by simp),if_pos (by omega)]
 ·rw[F.f22,gQ hd]
  simp only[oE,oS]
  rw[if_pos hk,gQ hk]
  simp only[oS]
  rw[P.YY _ _ (hw.2 _ (gM hd) _ (gM hk))]
  simp only[oS]
  by_cases h1:ZEI w.length w[d].ctors[k]
  ·rw[if_pos (ZG h1),P.YT w hw d k hd hk hw4 hl]
   simp only[oS]
   rw[ZE fun hh=>hq fun _=>⟨((ZDT w d k hd hk).1 hh).1,⟨h1,((ZDT w d k hd hk).1 hh).2⟩⟩,if_pos (by simp)]
  ·rw[if_neg (by rw[ZE h1];simp)]
theorem P.YN (w:List Data)(hw:Zu w):F.f24 w=some (dec (ZN w)):=by
 unfold F.f24
 by_cases h4:4<w.length
 ·rw[if_pos h4,ZE fun hh=>by have:=hh.1;omega]
 rw[if_neg h4]
 -- the loop runs only on over types that are right
 have key:∀(m d:Nat),w.length-d=m->(∀i,i<d->∀h:i<w.length,w[i].ctors.length<=4)->F.f23 w d=some (if dec (∀i,d<=i->i<w.length->∀h:i<w.length,dataAt w i w[i])=true then .go ()else .ret false):=by
  intro m
  induction m with
  |zero=>
   intro d hm hl
   rw[F.f23,if_neg (by omega),if_pos (ZG fun i h1 h2=>by omega)]
  |succ m ih=>
   intro d hm hl
   have hd:d<w.length:=by omega
   rw[F.f23,if_pos hd,gQ hd]
   simp only[oE,oS]
   rw[P.YAI]
   simp only[oS]
   have no:¬dataAt w d w[d]->¬∀i,d<=i->i<w.length->∀h:i<w.length,dataAt w i w[i]:=fun h hh=>h (hh d (Nat.le_refl _) hd hd)
   by_cases h1:ZEs w[d].name
   ·rw[if_pos (ZG h1)]
    by_cases h2:w[d].ctors.length=0
    ·rw[if_pos h2,if_neg (by rw[ZE (no fun h=>by have:=h.some;omega)];simp)]
    by_cases h3:4<w[d].ctors.length
    ·rw[if_neg h2,if_pos h3,if_neg (by rw[ZE (no fun h=>by have:=h.few;omega)];simp)]
    have hl':∀i,i<=d->∀h:i<w.length,w[i].ctors.length<=4:=fun i hi h=>by
     by_cases e:i=d
     ·subst e;omega
     ·exact hl i (by omega) h
    rw[if_neg h2,if_neg h3,P.Yo w hw d hd (by omega) hl']
    simp only[oS]
    by_cases hq:∀k,0<=k->k<w[d].ctors.length->∀h:k<w[d].ctors.length,w[d].name∉(w.take d).map (·.name)/\ctorAt w d w[d] k w[d].ctors[k]
    ·have hda:dataAt w d w[d]:=⟨h1,(hq 0 (by omega) (by omega) (by omega)).1,by omega,by omega,fun k a b c=>(hq k a b c).2⟩
     rw[if_pos (ZG hq)]
     simp only
     rw[if_pos (by omega),ih (d+1) (by omega) fun i hi h=>hl' i (by omega) h]
     by_cases hall:∀i,d+1<=i->i<w.length->∀h:i<w.length,dataAt w i w[i]
     ·rw[if_pos (ZG hall),if_pos (ZG fun i a b c=> ?_)]
      by_cases e:i=d
      ·subst e;exact hda
      ·exact hall i (by omega) b c
     ·rw[if_neg (by rw[ZE hall];simp),if_neg (by rw[ZE fun hh=>hall fun i a b c=>hh i (by omega) b c];simp)]
    ·rw[if_neg (by rw[ZE hq];simp)]
     simp only
     rw[if_neg (by rw[ZE (no fun h=>hq fun k a b c=>⟨h.new,h.ctors k a b c⟩)];simp)]
   ·rw[if_neg (by rw[ZE h1];simp),if_neg (by rw[ZE (no fun h=>h1 h.name)];simp)]
 rw[key _ 0 rfl fun i hi=>by omega]
 simp only[oE,oS]
 by_cases hall:∀i,0<=i->i<w.length->∀h:i<w.length,dataAt w i w[i]
 ·rw[if_pos (ZG hall),ZG ⟨by omega,hall⟩]
 ·rw[if_neg (by rw[ZE hall];simp),ZE fun hh=>hall hh.2]
def Zb (w:List Data)(t:Ty):Prop:=ZBZ w.length t/\0<=t.index
theorem P.YAT (w:List Data)(t:Ty):F.f149 w t=some (dec (Zb w t)):=by
 unfold F.f149
 rw[P.YR]
 simp only[oE,oS]
 by_cases h:ZBZ w.length t
 ·rw[if_pos (ZG h),←ZAH];congr 1;exact ZL ⟨fun h'=>⟨h,h'⟩,fun h'=>h'.2⟩
 ·rw[if_neg (by rw[ZE h];simp),ZE fun h'=>h h'.1]
theorem P.YAK (w:List Data)(t:Ty)(hw:w.length<=1048576):F.f113 w t=some (dec (Zb w t)):=by
 unfold F.f113
 by_cases h:eq2 (t.data,t.index) (-1,0)
 ·rw[if_pos (ZG h),ZG ⟨.inl h,by have:=h.2;simp at this;omega⟩]
 rw[if_neg (by rw[ZE h];simp),P.YG,ZF (by omega) (by omega)]
 simp only[oE,oS]
 by_cases h1:0<=t.data/\t.data<=(w.length:Int) -1
 ·rw[if_pos (ZG h1),P.YG]
  simp only[oS]
  congr 1;exact ZL ⟨fun h'=>⟨.inr ⟨h1.1,by omega,by omega,h'.2⟩,h'.1⟩,fun h'=>h'.1.elim (fun h'=>absurd h' h) (fun h2=>⟨h'.2,h2.2.2.2⟩)⟩
 ·rw[if_neg (by rw[ZE h1];simp),ZE fun h'=>h'.1.elim (fun h'=>h h') (fun h'=>h1 ⟨h'.1,by have:=h'.2.1;omega⟩)]
def ZBF (w:List Data)(t:Ty):Prop:=ZN w/\Zb w t
theorem P.Yf (w:List Data)(t:Ty)(hw:Zu w):F.f150 w t=some (dec (ZBF w t)):=by
 unfold F.f150
 rw[P.YN w hw]
 simp only[oE,oS]
 by_cases h:ZN w
 ·rw[if_pos (ZG h),P.YAT]
  simp only[oS]
  congr 1;exact ZL ⟨fun h'=>⟨h,h'⟩,fun h'=>h'.2⟩
 ·rw[if_neg (by rw[ZE h];simp),ZE fun h'=>h h'.1]
theorem P.Yl (w:List Data)(t:Ty)(hw:Zu w):F.f114 w t=some (dec (ZBF w t)):=by
 unfold F.f114
 rw[P.Yb w hw]
 simp only[oE,oS]
 by_cases h:ZN w
 ·rw[if_pos (ZG h),P.YAK w t hw.1]
  simp only[oS]
  congr 1;exact ZL ⟨fun h'=>⟨h,h'⟩,fun h'=>h'.2⟩
 ·rw[if_neg (by rw[ZE h];simp),ZE fun h'=>h h'.1]
theorem ZIv {w:List Data}(h:wtL Data.wt w<=1048576):Zu w:=by
 refine⟨by have:=ZF5 Data.wt w;omega,fun d hd c hc=> ?_⟩
 have h1:=ZC2 Data.wt hd
 have h2:=ZC2 Ctor.wt hc
 have e1:d.wt=d.name.size+wtL Ctor.wt d.ctors:=rfl
 have e2:c.wt=c.name.size+wtL Ty.wt c.args:=rfl
 omega
def tOk (w:List Data)(t:Ty):Prop:=t.data= -1∨(0<=t.data/\t.data<w.length)
theorem ZA8 {w:List Data}{t:Ty}(h:ZBZ w.length t):tOk w t:=h.elim (fun h=>.inl h.1) (fun h=>.inr ⟨h.1,h.2.1⟩)
def ZK9 (i:Int)(c:Ctor):Prop:=i=0∨c.index=0∨c.index=i
noncomputable def ZE1 (i:Int):Nat->List Ctor->List Int
 |_,[]=>[]
 |k,c::r=>(if dec (ZK9 i c)=true then[(k:Int)]else[])++ZE1 i (k+1) r
theorem ZHC (i:Int):∀(k:Nat) (l:List Ctor),(ZE1 i k l).length<=l.length
 |_,[]=>by simp[ZE1]
 |k,c::r=>by
  have:=ZHC i (k+1) r
  unfold ZE1
  split<;>simp<;>omega
theorem ZHB (i:Int){x:Int}:∀{k:Nat} {l:List Ctor},x∈ZE1 i k l->(k:Int)<=x/\x<k+l.length
 |_,[],h=>by simp[ZE1]at h
 |k,c::r,h=>by
  unfold ZE1 at h
  rcases List.mem_append.1 h with h|h
  ·split at h
   ·simp at h;subst h;simp;omega
   ·simp at h
  ·have:=ZHB i h
   simp;omega
def ZY (w:List Data)(t:Ty):Data:=w.getD t.data.toNat Data.z
noncomputable def ZR (w:List Data)(t:Ty):List Int:=if t.data= -1 then[]else ZE1 t.index 0 (ZY w t).ctors
def Zc (w:List Data)(t:Ty)(c:Int):Ctor:=(ZY w t).ctors.getD c.toNat Ctor.z
def ZCh (t:Ty)(c:Ctor)(a:Ty):Ty:=if a.index= -1 then⟨a.data,if c.index=0 then t.index else c.index⟩else a
def ZO (w:List Data)(t:Ty)(c:Int):List Ty:=(Zc w t c).args.map (ZCh t (Zc w t c))
theorem ZBw {w:List Data}{t:Ty}(h:tOk w t)(hn:t.data≠-1):at? w t.data=some (ZY w t)/\ZY w t∈w/\∃h:t.data.toNat<w.length,ZY w t=w[t.data.toNat]:=by
 obtain⟨h1,h2⟩:=h.resolve_left hn
 have hlt:t.data.toNat<w.length:=by omega
 unfold at? ZY
 rw[if_pos h1,gQ hlt,List.getD_eq_getElem?_getD,gQ hlt]
 exact⟨rfl,gM hlt,hlt,rfl⟩
theorem Zo {w:List Data}(hw:ZN w){t:Ty}(h:tOk w t)(hn:t.data≠-1):(ZY w t).ctors.length<=4/\∀c,c∈(ZY w t).ctors->ZEI w.length c:=by
 obtain⟨_,_,hlt,e⟩:=ZBw h hn
 have hd:=hw.2 t.data.toNat (by omega) hlt hlt
 rw[e]
 refine⟨hd.few,fun c hc=> ?_⟩
 obtain⟨k,hk,rfl⟩:=List.getElem_of_mem hc
 exact(hd.ctors k (by omega) hk hk).ok
theorem P.Yp (w:List Data)(hw:ZN w)(t:Ty)(h:tOk w t)(hn:t.data≠-1):∀(m k:Nat) (out:List Int),(ZY w t).ctors.length-k=m->out.length<=k->k<=(ZY w t).ctors.length->
  F.f41 w t out k=some (out++ZE1 t.index k ((ZY w t).ctors.drop k)):=by
 have h4:=(Zo hw h hn).1
 intro m
 induction m with
 |zero=>
  intro k out hm ho hk
  rw[F.f41,(ZBw h hn).1]
  simp only[oE,oS]
  rw[if_neg (by omega),List.drop_eq_nil_of_le (by omega)];simp[ZE1]
 |succ m ih=>
  intro k out hm ho hk
  have hlt:k<(ZY w t).ctors.length:=by omega
  rw[F.f41,(ZBw h hn).1]
  simp only[oE,oS]
  rw[if_pos hlt,gQ hlt,List.drop_eq_getElem_cons hlt]
  simp only[oS,ZE1]
  have hf:F.f40 (ZY w t).ctors[k] t.index=some (dec (ZK9 t.index (ZY w t).ctors[k])):=by
   unfold F.f40
   by_cases h1:(ZY w t).ctors[k].index=0
   ·rw[if_pos h1,ZG (.inr (.inl h1))]
   ·by_cases h2:t.index=0
    ·rw[if_neg h1,if_pos h2,ZG (.inl h2)]
    ·rw[if_neg h1,if_neg h2,←ZAH];congr 1;exact ZL ⟨fun h=>.inr (.inr h),fun h=>h.elim (fun h=>absurd h h2) (fun h=>h.elim (fun h=>absurd h h1) id)⟩
  rw[hf]
  simp only[oS]
  by_cases hfit:ZK9 t.index (ZY w t).ctors[k]
  ·rw[if_pos (ZG hfit),if_pos (by omega),if_pos (by omega),ih (k+1) _ (by omega) (by simp;omega) (by omega),if_pos (ZG hfit)];simp
  ·rw[if_neg (by rw[ZE hfit];simp),if_pos (by omega),ih (k+1) _ (by omega) (by omega) (by omega),if_neg (by rw[ZE hfit];simp)];simp
theorem P.YM (w:List Data)(hw:ZN w)(t:Ty)(h:tOk w t):F.f42 w t=some (ZR w t):=by
 unfold F.f42 ZR
 by_cases hn:t.data= -1
 ·rw[if_pos hn,if_pos hn]
 ·rw[if_neg hn,if_neg hn,P.Yp w hw t h hn _ 0 [] rfl (by simp) (by omega)];simp
theorem P.Ys (w:List Data)(hw:ZN w)(t:Ty)(h:tOk w t)(hn:t.data≠-1):∀(m k:Nat) (out:List Int),(ZY w t).ctors.length-k=m->out.length<=k->k<=(ZY w t).ctors.length->
  F.f117 t (ZY w t) k out=some (out++ZE1 t.index k ((ZY w t).ctors.drop k)):=by
 have h4:=(Zo hw h hn).1
 intro m
 induction m with
 |zero=>
  intro k out hm ho hk
  rw[F.f117,if_neg (by omega),List.drop_eq_nil_of_le (by omega)];simp[ZE1]
 |succ m ih=>
  intro k out hm ho hk
  have hlt:k<(ZY w t).ctors.length:=by omega
  rw[F.f117,if_pos hlt,gQ hlt,List.drop_eq_getElem_cons hlt]
  simp only[oE,oS,ZE1]
  have yes:ZK9 t.index (ZY w t).ctors[k]->(if out.length+1<=67108864 then F.f117 t (ZY w t) (k+1) (out++[(k:Int)])else none)=
    some (out++((if dec (ZK9 t.index (ZY w t).ctors[k])=true then[(k:Int)]else[])++ZE1 t.index (k+1) ((ZY w t).ctors.drop (k+1)))):=by
   intro hfit
   rw[if_pos (by omega),ih (k+1) _ (by omega) (by simp;omega) (by omega),if_pos (ZG hfit)];simp
  by_cases h1:t.index=0
  ·rw[if_pos h1];exact yes (.inl h1)
  by_cases h2:(ZY w t).ctors[k].index=0
  ·rw[if_neg h1,if_pos h2];exact yes (.inr (.inl h2))
  by_cases h3:(ZY w t).ctors[k].index=t.index
  ·rw[if_neg h1,if_neg h2,if_pos h3];exact yes (.inr (.inr h3))
  ·have hfit:¬ZK9 t.index (ZY w t).ctors[k]:=fun h=>h.elim h1 (fun h=>h.elim h2 h3)
   rw[if_neg h1,if_neg h2,if_neg h3,ih (k+1) _ (by omega) (by omega) (by omega),if_neg (by rw[ZE hfit];simp)];simp
theorem P.YAD (w:List Data)(hw:ZN w)(t:Ty)(h:tOk w t):F.f118 w t=some (ZR w t):=by
 unfold F.f118 ZR
 by_cases hn:t.data= -1
 ·rw[if_pos hn,if_pos hn]
 ·rw[if_neg hn,if_neg hn,(ZBw h hn).1]
  simp only[oE,oS]
  rw[P.Ys w hw t h hn _ 0 [] rfl (by simp) (by omega)];simp
theorem ZV {w:List Data}{t:Ty}{c:Int}(h:c∈ZR w t):t.data≠-1/\0<=c/\c<(ZY w t).ctors.length:=by
 unfold ZR at h
 split at h
 ·cases h
 ·next hn=>
  have:=ZHB t.index h
  exact⟨hn,by omega,by omega⟩
theorem ZAp {w:List Data}{t:Ty}{c:Int}(h:c∈ZR w t):at? (ZY w t).ctors c=some (Zc w t c)/\Zc w t c∈(ZY w t).ctors:=by
 obtain⟨_,h1,h2⟩:=ZV h
 have hlt:c.toNat<(ZY w t).ctors.length:=by omega
 unfold at? Zc
 rw[if_pos h1,gQ hlt,List.getD_eq_getElem?_getD,gQ hlt]
 exact⟨rfl,gM hlt⟩
theorem ZNP {w:List Data}(hw:ZN w){t:Ty}(ht:tOk w t){c:Int}(h:c∈ZR w t):(ZO w t c).length<=3/\∀a,a∈ZO w t c->tOk w a:=by
 have hc:=(Zo hw ht (ZV h).1).2 _ (ZAp h).2
 refine⟨by unfold ZO;rw[List.length_map];exact hc.2.1,fun a ha=> ?_⟩
 obtain⟨b,hb,rfl⟩:=List.mem_map.1 ha
 obtain⟨j,hj,rfl⟩:=List.getElem_of_mem hb
 have:=ZA8 (hc.2.2.2.2 j (by omega) hj)
 unfold ZCh
 split
 ·exact this
 ·exact this
theorem P.YF (w:List Data)(hw:ZN w)(t:Ty)(ht:tOk w t)(c:Int)(h:c∈ZR w t):F.f45 w t c=some (ZO w t c):=by
 have hc:=(Zo hw ht (ZV h).1).2 _ (ZAp h).2
 unfold F.f45
 rw[(ZBw ht (ZV h).1).1]
 simp only[oE,oS]
 rw[(ZAp h).1]
 simp only[oS]
 rw[ZGy (L:=F.f44 t (Zc w t c)) (a:=(Zc w t c).args) (g:=ZCh t (Zc w t c)) (f:=fun a=>some (ZCh t (Zc w t c) a)) (fun out i=> ?_) (fun _ _=>rfl) _ 0 [] rfl (by have:=hc.2.1;simp;omega)]
 ·simp[ZO]
 ·rw[F.f44]
  split
  ·cases(Zc w t c).args[i]? with
   |none=>rfl
   |some a=>
    simp only[oE,oS,F.f43,ZCh]
    split
    ·split<;>simp
    ·simp
  ·rfl
theorem P.Yv (w:List Data)(hw:ZN w)(t:Ty)(ht:tOk w t)(c:Int)(h:c∈ZR w t):F.f124 w t c=some (ZO w t c):=by
 have hc:=(Zo hw ht (ZV h).1).2 _ (ZAp h).2
 unfold F.f124
 rw[(ZBw ht (ZV h).1).1]
 simp only[oE,oS]
 rw[(ZAp h).1]
 simp only[oS]
 by_cases h0:(Zc w t c).index=0
 ·rw[if_pos h0,ZGy (L:=fun out i=>F.f122 t (Zc w t c) i out) (a:=(Zc w t c).args) (g:=ZCh t (Zc w t c)) (f:=fun a=>some (ZCh t (Zc w t c) a)) (fun out i=> ?_) (fun _ _=>rfl) _ 0 [] rfl (by have:=hc.2.1;simp;omega)]
  ·simp[ZO]
  ·show F.f122 t (Zc w t c) i out=_
   rw[F.f122]
   split
   ·cases(Zc w t c).args[i]? with
    |none=>rfl
    |some a=>
     simp only[oE,oS,ZCh]
     split
     ·first|rfl|rw[if_pos h0]
     ·rfl
   ·rfl
 ·rw[if_neg h0,ZGy (L:=fun out i=>F.f123 (Zc w t c) i out) (a:=(Zc w t c).args) (g:=ZCh t (Zc w t c)) (f:=fun a=>some (ZCh t (Zc w t c) a)) (fun out i=> ?_) (fun _ _=>rfl) _ 0 [] rfl (by have:=hc.2.1;simp;omega)]
  ·simp[ZO]
  ·show F.f123 (Zc w t c) i out=_
   rw[F.f123]
   split
   ·cases(Zc w t c).args[i]? with
    |none=>rfl
    |some a=>
     simp only[oE,oS,ZCh]
     split
     ·first|rfl|rw[if_neg h0]
     ·rfl
   ·rfl
theorem P.YAN (l:List Int)(n:Int):F.f65 l n=some (dec (n∈l)):=by
 unfold F.f65
 rw[ZIn (n:=l.length) (r:=true) (Q:=fun j=>∀h:j<l.length,l[j]≠n) (L:=F.f64 l n) (fun k hk=>by rw[F.f64,if_neg (by omega)])
  (fun k hk hq=>by
   rw[F.f64,if_pos hk,gQ hk]
   simp only[oE,oS]
   rw[if_neg (hq hk)])
  (fun k hk hq=>by
   rw[F.f64,if_pos hk,gQ hk]
   simp only[oE,oS]
   rw[if_pos (Classical.byContradiction fun h=>hq fun _=>h)]) _ 0 rfl]
 simp only[oE,oS]
 by_cases hm:n∈l
 ·obtain⟨j,hj,e⟩:=List.getElem_of_mem hm
  rw[if_neg (by rw[ZE fun hh=>hh j (by omega) hj hj e];simp),ZG hm]
 ·rw[if_pos (ZG fun j _ hj h e=>hm (by rw[←e];exact gM h)),ZE hm]
theorem P.YO (l:List Int)(n:Int):F.f121 l n=some (dec (n∈l)):=by
 unfold F.f121 F.f120
 have key:∀(m k:Nat),l.length-k=m->∃r,F.f119 l n k=some r/\match r with| .ret j=>0<=j/\n∈l| .go _=>∀j,k<=j->∀h:j<l.length,l[j]≠n:=by
  intro m
  induction m with
  |zero=>intro k hm;rw[F.f119,if_neg (by omega)];exact⟨_,rfl,fun j h1 h2=>by omega⟩
  |succ m ih=>
   intro k hm
   have hk:k<l.length:=by omega
   rw[F.f119,if_pos hk,gQ hk]
   simp only[oE,oS]
   by_cases h:n=l[k]
   ·rw[if_pos h];exact⟨_,rfl,by omega,h▸gM hk⟩
   ·rw[if_neg h]
    obtain⟨r,hr,hx⟩:=ih (k+1) (by omega)
    refine⟨r,hr,?_⟩
    cases r with
    |ret j=>exact hx
    |go _=>
     intro j hj hl
     by_cases e:k=j
     ·subst e;exact fun e=>h e.symm
     ·exact hx j (by omega) hl
 obtain⟨r,hr,hx⟩:=key _ 0 rfl
 rw[hr]
 cases r with
 |ret j=>
  simp only[oE,oS]
  rw[ZG hx.2];simp[hx.1]
 |go _=>
  simp only[oE,oS]
  rw[ZE fun hm=>by obtain⟨j,hj,e⟩:=List.getElem_of_mem hm;exact hx j (by omega) hj e];simp
def pv (w:List Data)(holes:Bool):Nat->Ty->Value->Prop
 |0,_,_=>False
 |d+1,t,v=>(holes=true/\v.ctor= -2/\v.n=0/\v.kids.length=0)∨(¬(holes=true/\v.ctor= -2)/\
   ((t.data= -1/\v.ctor= -1/\0<=v.n/\v.n<=9/\v.kids.length=0)∨
   (t.data≠-1/\v.n=0/\v.ctor∈ZR w t/\v.kids.length=(ZO w t v.ctor).length/\
    ∀i,0<=i->i<(ZO w t v.ctor).length->∀(h:i<(ZO w t v.ctor).length) (h':i<v.kids.length),pv w holes d (ZO w t v.ctor)[i] v.kids[i])))
theorem ZLz (v:Value):v.wt=((v.kids.drop 0).map fun k=>1+k.wt).sum:=by
 rw[List.drop_zero,v.wt_eq]
 have:∀l:List Value,(l.map fun k=>1+k.wt).sum=wtL Value.wt l:=by
  intro l
  induction l with
  |nil=>rfl
  |cons a r ih=>simp[ih]
 exact(this _).symm
def rok (K:Nat)(r:ZB):Prop:=r.f0.length<=2000/\(∀x,x∈r.f0->0<=x/\x<=255)/\0<=r.f1/\r.f1<=(K:Int)
theorem rok.mono {K L:Nat}{r:ZB}(h:rok K r)(hl:K<=L):rok L r:=⟨h.1,h.2.1,h.2.2.1,by have:=h.2.2.2;omega⟩
theorem ZLy {a b:Int}(ha:0<=a)(hb:0<=b)(ha':a<4611686018427387904)(hb':b<4611686018427387904):0<=ZNd .i64 a b:=by
 unfold ZNd
 obtain⟨m,rfl⟩:=Int.eq_ofNat_of_zero_le ha
 obtain⟨n,rfl⟩:=Int.eq_ofNat_of_zero_le hb
 have hm:m<2^62:=by omega
 have hn:n<2^62:=by omega
 have h:(BitVec.ofInt IntKind.i64.bits (m:Int)^^^BitVec.ofInt IntKind.i64.bits (n:Int)).toNat<2^62:=by
  rw[BitVec.toNat_xor]
  refine Nat.xor_lt_two_pow ?_ ?_
  ·show(BitVec.ofInt 64 (m:Int)).toNat<2^62
   rw[BitVec.toNat_ofInt];omega
  ·show(BitVec.ofInt 64 (n:Int)).toNat<2^62
   rw[BitVec.toNat_ofInt];omega
 rw[ZF (by omega) (by omega)]
 exact Int.natCast_nonneg _
theorem ZEJ {α:Type}{xs:List α}{i:Int}(h0:0<=i)(h1:i<xs.length):∃x,at? xs i=some x/\x∈xs:=by
 have hi:i.toNat<xs.length:=by omega
 refine⟨xs[i.toNat],?_,gM hi⟩
 unfold at?
 rw[if_pos h0,gQ hi]
theorem P.YH {K:Nat}{r:ZB}(h:rok K r)(hK:K<=1099511627776)(n:Int):∃v r',F.f1 r n=some (v,r')/\rok (K+1) r'/\0<=v/\(1<=n->v<n)/\(n<1->v=0):=by
 obtain⟨h1,h2,h3,h4⟩:=h
 unfold F.f1
 have e1:i64.wrap (r.f1+1)=r.f1+1:=ZF (by omega) (by omega)
 have e2:i64.wrap (r.f1+1-1)=r.f1:=by rw[ZF (by omega) (by omega)];omega
 have hr':rok (K+1) ⟨r.f0,r.f1+1⟩:=⟨h1,h2,by show 0<=r.f1+1;omega,by show r.f1+1<=((K+1:Nat):Int);omega⟩
 rw[e1,e2]
 by_cases hn:n<1
 ·rw[if_pos hn];exact⟨0,_,rfl,hr',by omega,by omega,fun _=>rfl⟩
 rw[if_neg hn]
 by_cases hl:r.f0.length=0
 ·rw[if_pos hl];exact⟨0,_,rfl,hr',by omega,by omega,fun _=>rfl⟩
 rw[if_neg hl]
 have tm:∀x:Int,0<=x->0<=x.tmod n/\x.tmod n<n:=fun x hx=>⟨Int.tmod_nonneg n hx,Int.tmod_lt_of_pos x (by omega)⟩
 have tl:∀x:Int,0<=x->0<=x.tmod (r.f0.length:Int)/\x.tmod (r.f0.length:Int)<r.f0.length:=fun x hx=>⟨Int.tmod_nonneg _ hx,Int.tmod_lt_of_pos x (by omega)⟩
 by_cases hk:r.f1<(r.f0.length:Int)
 ·rw[if_pos hk]
  obtain⟨x,hx,hm⟩:=ZEJ h3 hk
  have hb:=h2 x hm
  rw[hx]
  simp only[oE,oS]
  rw[if_pos (by omega),ZF (by omega) (by omega)]
  have:=tm x hb.1
  exact⟨_,_,rfl,hr',this.1,fun _=>this.2,fun h=>by omega⟩
 ·rw[if_neg hk,if_pos (by omega)]
  have e7:i64.wrap (r.f1*7)=r.f1*7:=ZF (by omega) (by omega)
  have e73:i64.wrap (r.f1*7+3)=r.f1*7+3:=ZF (by omega) (by omega)
  rw[e7,e73]
  have t1:=tl r.f1 h3
  have t2:=tl (r.f1*7+3) (by omega)
  obtain⟨x,hx,hm⟩:=ZEJ t1.1 t1.2
  obtain⟨y,hy,hm'⟩:=ZEJ t2.1 t2.2
  have hb:=h2 x hm
  have hb':=h2 y hm'
  have hq0:0<=r.f1.tdiv (r.f0.length:Int):=Int.tdiv_nonneg h3 (by omega)
  have hq1:r.f1.tdiv (r.f0.length:Int)<=r.f1:=Int.tdiv_le_self _ h3
  rw[hx,hy]
  simp only[oE,oS]
  rw[if_pos (by omega)]
  generalize r.f1.tdiv (r.f0.length:Int)=q at hq0 hq1 ⊢
  rw[ZF (n:=x) (by omega) (by omega),ZF (n:=y) (by omega) (by omega),ZF (n:=q) (by omega) (by omega),ZF (n:=x*131) (by omega) (by omega),ZF (n:=y*1117) (by omega) (by omega),
   ZF (n:=r.f1*29) (by omega) (by omega),ZF (n:=q*53) (by omega) (by omega),ZF (n:=x*131+y*1117) (by omega) (by omega),ZF (n:=x*131+y*1117+r.f1*29) (by omega) (by omega),
   ZF (n:=x*131+y*1117+r.f1*29+q*53) (by omega) (by omega)]
  have hz0:0<=x*131+y*1117+r.f1*29+q*53:=by omega
  have hz1:x*131+y*1117+r.f1*29+q*53<4611686018427387904:=by omega
  generalize x*131+y*1117+r.f1*29+q*53=z at hz0 hz1 ⊢
  have hd0:0<=z.tdiv 64:=Int.tdiv_nonneg hz0 (by omega)
  have hd1:z.tdiv 64<=z:=Int.tdiv_le_self _ hz0
  rw[ZF (n:=z.tdiv 64) (by omega) (by omega)]
  have:=tm _ (ZLy hz0 hd0 hz1 (by omega))
  exact⟨_,_,rfl,hr',this.1,fun _=>this.2,fun h=>by omega⟩
theorem P.num {K:Nat}{r:ZB}(h:rok K r)(hK:K<=1099511627776)(l:List Int)(hl:l≠[]):∃v r',F.f54 r l=some (v,r')/\rok (K+1) r'/\v∈l:=by
 unfold F.f54
 obtain⟨v,r',e,h1,h2,h3,_⟩:=P.YH h hK (l.length:Int)
 have:0<l.length:=List.length_pos_iff.2 hl
 obtain⟨x,hx,hm⟩:=ZEJ h2 (h3 (by omega))
 rw[e]
 simp only[oE,oS]
 rw[hx]
 exact⟨x,r',rfl,h1,hm⟩
def W0 :List Data:=[⟨⟨#[76]⟩,[⟨⟨#[78,105,108]⟩,[],0⟩,⟨⟨#[67,111,110,115]⟩,[⟨-1,0⟩,⟨0,0⟩],0⟩]⟩]
theorem ZLh :F.f38 ⟨#[76,61,78,105,108,124,67,111,110,115,40,73,44,76,41]⟩=some (W0,true):=E.f38_le 100 _ _ (by kernel_rfl)
theorem ZLg :F.f53 W0=some [1,1,1,1]:=E.f53_le 100 _ _ (by kernel_rfl)
def W1 :List Data:=[⟨⟨#[66]⟩,[⟨⟨#[84,114,117]⟩,[],0⟩,⟨⟨#[70,108,115]⟩,[],0⟩]⟩,⟨⟨#[84]⟩,[⟨⟨#[76,101,97,102]⟩,[],0⟩,⟨⟨#[78,111,100,101]⟩,[⟨1,0⟩,⟨0,0⟩,⟨1,0⟩],0⟩]⟩]
theorem ZLf :F.f38 ⟨#[66,61,84,114,117,124,70,108,115,59,84,61,76,101,97,102,124,78,111,100,101,40,84,44,66,44,84,41]⟩=some (W1,true):=E.f38_le 100 _ _ (by kernel_rfl)
theorem ZLe :F.f53 W1=some [1,1,1,1,1,1,1,1]:=E.f53_le 100 _ _ (by kernel_rfl)
def W2 :List Data:=[⟨⟨#[69]⟩,[⟨⟨#[78,117,109]⟩,[⟨-1,0⟩],1⟩,⟨⟨#[66,111,108]⟩,[⟨1,0⟩],2⟩,⟨⟨#[65,100,100]⟩,[⟨0,1⟩,⟨0,1⟩],1⟩,⟨⟨#[73,102]⟩,[⟨0,2⟩,⟨0,-1⟩,⟨0,-1⟩],0⟩]⟩,⟨⟨#[66]⟩,[⟨⟨#[84,114,117]⟩,[],0⟩,⟨⟨#[70,108,115]⟩,[],0⟩]⟩]
theorem ZLd :F.f38 ⟨#[69,61,78,117,109,40,73,41,58,49,124,66,111,108,40,66,41,58,50,124,65,100,100,40,69,49,44,69,49,41,58,49,124,73,102,40,69,50,44,69,42,44,69,42,41,59,66,61,84,114,117,124,70,108,115]⟩=some (W2,true):=E.f38_le 100 _ _ (by kernel_rfl)
theorem ZLc :F.f53 W2=some [2,2,2,0,1,1,1,1]:=E.f53_le 100 _ _ (by kernel_rfl)
def W3 :List Data:=[⟨⟨#[79]⟩,[⟨⟨#[78,111,110]⟩,[],0⟩,⟨⟨#[83,111,109]⟩,[⟨-1,0⟩],0⟩]⟩,⟨⟨#[80]⟩,[⟨⟨#[80,97,105,114]⟩,[⟨0,0⟩,⟨0,0⟩],0⟩]⟩]
theorem ZLb :F.f38 ⟨#[79,61,78,111,110,124,83,111,109,40,73,41,59,80,61,80,97,105,114,40,79,44,79,41]⟩=some (W3,true):=E.f38_le 100 _ _ (by kernel_rfl)
theorem ZLa :F.f53 W3=some [1,1,1,1,2,2,2,2]:=E.f53_le 100 _ _ (by kernel_rfl)
def W4 :List Data:=[⟨⟨#[86]⟩,[⟨⟨#[69,110,100]⟩,[],1⟩,⟨⟨#[83,111,109,101]⟩,[⟨-1,0⟩,⟨0,1⟩],2⟩,⟨⟨#[84,119,111]⟩,[⟨0,-1⟩],0⟩]⟩]
theorem ZLZ :F.f38 ⟨#[86,61,69,110,100,58,49,124,83,111,109,101,40,73,44,86,49,41,58,50,124,84,119,111,40,86,42,41]⟩=some (W4,true):=E.f38_le 100 _ _ (by kernel_rfl)
theorem ZLY :F.f53 W4=some [1,1,2,0]:=E.f53_le 100 _ _ (by kernel_rfl)
def W5 :List Data:=[⟨⟨#[78]⟩,[⟨⟨#[78,101,118,101,114]⟩,[⟨0,0⟩],0⟩]⟩,⟨⟨#[66]⟩,[⟨⟨#[84,114,117]⟩,[],0⟩,⟨⟨#[70,108,115]⟩,[],0⟩,⟨⟨#[77,97,121]⟩,[⟨0,0⟩],0⟩]⟩]
theorem ZLX :F.f38 ⟨#[78,61,78,101,118,101,114,40,78,41,59,66,61,84,114,117,124,70,108,115,124,77,97,121,40,78,41]⟩=some (W5,true):=E.f38_le 100 _ _ (by kernel_rfl)
theorem ZLW :F.f53 W5=some [0,0,0,0,1,1,1,1]:=E.f53_le 100 _ _ (by kernel_rfl)
def W6 :List Data:=[⟨⟨#[83]⟩,[⟨⟨#[82,101,100]⟩,[],0⟩,⟨⟨#[71,114,101,101,110]⟩,[],0⟩,⟨⟨#[66,108,117,101]⟩,[],0⟩,⟨⟨#[77,105,120]⟩,[⟨0,0⟩,⟨0,0⟩],0⟩]⟩]
theorem ZLV :F.f38 ⟨#[83,61,82,101,100,124,71,114,101,101,110,124,66,108,117,101,124,77,105,120,40,83,44,83,41]⟩=some (W6,true):=E.f38_le 100 _ _ (by kernel_rfl)
theorem ZLU :F.f53 W6=some [1,1,1,1]:=E.f53_le 100 _ _ (by kernel_rfl)
def ZEU :List ByteArray:=[⟨#[76,61,78,105,108,124,67,111,110,115,40,73,44,76,41]⟩,⟨#[66,61,84,114,117,124,70,108,115,59,84,61,76,101,97,102,124,78,111,100,101,40,84,44,66,44,84,41]⟩,⟨#[69,61,78,117,109,40,73,41,58,49,124,66,111,108,40,66,41,58,50,124,65,100,100,40,69,49,44,69,49,41,58,49,124,73,102,40,69,50,44,69,42,44,69,42,41,59,66,61,84,114,117,124,70,108,115]⟩,⟨#[79,61,78,111,110,124,83,111,109,40,73,41,59,80,61,80,97,105,114,40,79,44,79,41]⟩,⟨#[86,61,69,110,100,58,49,124,83,111,109,101,40,73,44,86,49,41,58,50,124,84,119,111,40,86,42,41]⟩,⟨#[78,61,78,101,118,101,114,40,78,41,59,66,61,84,114,117,124,70,108,115,124,77,97,121,40,78,41]⟩,⟨#[83,61,82,101,100,124,71,114,101,101,110,124,66,108,117,101,124,77,105,120,40,83,44,83,41]⟩,ByteArray.empty]
theorem P.YAh :F.f0=some ZEU:=rfl
def ZAQ :List (List Data):=[W0,W1,W2,W3,W4,W5,W6]
theorem P.YAg {K:Nat}{r:ZB}(h:rok K r)(hK:K<=1099511627776):∃w r',F.f39 r=some (w,r')/\rok (K+1) r'/\w∈ZAQ:=by
 unfold F.f39
 rw[P.YAh]
 simp only[oE,oS]
 obtain⟨v,r',e,h1,h2,h3,_⟩:=P.YH h hK 7
 have e7:i64.wrap (((8:Nat):Int) -1)=7:=by rw[ZF (by omega) (by omega)];rfl
 have e8:ZEU.length=8:=rfl
 rw[e8,e7,e]
 simp only[oS]
 have h3:=h3 (by omega)
 have hv:v=0∨v=1∨v=2∨v=3∨v=4∨v=5∨v=6:=by omega
 rcases hv with rfl|rfl|rfl|rfl|rfl|rfl|rfl
 ·have:at? ZEU 0=some (⟨#[76,61,78,105,108,124,67,111,110,115,40,73,44,76,41]⟩:ByteArray):=rfl
  rw[this];simp only[oS]
  rw[ZLh]
  exact⟨W0,r',rfl,h1,by simp[ZAQ]⟩
 ·have:at? ZEU 1=some (⟨#[66,61,84,114,117,124,70,108,115,59,84,61,76,101,97,102,124,78,111,100,101,40,84,44,66,44,84,41]⟩:ByteArray):=rfl
  rw[this];simp only[oS]
  rw[ZLf]
  exact⟨W1,r',rfl,h1,by simp[ZAQ]⟩
 ·have:at? ZEU 2=some (⟨#[69,61,78,117,109,40,73,41,58,49,124,66,111,108,40,66,41,58,50,124,65,100,100,40,69,49,44,69,49,41,58,49,124,73,102,40,69,50,44,69,42,44,69,42,41,59,66,61,84,114,117,124,70,108,115]⟩:ByteArray):=rfl
  rw[this];simp only[oS]
  rw[ZLd]
  exact⟨W2,r',rfl,h1,by simp[ZAQ]⟩
 ·have:at? ZEU 3=some (⟨#[79,61,78,111,110,124,83,111,109,40,73,41,59,80,61,80,97,105,114,40,79,44,79,41]⟩:ByteArray):=rfl
  rw[this];simp only[oS]
  rw[ZLb]
  exact⟨W3,r',rfl,h1,by simp[ZAQ]⟩
 ·have:at? ZEU 4=some (⟨#[86,61,69,110,100,58,49,124,83,111,109,101,40,73,44,86,49,41,58,50,124,84,119,111,40,86,42,41]⟩:ByteArray):=rfl
  rw[this];simp only[oS]
  rw[ZLZ]
  exact⟨W4,r',rfl,h1,by simp[ZAQ]⟩
 ·have:at? ZEU 5=some (⟨#[78,61,78,101,118,101,114,40,78,41,59,66,61,84,114,117,124,70,108,115,124,77,97,121,40,78,41]⟩:ByteArray):=rfl
  rw[this];simp only[oS]
  rw[ZLX]
  exact⟨W5,r',rfl,h1,by simp[ZAQ]⟩
 ·have:at? ZEU 6=some (⟨#[83,61,82,101,100,124,71,114,101,101,110,124,66,108,117,101,124,77,105,120,40,83,44,83,41]⟩:ByteArray):=rfl
  rw[this];simp only[oS]
  rw[ZLV]
  exact⟨W6,r',rfl,h1,by simp[ZAQ]⟩
def ZDa (code:List Int):Prop:=code.length<=maxLen/\∀x,x∈code->0<=x/\x<=255
theorem ZKN {code:List Int}(h:ZDa code)(hl:code.length<=2000):rok 0 ⟨code,0⟩:=⟨hl,h.2,Int.le_refl 0,Int.le_refl 0⟩
theorem ZMB {code:List Int}(h:ZDa code):rok 0 ⟨(code.drop 0).take (2000-0),0⟩:=⟨by simp;omega,fun x hx=>h.2 x (List.mem_of_mem_drop (List.mem_of_mem_take hx)),Int.le_refl 0,Int.le_refl 0⟩
theorem ZE5 {w:List Data}(h:w∈ZAQ):Zu w:=by
 simp only[ZAQ,List.mem_cons,List.not_mem_nil,or_false]at h
 rcases h with rfl|rfl|rfl|rfl|rfl|rfl|rfl<;>exact ZIv (by decide)
def tIx (w:List Data)(t:Ty):Prop:=t.data= -1∨(0<=t.data/\t.data<w.length/\0<=t.index/\t.index<=3)
theorem tIx.tOk {w:List Data}{t:Ty}(h:tIx w t):tOk w t:=h.imp id fun h=>⟨h.1,h.2.1⟩
def ZBs (T:List Int)(t:Ty):Int:=if t.data= -1 then 1 else T.getD (t.data*4+t.index).toNat 0
def ZBk (T:List Int):Int->List Ty->Int
 |m,[]=>m+1
 |m,a::r=>if ZBs T a=0 then 0 else ZBk T (if m<ZBs T a then ZBs T a else m) r
def ZCV (w:List Data)(T:List Int)(t:Ty)(c:Int):Int:=ZBk T 0 (ZO w t c)
def ZP0 (i:Int)(c:Ctor):Bool:=decide (i=0)||decide (c.index=0)||decide (c.index=i)
def ZNk (w:List Data)(T:List Int):Bool:=decide (T.length=w.length*4)&& T.all (fun x=>decide (0<=x)&& decide (x<=2))&&
 (List.range w.length).all fun d=>(List.range 4).all fun i=>decide (T.getD (d*4+i) 0=0)||
  (List.range (w.getD d Data.z).ctors.length).any fun k=>ZP0 i ((w.getD d Data.z).ctors.getD k Ctor.z)&& decide (ZCV w T ⟨d,i⟩ k=T.getD (d*4+i) 0)
theorem ZLA {i:Int}{c:Ctor}(h:ZP0 i c=true):ZK9 i c:=by
 simp only[ZP0,Bool.or_eq_true,decide_eq_true_eq]at h
 rcases h with(h|h)|h
 ·exact .inl h
 ·exact .inr (.inl h)
 ·exact .inr (.inr h)
theorem ZIw {i:Int}:∀{k:Nat} {l:List Ctor} {j:Nat} (hj:j<l.length),ZK9 i l[j]->((k+j:Nat):Int)∈ZE1 i k l
 |k,c::r,0,hj,h=>by simp only[ZE1];rw[if_pos (ZG (show ZK9 i c from h))];exact List.mem_append_left _ (by simp)
 |k,c::r,j+1,hj,h=>by
  simp only[ZE1]
  refine List.mem_append_right _ ?_
  have:=ZIw (k:=k+1) (l:=r) (j:=j) (by simpa using hj) h
  have e:k+1+j=k+(j+1):=by omega
  rwa[e]at this
structure TOk (w:List Data)(T:List Int):Prop where
 wok:ZN w
 len:T.length=w.length*4
 rng:∀k,0<=T.getD k 0/\T.getD k 0<=2
 has:∀t,tIx w t->t.data≠-1->ZBs T t≠0->∃c,c∈ZR w t/\ZCV w T t c=ZBs T t
theorem TOk.of {w:List Data}{T:List Int}(hw:ZN w)(h:ZNk w T=true):TOk w T:=by
 simp only[ZNk,Bool.and_eq_true,decide_eq_true_eq]at h
 obtain⟨⟨h1,h2⟩,h3⟩:=h
 refine⟨hw,h1,fun k=> ?_,fun t ht hn hd=> ?_⟩
 ·by_cases hk:k<T.length
  ·rw[List.getD_eq_getElem?_getD,gQ hk]
   have:=List.all_eq_true.1 h2 _ (gM hk)
   simpa using this
  ·rw[List.getD_eq_getElem?_getD,List.getElem?_eq_none (by omega)];simp
 ·obtain⟨q1,q2,q3,q4⟩:=ht.resolve_left hn
  have a1:=List.all_eq_true.1 h3 t.data.toNat (by simp;omega)
  have a2:=List.all_eq_true.1 a1 t.index.toNat (by simp;omega)
  simp only[Bool.or_eq_true,decide_eq_true_eq]at a2
  have e:(t.data*4+t.index).toNat=t.data.toNat*4+t.index.toNat:=by omega
  have ed:ZBs T t=T.getD (t.data.toNat*4+t.index.toNat) 0:=by unfold ZBs;rw[if_neg hn,e]
  have a3:=a2.resolve_left (by rw[←ed];exact hd)
  obtain⟨k,hk,hkk⟩:=List.any_eq_true.1 a3
  simp only[Bool.and_eq_true,decide_eq_true_eq]at hkk
  have et:(⟨(t.data.toNat:Int),(t.index.toNat:Int)⟩:Ty)=t:=by
   obtain⟨d,i⟩:=t
   simp only at q1 q3 ⊢
   rw[Int.toNat_of_nonneg q1,Int.toNat_of_nonneg q3]
  rw[et]at hkk
  have hk':k<(ZY w t).ctors.length:=by simpa[ZY]using hk
  refine⟨(k:Int),?_,by rw[hkk.2,ed]⟩
  unfold ZR
  rw[if_neg hn]
  have hf:=ZLA hkk.1
  rw[Int.toNat_of_nonneg q3]at hf
  have hg:(w.getD t.data.toNat Data.z).ctors.getD k Ctor.z=(ZY w t).ctors[k]:=by
   unfold ZY at hk' ⊢
   rw[List.getD_eq_getElem?_getD,gQ hk'];rfl
  rw[hg]at hf
  have:=ZIw (k:=0) hk' hf
  rwa[Nat.zero_add]at this
theorem TOk.dep {w:List Data}{T:List Int}(h:TOk w T)(t:Ty):0<=ZBs T t/\ZBs T t<=2:=by
 unfold ZBs;split
 ·omega
 ·exact h.rng _
theorem P.YL {w:List Data}{T:List Int}(h:TOk w T){t:Ty}(ht:tIx w t):F.f47 T t=some (ZBs T t):=by
 unfold F.f47 F.f46 ZBs
 by_cases hn:t.data= -1
 ·rw[if_pos hn,if_pos hn]
 ·obtain⟨q1,q2,q3,q4⟩:=ht.resolve_left hn
  have hw:=h.wok.1
  rw[if_neg hn,if_neg hn,ZF (n:=t.data*4) (by omega) (by omega),ZF (by omega) (by omega)]
  simp only[oE,oS]
  have hl:(t.data*4+t.index).toNat<T.length:=by rw[h.len];omega
  unfold at?
  rw[if_pos (by omega),gQ hl,List.getD_eq_getElem?_getD,gQ hl]
  rfl
theorem ZJ5 {w:List Data}(hw:ZN w){t:Ty}(ht:tIx w t){c:Int}(h:c∈ZR w t):∀a,a∈ZO w t c->tIx w a:=by
 have hc:=(Zo hw ht.tOk (ZV h).1).2 _ (ZAp h).2
 have hn:=(ZV h).1
 intro a ha
 obtain⟨b,hb,rfl⟩:=List.mem_map.1 ha
 obtain⟨j,hj,rfl⟩:=List.getElem_of_mem hb
 have:=hc.2.2.2.2 j (by omega) hj
 obtain⟨q1,q2,q3,q4⟩:=ht.resolve_left hn
 unfold ZCh
 rcases this with⟨p1,p2⟩|⟨p1,p2,p3,p4⟩
 ·rw[if_neg (by omega)];exact .inl p1
 ·split
  ·next e=>
   refine .inr ⟨p1,p2,?_,?_⟩
   ·show 0<=(if(Zc w t c).index=0 then t.index else(Zc w t c).index)
    split
    ·exact q3
    ·exact hc.2.2.1
   ·show(if(Zc w t c).index=0 then t.index else(Zc w t c).index)<=3
    split
    ·exact q4
    ·exact hc.2.2.2.1
  ·next e=>exact .inr ⟨p1,p2,by omega,p4⟩
theorem ZEj {w:List Data}{T:List Int}(h:TOk w T):∀(l:List Ty) (m:Int),0<=m->m<=2->0<=ZBk T m l/\ZBk T m l<=3/\(ZBk T m l≠0->m+1<=ZBk T m l/\∀a,a∈l->ZBs T a≠0/\ZBs T a+1<=ZBk T m l)
 | [],m,h0,h2=>⟨by simp only[ZBk];omega,by simp only[ZBk];omega,fun _=>⟨by simp only[ZBk];omega,fun a ha=>by cases ha⟩⟩
 |a::r,m,h0,h2=>by
  have hd:=h.dep a
  simp only[ZBk]
  by_cases ha:ZBs T a=0
  ·rw[if_pos ha];exact⟨by omega,by omega,fun h=>absurd rfl h⟩
  ·rw[if_neg ha]
   have hm:∃m',(if m<ZBs T a then ZBs T a else m)=m'/\0<=m'/\m'<=2/\m<=m'/\ZBs T a<=m':=by
    split
    ·exact⟨_,rfl,by omega,by omega,by omega,by omega⟩
    ·exact⟨_,rfl,by omega,by omega,by omega,by omega⟩
   obtain⟨m',e,k0,k2,k3,k4⟩:=hm
   rw[e]
   obtain⟨i1,i2,i3⟩:=ZEj h r m' k0 k2
   refine⟨i1,i2,fun hne=> ?_⟩
   obtain⟨j1,j2⟩:=i3 hne
   refine⟨by omega,fun b hb=> ?_⟩
   rcases List.mem_cons.1 hb with rfl|hb
   ·exact⟨ha,by omega⟩
   ·exact j2 b hb
def mR (n:Int):Lo Int Int:=if n=0 then .ret 0 else .go (n-1)
theorem P.Yd {w:List Data}{T:List Int}(h:TOk w T)(l:List Ty)(hl:∀a,a∈l->tIx w a):∀(n k:Nat) (m:Int),l.length-k=n->0<=m->m<=2->
  F.f48 T l m k=some (mR (ZBk T m (l.drop k))):=by
 intro n
 induction n with
 |zero=>
  intro k m hn h0 h2
  rw[F.f48,if_neg (by omega),List.drop_eq_nil_of_le (by omega)]
  show some (Lo.go m)=some (mR (m+1))
  unfold mR
  rw[if_neg (by omega)];congr 2;omega
 |succ n ih=>
  intro k m hn h0 h2
  have hk:k<l.length:=by omega
  have hd:=h.dep l[k]
  rw[F.f48,if_pos hk,gQ hk]
  simp only[oE,oS]
  rw[P.YL h (hl _ (gM hk)),List.drop_eq_getElem_cons hk]
  simp only[oS,ZBk]
  by_cases ha:ZBs T l[k]=0
  ·rw[if_pos ha,if_pos ha];rfl
  ·rw[if_neg ha,if_neg ha]
   by_cases hm:m<ZBs T l[k]
   ·rw[if_pos hm,if_pos hm,ih _ _ (by omega) (by omega) (by omega)]
   ·rw[if_neg hm,if_neg hm,ih _ _ (by omega) (by omega) (by omega)]
theorem P.YAH {w:List Data}{T:List Int}(h:TOk w T){t:Ty}(ht:tIx w t){c:Int}(hc:c∈ZR w t):F.f49 w T t c=some (ZCV w T t c):=by
 unfold F.f49
 rw[P.YF w h.wok t ht.tOk c hc]
 simp only[oE,oS]
 rw[P.Yd h _ (ZJ5 h.wok ht hc) _ 0 0 rfl (by omega) (by omega),List.drop_zero]
 simp only[oS]
 have:=ZEj h (ZO w t c) 0 (by omega) (by omega)
 unfold ZCV
 unfold mR
 by_cases h0:ZBk T 0 (ZO w t c)=0
 ·rw[if_pos h0,h0]
 ·rw[if_neg h0]
  show some (i64.wrap (ZBk T 0 (ZO w t c) -1+1))=_
  rw[ZF (by omega) (by omega)];congr 1;omega
def ZCc (w:List Data)(T:List Int)(t:Ty)(depth:Int)(c:Int):Bool:=decide (0<ZCV w T t c)&& (decide (ZCV w T t c<=depth)||decide (ZCV w T t c=ZBs T t))
theorem P.Yc {w:List Data}{T:List Int}(h:TOk w T){t:Ty}(ht:tIx w t)(r:ZB)(depth:Int)(l:List Int)(hl:∀c,c∈l->c∈ZR w t)(h8:l.length<=4):∀(n k:Nat) (out:List Int),l.length-k=n->out.length<=k->
  F.f55 r w T t depth l out k=some (out++(l.drop k).filter (ZCc w T t depth)):=by
 intro n
 induction n with
 |zero=>intro k out hn ho;rw[F.f55,if_neg (by omega),List.drop_eq_nil_of_le (by omega)];simp
 |succ n ih=>
  intro k out hn ho
  have hk:k<l.length:=by omega
  rw[F.f55,if_pos hk,gQ hk]
  simp only[oE,oS]
  rw[P.YAH h ht (hl _ (gM hk)),List.drop_eq_getElem_cons hk,P.YL h ht]
  simp only[oS]
  have yes:ZCc w T t depth l[k]=true->F.f55 r w T t depth l (out++[l[k]]) (k+1)=some (out++(l[k]::l.drop (k+1)).filter (ZCc w T t depth)):=fun hf=>by
   rw[ih (k+1) _ (by omega) (by simp;omega),List.filter_cons_of_pos hf];simp
  have no:ZCc w T t depth l[k]=false->F.f55 r w T t depth l out (k+1)=some (out++(l[k]::l.drop (k+1)).filter (ZCc w T t depth)):=fun hf=>by
   rw[ih (k+1) _ (by omega) (by omega),List.filter_cons_of_neg (by simp[hf])]
  by_cases h1:0<ZCV w T t l[k]
  ·rw[if_pos h1]
   by_cases h2:ZCV w T t l[k]<=depth
   ·rw[if_pos h2,if_pos (by omega)];exact yes (by simp[ZCc,h1,h2])
   ·rw[if_neg h2]
    by_cases h3:ZCV w T t l[k]=ZBs T t
    ·rw[if_pos h3,if_pos (by omega)];exact yes (by simp only[ZCc,h1,h3];simp[←h3,h1])
    ·rw[if_neg h3];exact no (by simp[ZCc,h2,h3])
  ·rw[if_neg h1];exact no (by simp[ZCc,h1])
theorem ZIx {w:List Data}(hw:ZN w){t:Ty}(ht:tOk w t):(ZR w t).length<=4:=by
 unfold ZR
 split
 ·simp
 ·next hn=>exact Nat.le_trans (ZHC _ _ _) (Zo hw ht hn).1
theorem ZNg (c n:Int)(ks:List Value):(⟨c,n,ks⟩:Value).wt=((ks.map fun k=>1+k.wt).sum):=by
 have:=ZLz ⟨c,n,ks⟩
 simpa using this
theorem P.YAR {w:List Data}{T:List Int}(h:TOk w T):∀(n:Nat) (t:Ty) (depth:Int) (K:Nat) (r:ZB),tIx w t->ZBs T t≠0->ZBs T t<=n->depth<=n->-1000000+n<=depth->n<=12->rok K r->K+4^n<=1099511627776->
  ∃v r',F.f56 r w T t depth=some (v,r')/\rok (K+4^n) r'/\pv w false n t v/\v.wt+1<=4^n/\(t.data≠-1->∀a,a∈ZO w t v.ctor->ZBs T a≠0)
 |0,t,depth,K,r,ht,hd,hdn,_,_,_,_,_=>by have:=h.dep t;omega
 |n+1,t,depth,K,r,ht,hd,hdn,hde,hlo,h12,hr,hK=>by
  have p4:1<=4^n:=Nat.one_le_pow _ _ (by omega)
  have p4':4^ (n+1)=4*4^n:=by rw[Nat.pow_succ];omega
  rw[F.f56]
  by_cases hn:t.data= -1
  ·rw[if_pos hn]
   obtain⟨v,r',e,h1,h2,h3,_⟩:=P.YH hr (by omega) 10
   have h3:=h3 (by omega)
   rw[e]
   refine⟨_,_,rfl,h1.mono (by omega),?_,?_,fun h=>absurd hn h⟩
   ·exact .inr ⟨by simp,.inl ⟨hn,rfl,h2,by show v<=9;omega,rfl⟩⟩
   ·rw[ZNg];simp;omega
  ·rw[if_neg hn,P.YM w h.wok t ht.tOk]
   simp only[oE,oS]
   rw[P.Yc h ht r depth _ (fun c hc=>hc) (ZIx h.wok ht.tOk) _ 0 [] rfl (by simp),List.drop_zero,List.nil_append]
   simp only[oS]
   obtain⟨c0,hc0,hm0⟩:=h.has t ht hn hd
   have hdt:=h.dep t
   have hf0:c0∈(ZR w t).filter (ZCc w T t depth):=List.mem_filter.2 ⟨hc0,by simp only[ZCc,hm0];simp;omega⟩
   have hpos:=List.length_pos_of_mem hf0
   obtain⟨v,r1,e,h1,h2,h3,_⟩:=P.YH hr (by omega) (((ZR w t).filter (ZCc w T t depth)).length:Int)
   obtain⟨c,hcx,hcm⟩:=ZEJ h2 (h3 (by omega))
   rw[e];simp only[oS]
   rw[hcx];simp only[oS]
   obtain⟨hcl,hcf⟩:=List.mem_filter.1 hcm
   simp only[ZCc,Bool.and_eq_true,Bool.or_eq_true,decide_eq_true_eq]at hcf
   rw[P.YF w h.wok t ht.tOk c hcl]
   simp only[oS]
   obtain⟨g1,g2,g3⟩:=ZEj h (ZO w t c) 0 (by omega) (by omega)
   have g3:=g3 (by unfold ZCV at hcf;omega)
   have hal:=(ZNP h.wok ht.tOk hcl).1
   have hax:=ZJ5 h.wok ht hcl
   have hmn:ZCV w T t c<=(n:Int)+1:=by rcases hcf.2 with q|q<;>omega
   have kid:∀a,a∈ZO w t c->∀K r,rok K r->K+4^n<=1099511627776->∃v r',F.f56 r w T a (i64.wrap (depth-1))=some (v,r')/\rok (K+4^n) r'/\pv w false n a v/\v.wt+1<=4^n:=by
    intro a ha K r hr hK
    rw[ZF (by omega) (by omega)]
    obtain⟨q1,q2⟩:=g3.2 a ha
    obtain⟨v,r',e,k1,k2,k3,_⟩:=P.YAR h n a (depth-1) K r (hax a ha) q1 (by unfold ZCV at hmn;omega) (by omega) (by omega) (by omega) hr hK
    exact⟨v,r',e,k1,k2,k3⟩
   have loop:∀(m k:Nat) (z:List Int) (z33:Int) (out:List Value) (K:Nat),(ZO w t c).length-k=m->out.length=k->rok K ⟨z,z33⟩->K+m*4^n<=1099511627776->
     (∀i (hi:i<out.length) (hi':i<(ZO w t c).length),pv w false n (ZO w t c)[i] out[i])->((out.map fun k=>1+k.wt).sum)<=k*4^n->k<=(ZO w t c).length->
     ∃z' z33' out',F.f57 w T depth c (ZO w t c) z z33 out k=some (z',z33',out')/\rok (K+m*4^n) ⟨z',z33'⟩/\out'.length=(ZO w t c).length/\
      (∀i (hi:i<out'.length) (hi':i<(ZO w t c).length),pv w false n (ZO w t c)[i] out'[i])/\((out'.map fun k=>1+k.wt).sum)<=(ZO w t c).length*4^n:=by
    intro m
    induction m with
    |zero=>
     intro k z z33 out K hm ho hr hK hp hs hk
     rw[F.f57,if_neg (by omega)]
     have:k=(ZO w t c).length:=by omega
     subst this
     exact⟨z,z33,out,rfl,by simpa using hr,ho,hp,hs⟩
    |succ m ih=>
     intro k z z33 out K hm ho hr hK hp hs hkl
     have hk:k<(ZO w t c).length:=by omega
     rw[F.f57,if_pos hk,gQ hk]
     simp only[oE,oS]
     have e1:(m+1)*4^n=m*4^n+4^n:=by rw[Nat.succ_mul]
     obtain⟨v,r',e,k1,k2,k3⟩:=kid _ (gM hk) K ⟨z,z33⟩ hr (by omega)
     rw[e];simp only[oS]
     rw[if_pos (by omega)]
     have e2:(k+1)*4^n=k*4^n+4^n:=by rw[Nat.succ_mul]
     have key:=fun p1 p2=>ih (k+1) r'.f0 r'.f1 (out++[v]) (K+4^n) (by omega) (by simp[ho]) k1 (by omega) p1 p2 hk
     obtain⟨z',z33',out',q1,q2,q3⟩:=key (by
      intro i hi hi'
      by_cases hik:i<out.length
      ·rw[List.getElem_append_left hik];exact hp i hik hi'
      ·have:i=k:=by simp at hi;omega
       subst this
       rw[List.getElem_append_right (by omega)]
       simpa using k2) (by
      simp only[List.map_append,List.sum_append,List.map_cons,List.map_nil,List.sum_cons,List.sum_nil];omega)
     exact⟨z',z33',out',q1,q2.mono (by omega),q3⟩
   have m3:(ZO w t c).length*4^n<=3*4^n:=Nat.mul_le_mul_right _ hal
   obtain⟨z',z33',out',q1,q2,q3,q4,q5⟩:=loop _ 0 r1.f0 r1.f1 [] (K+1) rfl rfl h1 (by simp only[Nat.sub_zero];omega) (fun i hi=>by simp at hi) (by simp) (by omega)
   rw[q1];simp only[oS]
   refine⟨_,_,rfl,q2.mono (by simp only[Nat.sub_zero];omega),?_,?_,fun _ a ha=>(g3.2 a ha).1⟩
   ·refine .inr ⟨by simp,.inr ⟨hn,rfl,hcl,q3,fun i _ _ hi hi'=>q4 i hi' hi⟩⟩
   ·rw[ZNg];omega
theorem P.YAc {w:List Data}{T:List Int}(h:TOk w T)(n:Nat)(t:Ty)(depth:Int)(K:Nat)(r:ZB)(a1:tIx w t)(a2:ZBs T t≠0)(a3:ZBs T t<=n)(a4:depth<=n)(a5: -1000000+n<=depth)(a6:n<=12)(a7:rok K r)(a8:K+4^n<=1099511627776):
  ∃v r',F.f56 r w T t depth=some (v,r')/\rok (K+4^n) r'/\pv w false n t v/\v.wt+1<=4^n:=by
 obtain⟨v,r',e,k1,k2,k3,_⟩:=P.YAR h n t depth K r a1 a2 a3 a4 a5 a6 a7 a8
 exact⟨v,r',e,k1,k2,k3⟩
theorem ZG8 {w:List Data}(hw:w∈ZAQ):ZN w/\1<=w.length/\w.length<=2/\Zu w/\∃T,F.f53 w=some T/\TOk w T:=by
 have hs:=ZE5 hw
 have wok:F.f24 w=some true->ZN w:=fun h=>by rw[P.YN w hs]at h;exact ZDV.1 (Option.some.inj h)
 simp only[ZAQ,List.mem_cons,List.not_mem_nil,or_false]at hw
 rcases hw with rfl|rfl|rfl|rfl|rfl|rfl|rfl
 ·have:=wok (E.f24_le 100 _ _ (by kernel_rfl));exact⟨this,by decide,by decide,hs,_,ZLg,TOk.of this (by decide)⟩
 ·have:=wok (E.f24_le 100 _ _ (by kernel_rfl));exact⟨this,by decide,by decide,hs,_,ZLe,TOk.of this (by decide)⟩
 ·have:=wok (E.f24_le 100 _ _ (by kernel_rfl));exact⟨this,by decide,by decide,hs,_,ZLc,TOk.of this (by decide)⟩
 ·have:=wok (E.f24_le 100 _ _ (by kernel_rfl));exact⟨this,by decide,by decide,hs,_,ZLa,TOk.of this (by decide)⟩
 ·have:=wok (E.f24_le 100 _ _ (by kernel_rfl));exact⟨this,by decide,by decide,hs,_,ZLY,TOk.of this (by decide)⟩
 ·have:=wok (E.f24_le 100 _ _ (by kernel_rfl));exact⟨this,by decide,by decide,hs,_,ZLW,TOk.of this (by decide)⟩
 ·have:=wok (E.f24_le 100 _ _ (by kernel_rfl));exact⟨this,by decide,by decide,hs,_,ZLU,TOk.of this (by decide)⟩
theorem P.YAb {K:Nat}{r:ZB}(h:rok K r)(hK:K+300<=1099511627776):∃w t v r' T,F.f58 r=some (w,t,v,r')/\rok (K+300) r'/\w∈ZAQ/\F.f53 w=some T/\TOk w T/\tIx w t/\t.index<=2/\0<=t.index/\ZBs T t≠0/\pv w false 4 t v/\v.wt+1<=256/\(t.data= -1->t.index=0):=by
 unfold F.f58
 obtain⟨w,r1,e1,h1,hw⟩:=P.YAg h (by omega)
 obtain⟨hwo,hl1,hl2,hs,T,hT,hTo⟩:=ZG8 hw
 obtain⟨p,r2,e2,h2,p0,p1,_⟩:=P.YH h1 (by omega) (w.length:Int)
 obtain⟨i,r3,e3,h3,hi⟩:=P.num h2 (by omega) [0,0,1,2] (by simp)
 obtain⟨d,r4,e4,h4,hd⟩:=P.num h3 (by omega) [3,2,4,1] (by simp)
 have hi:0<=i/\i<=2:=by simp at hi;omega
 have hd:1<=d/\d<=4:=by simp at hd;omega
 have p1:=p1 (by omega)
 have ht:tIx w ⟨p,i⟩:=.inr ⟨p0,p1,hi.1,by show i<=3;omega⟩
 rw[e1];simp only[oE,oS]
 rw[hT];simp only[oS]
 rw[e2];simp only[oS]
 rw[e3];simp only[oS]
 rw[P.YL hTo ht,e4];simp only[oS]
 split
 ·obtain⟨v,r',e,k1,k2,k3⟩:=P.YAc hTo 4 ⟨-1,0⟩ d _ r4 (.inl rfl) (by simp[ZBs]) (by simp[ZBs]) (by omega) (by omega) (by omega) h4 (by omega)
  rw[e]
  exact⟨w,⟨-1,0⟩,v,r',T,rfl,k1.mono (by omega),hw,hT,hTo,.inl rfl,by simp,by simp,by simp[ZBs],k2,k3,fun _=>rfl⟩
 ·next hne=>
  have:=hTo.dep ⟨p,i⟩
  obtain⟨v,r',e,k1,k2,k3⟩:=P.YAc hTo 4 ⟨p,i⟩ d _ r4 ht hne (by omega) (by omega) (by omega) (by omega) h4 (by omega)
  rw[e]
  exact⟨w,⟨p,i⟩,v,r',T,rfl,k1.mono (by omega),hw,hT,hTo,ht,hi.2,hi.1,hne,k2,k3,fun hh=>by have:p= -1:=hh;omega⟩
theorem ZDc {a b:ByteArray}(h:a.data.toList=b.data.toList):a=b:=by
 obtain⟨x⟩:=a
 obtain⟨y⟩:=b
 congr 1
 exact Array.toList_inj.1 h
theorem ZFu (a b:ByteArray):(a++b).data.toList=a.data.toList++b.data.toList:=by rw[ByteArray.data_append,Array.toList_append]
theorem ZDb (a:ByteArray):a.size=a.data.toList.length:=by rw[Array.length_toList];rfl
theorem ZZ (a b:ByteArray):(a++b).size=a.size+b.size:=by rw[ZDb,ZFu,List.length_append,←ZDb,←ZDb]
theorem ZHa (a b c:ByteArray):a++b++c=a++(b++c):=ZDc (by simp[ZFu])
theorem ZHZ (a:ByteArray):a++ByteArray.empty=a:=ZDc (by simp[ZFu])
theorem ZOS (a:ByteArray):ByteArray.empty++a=a:=ZDc (by simp[ZFu])
theorem ZCY (ks:List ByteArray)(c:ByteArray):(ZCD ks c).data.toList=Lib.join (ks.map (·.data.toList)) c.data.toList:=by simp[ZCD]
theorem ZJg (x c:ByteArray):ZCD [x] c=x:=ZDc (by rw[ZCY];simp[Lib.join_one])
theorem ZD6 {ks:List ByteArray}(k c:ByteArray)(h:ks≠[]):ZCD (ks++[k]) c=ZCD ks c++c++k:=by
 obtain⟨x,r,rfl⟩:=List.exists_cons_of_ne_nil h
 refine ZDc ?_
 simp only[ZCY,ZFu,List.cons_append,List.map_cons,List.map_append,List.map_nil,Lib.join_cons]
 simp[Lib.joinTail]
noncomputable def ZIl (o c:ByteArray)(ks:List ByteArray):ByteArray:=if ks=[]then ByteArray.empty else o++ZCD ks c
theorem ZJH (o c:ByteArray)(ks:List ByteArray)(k:ByteArray):ZIl o c (ks++[k])=ZIl o c ks++(if ks=[]then o else c)++k:=by
 unfold ZIl
 rw[if_neg (by simp)]
 by_cases h:ks=[]
 ·subst h
  simp[ZJg,ZOS]
 ·rw[if_neg h,if_neg h,ZD6 k c h]
  simp[ZHa]
def ZAb (ks:List ByteArray):Nat:=(ks.map fun x=>1+x.size).sum
theorem ZID (ks:List ByteArray)(k:ByteArray):ZAb (ks++[k])=ZAb ks+(1+k.size):=by simp[ZAb]
theorem ZFJ {o c:ByteArray}(ho:o.size=1)(hc:c.size=1)(ks:List ByteArray):(ZIl o c ks).size=ZAb ks:=by
 have:∀n,∀ks:List ByteArray,ks.length=n->(ZIl o c ks).size=ZAb ks:=by
  intro n
  induction n with
  |zero=>intro ks h;cases ks with
   |nil=>simp[ZIl,ZAb]
   |cons=>simp at h
  |succ n ih=>
   intro ks h
   obtain⟨l,k,rfl⟩:∃l k,ks=l++[k]:=⟨ks.dropLast,ks.getLast (by intro e;subst e;simp at h),(List.dropLast_concat_getLast _).symm⟩
   rw[ZJH,ZZ,ZZ,ih l (by simpa using h),ZID]
   split<;>omega
 exact this _ ks rfl
theorem ZJc (ks:List ByteArray):ks.length<=ZAb ks:=by
 induction ks with
 |nil=>simp
 |cons x r ih=>simp only[ZAb,List.map_cons,List.sum_cons,List.length_cons]at ih ⊢;omega
theorem ZCC {c:ByteArray}(hc:c.size=1){ks:List ByteArray}(h:ks≠[]):(ZCD ks c).size+1=ZAb ks:=by
 have:=ZFJ (o:=⟨#[40]⟩) rfl hc ks
 rw[ZIl,if_neg h,ZZ]at this
 have e:(⟨#[40]⟩:ByteArray).size=1:=rfl
 omega
theorem ZFW {c:ByteArray}(hc:c.size=1){ks:List ByteArray}(h:ZAb ks<=140737488355328):ZHP ks c:=by
 refine⟨by have:=ZJc ks;omega,?_⟩
 by_cases hk:ks=[]
 ·subst hk;simp[Lib.join_nil]
 ·have:=ZCC hc hk
  rw[ZDb,ZCY]at this
  omega
theorem ZPv {n:Nat}{Q:Nat->ByteArray->Prop}:(∀i,i<n->∃s,Q i s)->∃T:List ByteArray,T.length=n/\∀i (h:i<T.length),Q i T[i]:=by
 induction n with
 |zero=>intro _;exact⟨[],rfl,fun i h=>by simp at h⟩
 |succ n ih=>
  intro h
  obtain⟨T,h1,h2⟩:=ih fun i hi=>h i (by omega)
  obtain⟨s,hs⟩:=h n (by omega)
  refine⟨T++[s],by simp[h1],fun i hi=> ?_⟩
  by_cases e:i<T.length
  ·rw[List.getElem_append_left e];exact h2 i e
  ·have:i=T.length:=by simp at hi;omega
   subst this
   rw[List.getElem_append_right (by omega)]
   simp only[Nat.sub_self,List.getElem_singleton]
   rw[h1];exact hs
theorem ZL2 (n:Int):IntKind.u8.wrap n=n%256:=rfl
theorem ZE4 (n:Int):i64.wrap n%256=n%256:=by
 have:i64.wrap n=n%18446744073709551616∨i64.wrap n=n%18446744073709551616-18446744073709551616:=by
  unfold IntKind.wrap
  simp only
  split
  ·exact .inr rfl
  ·exact .inl rfl
 rcases this with e|e<;>omega
noncomputable def ZDp (l:List VarType)(n:Int):Int:=match ZF3 (fun x=>x.var=n) 0 l with
 |some j=>(j:Int)
 |none=> -1
theorem P.YE (l:List VarType)(n:Int):F.f79 l n=some (ZDp l n):=by
 unfold F.f79 ZDp
 rw[ZLB (a:=l) (p:=fun x=>x.var=n) (L:=F.f78 l n) (fun k hk=>by rw[F.f78,if_neg (by omega)])
  (fun k hk hp=>by rw[F.f78,if_pos hk,gQ hk];simp only[oE,oS];rw[if_neg hp])
  (fun k hk hp=>by rw[F.f78,if_pos hk,gQ hk];simp only[oE,oS];rw[if_pos hp]) _ 0 rfl,List.drop_zero]
 cases ZF3 (fun x=>x.var=n) 0 l<;>rfl
theorem ZBp (l:List VarType)(n:Int):ZDp l n= -1∨∃(j:Nat) (h:j<l.length),ZDp l n=(j:Int)/\l[j].var=n/\∀i (hi:i<l.length),i<j->l[i].var≠n:=by
 unfold ZDp
 cases h:ZF3 (fun x:VarType=>x.var=n) 0 l with
 |none=>exact .inl rfl
 |some j=>
  obtain⟨_,h2,h3,h4⟩:=ZAu h
  exact .inr ⟨j,h2,rfl,h3,h4⟩
theorem ZEC (l:List VarType)(j:Nat)(hj:j<l.length):ZDp l l[j].var=(j:Int)↔∀i (hi:i<l.length),i<j->l[i].var≠l[j].var:=by
 constructor
 ·intro h
  rcases ZBp l l[j].var with q|⟨k,hk,q1,q2,q3⟩
  ·omega
  ·have:k=j:=by omega
   subst this;exact q3
 ·intro h
  unfold ZDp
  cases hf:ZF3 (fun x:VarType=>x.var=l[j].var) 0 l with
  |none=>exact absurd rfl (ZAv hf l[j] (gM hj))
  |some k=>
   obtain⟨_,h2,h3,h4⟩:=ZAu hf
   show(k:Int)=j
   have:¬k<j:=fun hlt=>h k h2 hlt h3
   have:¬j<k:=fun hlt=>h4 j hj (by omega) rfl
   omega
theorem P.YAo (v:Int):F.f116 v=some (dec (0<=v/\v<=5)):=by
 unfold F.f116;rw[P.YG];rfl
theorem ZEL {w:List Data}(hw:ZN w){t:Ty}(ht:Zb w t){c:Int}(h:c∈ZR w t):∀a,a∈ZO w t c->Zb w a:=by
 have hc:=(Zo hw (ZA8 ht.1) (ZV h).1).2 _ (ZAp h).2
 have hn:=(ZV h).1
 intro a ha
 obtain⟨b,hb,rfl⟩:=List.mem_map.1 ha
 obtain⟨j,hj,rfl⟩:=List.getElem_of_mem hb
 have:=hc.2.2.2.2 j (by omega) hj
 have ht2:=ht.2
 rcases ht.1 with q|⟨q1,q2,q3,q4⟩
 ·exact absurd q.1 hn
 unfold ZCh
 rcases this with⟨p1,p2⟩|⟨p1,p2,p3,p4⟩
 ·rw[if_neg (by omega)];exact⟨.inl ⟨p1,p2⟩,by omega⟩
 ·split
  ·next e=>
   have hx:0<=(if(Zc w t c).index=0 then t.index else(Zc w t c).index)/\(if(Zc w t c).index=0 then t.index else(Zc w t c).index)<=3:=by
    split
    ·exact⟨ht2,q4⟩
    ·exact⟨hc.2.2.1,hc.2.2.2.1⟩
   exact⟨.inr ⟨p1,p2,by show -1<=(if(Zc w t c).index=0 then t.index else(Zc w t c).index);omega,hx.2⟩,hx.1⟩
  ·next e=>exact⟨.inr ⟨p1,p2,p3,p4⟩,by omega⟩
theorem P.YAL (T:List ByteArray)(hb:ZAb T<=140737488355328):F.f160 T=some (ZIl ⟨#[40]⟩ ⟨#[44]⟩ T++if T=[]then ByteArray.empty else⟨#[41]⟩):=by
 unfold F.f160
 by_cases h:T=[]
 ·subst h
  simp[ZIl,ZHZ]
 ·have z1:(⟨#[44]⟩:ByteArray).size=1:=rfl
  have z0:(⟨#[40]⟩:ByteArray).size=1:=rfl
  have z2:(⟨#[41]⟩:ByteArray).size=1:=rfl
  have z:=ZCC z1 h
  rw[if_neg (by intro hh;exact h (List.length_eq_zero_iff.1 hh))]
  unfold F.f159
  rw[if_pos (ZFW z1 hb)]
  simp only[oE,oS]
  rw[if_pos (by omega),if_pos (by rw[ZZ];omega),ZIl,if_neg h,if_neg h]
def ZA9 (w:List Data)(t:Ty)(p:Pattern):Prop:=
 (p.op=1/\p.var=0/\p.n=0/\p.m=0/\p.ctor=0)∨
 (p.op=2/\0<=p.var/\p.var<=5/\p.n=0/\p.m=0/\p.ctor=0)∨
 (p.op=3/\p.var=0/\p.ctor=0/\t.data= -1/\0<=p.n/\p.n<=p.m/\p.m<=9)∨
 (p.op=4/\p.var=0/\p.n=0/\p.m=0/\p.ctor∈ZR w t)∨
 (p.op=5/\p.var=0/\p.n=0/\p.m=0/\p.ctor=0)∨
 (p.op=6/\0<=p.var/\p.var<=5/\p.n=0/\p.m=0/\p.ctor=0)
noncomputable def ZI (w:List Data)(t:Ty)(p:Pattern):List Ty:=if p.op=4 then ZO w t p.ctor else if p.op=5 then[t,t]else if p.op=6 then[t]else[]
theorem P.YAM (w:List Data)(hw:ZN w)(t:Ty)(ht:tOk w t)(p:Pattern):F.f66 w t p=some (dec (ZA9 w t p)):=by
 unfold F.f66
 rw[P.YM w hw t ht]
 simp only[oE,oS,P.YAN]
 have yes:ZA9 w t p->some true=some (dec (ZA9 w t p)):=fun h=>by rw[ZG h]
 have no:¬ZA9 w t p->some false=some (dec (ZA9 w t p)):=fun h=>by rw[ZE h]
 repeat' split
 all_goals first
  |(refine no fun h=> ?_;unfold ZA9 at h;omega)
  |(refine yes ?_;unfold ZA9;omega)
  |skip
 ·rw[←ZAH];congr 1;refine ZL ?_;unfold ZA9;omega
 ·congr 1;refine ZL ⟨fun h=>.inr (.inr (.inr (.inl ⟨by assumption,by assumption,by assumption,by assumption,h⟩))),fun h=> ?_⟩
  unfold ZA9 at h
  rcases h with h|h|h|h|h|h
  ·omega
  ·omega
  ·omega
  ·exact h.2.2.2.2
  ·omega
  ·omega
theorem P.YJ (w:List Data)(hw:ZN w)(t:Ty)(ht:tOk w t)(p:Pattern)(h:ZA9 w t p):F.f69 w t p=some (ZI w t p):=by
 unfold F.f69 ZI
 by_cases h4:p.op=4
 ·rw[if_pos h4,if_pos h4]
  have hc:p.ctor∈ZR w t:=by
   unfold ZA9 at h
   rcases h with h|h|h|h|h|h
   ·omega
   ·omega
   ·omega
   ·exact h.2.2.2.2
   ·omega
   ·omega
  rw[P.YF w hw t ht _ hc];rfl
 ·rw[if_neg h4,if_neg h4]
  have k:F.f67 p.op=some (if p.op=5 then 2 else if p.op=6 then 1 else 0):=by
   unfold F.f67;split
   ·rfl
   ·split
    ·rfl
    ·rfl
  by_cases h5:p.op=5
  ·rw[if_pos h5]
   rw[if_pos h5]at k
   rw[F.f68,k]
   simp only[oE,oS]
   rw[if_pos (by omega),if_pos (by simp),if_pos (by omega),F.f68,k]
   simp only[oE,oS]
   rw[if_pos (by omega),if_pos (by simp),if_pos (by omega),F.f68,k]
   simp only[oE,oS]
   rw[if_neg (by omega)];simp
  ·rw[if_neg h5]
   rw[if_neg h5]at k
   by_cases h6:p.op=6
   ·rw[if_pos h6]
    rw[if_pos h6]at k
    rw[F.f68,k]
    simp only[oE,oS]
    rw[if_pos (by omega),if_pos (by simp),if_pos (by omega),F.f68,k]
    simp only[oE,oS]
    rw[if_neg (by omega)];simp
   ·rw[if_neg h6]
    rw[if_neg h6]at k
    rw[F.f68,k]
    simp only[oE,oS]
    rw[if_neg (by omega)];simp
theorem ZAT {w:List Data}(hw:ZN w){t:Ty}(ht:Zb w t){p:Pattern}(h:ZA9 w t p):∀a,a∈ZI w t p->Zb w a:=by
 unfold ZI
 intro a ha
 split at ha
 ·next h4=>
  have hc:p.ctor∈ZR w t:=by
   unfold ZA9 at h
   rcases h with h|h|h|h|h|h
   ·omega
   ·omega
   ·omega
   ·exact h.2.2.2.2
   ·omega
   ·omega
  exact ZEL hw ht hc a ha
 ·split at ha
  ·simp at ha;subst ha;exact ht
  ·split at ha
   ·simp at ha;subst ha;exact ht
   ·cases ha
theorem P.YAW (p:Pattern)(c n v:Bool)(k:Int):F.f115 p c n v k=some (dec ((c=true∨p.ctor=0)/\(n=true∨(p.n=0/\p.m=0))/\(v=true∨p.var=0)/\(p.kids.length:Int)=k)):=by
 unfold F.f115
 cases c<;>cases n<;>cases v<;>simp only[Bool.false_eq_true,if_true,if_false,false_or,true_or,true_and]
 all_goals(repeat' split)
 all_goals first
  |(rw[←ZAH];done)
  |(rw[←ZAH];congr 1;refine ZL ?_;omega)
  |(rw[ZE];omega)
theorem P.Yk (w:List Data)(hw:ZN w)(t:Ty)(ht:tOk w t)(p:Pattern):
  ∃ts,F.f125 w t p=some (ts,dec (ZA9 w t p/\p.kids.length=(ZI w t p).length))/\(ZA9 w t p->ts=ZI w t p):=by
 unfold F.f125
 simp only[P.YAW,P.YAo,P.YAD w hw t ht,P.YO,oE,oS,ZDV]
 by_cases h1:p.op=1
 ·rw[if_pos h1]
  have e:ZI w t p=[]:=by unfold ZI;rw[if_neg (by omega),if_neg (by omega),if_neg (by omega)]
  rw[e]
  refine⟨[],?_,fun _=>rfl⟩
  congr 2;refine ZL ?_;unfold ZA9;simp only[Bool.false_eq_true,false_or,List.length_nil];omega
 rw[if_neg h1]
 by_cases h2:p.op=2
 ·rw[if_pos h2]
  have e:ZI w t p=[]:=by unfold ZI;rw[if_neg (by omega),if_neg (by omega),if_neg (by omega)]
  rw[e]
  refine⟨[],?_,fun _=>rfl⟩
  split
  ·next hh=>
   simp only[Bool.false_eq_true,false_or,true_or,true_and]at hh
   congr 2;refine ZL ?_;unfold ZA9;simp only[List.length_nil,List.length_cons];omega
  ·next hh=>
   simp only[Bool.false_eq_true,false_or,true_or,true_and]at hh
   rw[ZE];unfold ZA9;simp only[List.length_nil,List.length_cons];omega
 rw[if_neg h2]
 by_cases h3:p.op=3
 ·rw[if_pos h3]
  have e:ZI w t p=[]:=by unfold ZI;rw[if_neg (by omega),if_neg (by omega),if_neg (by omega)]
  rw[e]
  refine⟨[],?_,fun _=>rfl⟩
  simp only[Bool.false_eq_true,false_or,true_or,true_and,List.length_nil]
  repeat' split
  all_goals first
   |(rw[←ZAH];congr 2;refine ZL ?_;unfold ZA9;omega)
   |(rw[ZE];unfold ZA9;omega)
 rw[if_neg h3]
 by_cases h4:p.op=4
 ·rw[if_pos h4]
  have e:ZI w t p=ZO w t p.ctor:=by unfold ZI;rw[if_pos h4]
  rw[e]
  by_cases hc:p.ctor∈ZR w t
  ·rw[if_pos hc,P.Yv w hw t ht _ hc]
   simp only[oS]
   refine⟨ZO w t p.ctor,?_,fun _=>rfl⟩
   congr 2;refine ZL ⟨fun h=>⟨.inr (.inr (.inr (.inl ⟨h4,?_,?_,?_,hc⟩))),?_⟩,fun h=> ?_⟩
   ·simp at h;exact h.2.1
   ·simp at h;exact h.1.1
   ·simp at h;exact h.1.2
   ·simp at h;omega
   ·obtain⟨h,hl⟩:=h
    unfold ZA9 at h
    rcases h with h|h|h|h|h|h
    ·omega
    ·omega
    ·omega
    ·exact⟨.inl trivial,.inr ⟨h.2.2.1,h.2.2.2.1⟩,.inr h.2.1,by omega⟩
    ·omega
    ·omega
  ·rw[if_neg hc]
   have hn:¬ZA9 w t p:=by
    intro h
    unfold ZA9 at h
    rcases h with h|h|h|h|h|h
    ·omega
    ·omega
    ·omega
    ·exact hc h.2.2.2.2
    ·omega
    ·omega
   exact⟨[],by rw[ZE fun h=>hn h.1],fun h=>absurd h hn⟩
 rw[if_neg h4]
 by_cases h5:p.op=5
 ·rw[if_pos h5]
  have e:ZI w t p=[t,t]:=by unfold ZI;rw[if_neg (by omega),if_pos (by omega)]
  rw[e]
  refine⟨[t,t],?_,fun _=>rfl⟩
  congr 2;refine ZL ?_;unfold ZA9;simp only[Bool.false_eq_true,false_or,List.length_nil,List.length_cons];omega
 rw[if_neg h5]
 by_cases h6:p.op=6
 ·rw[if_pos h6]
  have e:ZI w t p=[t]:=by unfold ZI;rw[if_neg (by omega),if_neg (by omega),if_pos (by omega)]
  rw[e]
  refine⟨[t],?_,fun _=>rfl⟩
  split
  ·next hh=>
   simp only[Bool.false_eq_true,false_or,true_or,true_and]at hh
   congr 2;refine ZL ?_;unfold ZA9;simp only[List.length_nil,List.length_cons];omega
  ·next hh=>
   simp only[Bool.false_eq_true,false_or,true_or,true_and]at hh
   rw[ZE];unfold ZA9;simp only[List.length_nil,List.length_cons];omega
 rw[if_neg h6]
 have hn:¬ZA9 w t p:=by unfold ZA9;omega
 exact⟨[],by rw[ZE fun h=>hn h.1],fun h=>absurd h hn⟩
def Zs (w:List Data):Nat->Ty->Pattern->Prop
 |0,_,_=>False
 |d+1,t,p=>ZA9 w t p/\p.kids.length=(ZI w t p).length/\∀i,0<=i->i<(ZI w t p).length->∀(h:i<(ZI w t p).length) (h':i<p.kids.length),Zs w d (ZI w t p)[i] p.kids[i]
theorem P.YK (w:List Data)(hw:ZN w):∀(d:Nat) (t:Ty) (p:Pattern),Zb w t->d<=10->F.f70 w t p d=some (dec (Zs w d t p))
 |0,t,p,ht,hd=>by rw[F.f70,if_pos (by omega),ZE (by simp[Zs])]
 |d+1,t,p,ht,hd=>by
  rw[F.f70,if_neg (by omega),P.YAM w hw t (ZA8 ht.1)]
  simp only[oE,oS]
  by_cases ho:ZA9 w t p
  ·rw[if_pos (ZG ho),P.YJ w hw t (ZA8 ht.1) p ho]
   simp only[oS]
   have hts:=ZAT hw ht ho
   by_cases h4:p.kids.length=(ZI w t p).length
   ·rw[if_pos h4,ZIn (n:=(ZI w t p).length) (r:=false) (Q:=fun i=>∀(h:i<(ZI w t p).length) (h':i<p.kids.length),Zs w d (ZI w t p)[i] p.kids[i]) (L:=F.f71 w p ((d+1:Nat):Int) (ZI w t p))
     (fun k hk=>by rw[F.f71,if_neg (by omega)])
     (fun k hk hq=>by
      have hk':k<p.kids.length:=by omega
      rw[F.f71,if_pos hk,gQ hk,gQ hk']
      simp only[oE,oS]
      rw[ZF (by omega) (by omega),show((d+1:Nat):Int) -1=(d:Int)from by omega,P.YK w hw d _ _ (hts _ (gM hk)) (by omega)]
      simp only[oS]
      rw[if_pos (ZG (hq hk hk'))])
     (fun k hk hq=>by
      have hk':k<p.kids.length:=by omega
      rw[F.f71,if_pos hk,gQ hk,gQ hk']
      simp only[oE,oS]
      rw[ZF (by omega) (by omega),show((d+1:Nat):Int) -1=(d:Int)from by omega,P.YK w hw d _ _ (hts _ (gM hk)) (by omega)]
      simp only[oS]
      rw[if_neg (by rw[ZE fun h=>hq fun _ _=>h];simp)]) _ 0 rfl]
    simp only[oS]
    by_cases hall:∀i,0<=i->i<(ZI w t p).length->∀(h:i<(ZI w t p).length) (h':i<p.kids.length),Zs w d (ZI w t p)[i] p.kids[i]
    ·rw[if_pos (ZG hall),ZG ⟨ho,h4,hall⟩]
    ·rw[if_neg (by rw[ZE hall];simp),ZE fun h=>hall h.2.2]
   ·rw[if_neg h4,ZE fun h=>h4 h.2.1]
  ·rw[if_neg (by rw[ZE ho];simp),ZE fun h=>ho h.1]
theorem P.YAV (v:Pattern)(hv:v.wt<=1048576):∀(most:Nat),most<=60->∃c:Nat,F.f72 v most=some (c:Int)/\1<=c/\c<=1+v.wt/\(1+v.wt<=most->c=1+v.wt)/\(most<1+v.wt->most<c):=by
 induction v using Pattern.ind with
 |_ v ih=>
  intro most hm
  have hw:=v.wt_eq
  have key:∀(m i:Nat) (n:Nat),v.kids.length-i=m->1<=n->n+((v.kids.drop i).map fun k=>1+k.wt).sum<=1+v.wt->
    ∃c:Nat,F.f73 v most n i=some (c:Int)/\n<=c/\c<=n+((v.kids.drop i).map fun k=>1+k.wt).sum/\(n+((v.kids.drop i).map fun k=>1+k.wt).sum<=most->c=n+((v.kids.drop i).map fun k=>1+k.wt).sum)/\(most<n+((v.kids.drop i).map fun k=>1+k.wt).sum->most<c):=by
   intro m
   induction m with
   |zero=>
    intro i n hmi hn hb
    rw[F.f73,if_neg (by omega),List.drop_eq_nil_of_le (by omega)]
    exact⟨n,rfl,by omega,by simp,by simp,by simp⟩
   |succ m ih2=>
    intro i n hmi hn hb
    have hi:i<v.kids.length:=by omega
    rw[List.drop_eq_getElem_cons hi]at hb ⊢
    simp only[List.map_cons,List.sum_cons]at hb ⊢
    rw[F.f73,if_pos hi]
    by_cases hle:n<=most
    ·rw[if_pos (by omega),gQ hi]
     simp only[oE,oS]
     have hk:v.kids[i].wt<=1048576:=by omega
     obtain⟨c,h1,h2,h3,h4,h5⟩:=ih v.kids[i] (gM hi) hk (most-n) (by omega)
     rw[ZF (by omega) (by omega),show((most:Int) - (n:Int))=((most-n:Nat):Int)from by omega,h1]
     simp only[oS]
     rw[ZF (by omega) (by omega),show((n:Int)+(c:Int))=((n+c:Nat):Int)from by omega]
     obtain⟨c',g1,g2,g3,g4,g5⟩:=ih2 (i+1) (n+c) (by omega) (by omega) (by omega)
     refine⟨c',g1,by omega,by omega,fun h=> ?_,fun h=> ?_⟩
     ·have:=h4 (by omega)
      have:=g4 (by omega)
      omega
     ·by_cases hx:1+v.kids[i].wt<=most-n
      ·have:=h4 hx
       exact g5 (by omega)
      ·have:=h5 (by omega)
       omega
    ·rw[if_neg (by omega)]
     exact⟨n,rfl,by omega,by omega,fun h=>by omega,fun h=>by omega⟩
  have hs:((v.kids.drop 0).map fun k=>1+k.wt).sum=v.wt:=by
   rw[List.drop_zero,hw]
   have:∀l:List Pattern,(l.map fun k=>1+k.wt).sum=wtL Pattern.wt l:=by
    intro l
    induction l with
    |nil=>rfl
    |cons a r ih=>simp[ih]
   exact this _
  obtain⟨c,h1,h2,h3,h4,h5⟩:=key _ 0 1 rfl (by omega) (by omega)
  rw[hs]at h3 h4 h5
  unfold F.f72
  have h1':F.f73 v most 1 0=some (c:Int):=h1
  rw[h1']
  exact⟨c,rfl,by omega,h3,h4,h5⟩
theorem ZER (v:Pattern):v.wt=((v.kids.drop 0).map fun k=>1+k.wt).sum:=by
 rw[List.drop_zero,v.wt_eq]
 have:∀l:List Pattern,(l.map fun k=>1+k.wt).sum=wtL Pattern.wt l:=by
  intro l
  induction l with
  |nil=>rfl
  |cons a r ih=>simp[ih]
 exact(this _).symm
noncomputable def Zm (w:List Data):Nat->Ty->Pattern->List VarType
 |0,_,_=>[]
 |d+1,t,p=>(if p.op=2∨p.op=6 then[⟨p.var,t⟩]else[])++(((ZI w t p).zip p.kids).take (if p.op=5 then 1 else p.kids.length)).flatMap fun x=>Zm w d x.1 x.2
theorem ZFh {f:Ty×Pattern->List VarType}(hf:∀x,(f x).length<=1+x.2.wt):∀(ts:List Ty) (ks:List Pattern) (n:Nat),(((ts.zip ks).take n).flatMap f).length<=wtL Pattern.wt ks
 | [],ks,n=>by simp
 |t::ts,[],n=>by simp
 |t::ts,k::ks,0=>by simp
 |t::ts,k::ks,n+1=>by
  have h1:=ZFh hf ts ks n
  have h2:=hf (t,k)
  simp only[List.zip_cons_cons,List.take_succ_cons,List.flatMap_cons,List.length_append,ZG5]at h1 h2 ⊢
  omega
theorem ZBI (w:List Data):∀(d:Nat) (t:Ty) (p:Pattern),(Zm w d t p).length<=1+p.wt
 |0,t,p=>by simp[Zm]
 |d+1,t,p=>by
  have:=ZFh (f:=fun x=>Zm w d x.1 x.2) (fun x=>ZBI w d x.1 x.2) (ZI w t p) p.kids (if p.op=5 then 1 else p.kids.length)
  rw[Zm,List.length_append,p.wt_eq]
  have h1:(if p.op=2∨p.op=6 then[(⟨p.var,t⟩:VarType)]else[]).length<=1:=by split<;>simp
  omega
theorem ZC3 {w:List Data}{p:Pattern}{ts:List Ty}(hl:p.kids.length=ts.length)(h5:p.op≠5){f:Ty×Pattern->List VarType}{L:List VarType->Nat->Option (List VarType)}
  (hL:∀out i,L out i=if i<ts.length then(if i=0 then ts[i]? >>=fun x=>p.kids[i]? >>=fun y=>F.f74 out w x y>>=fun v=>L v (i+1)else(if p.op=5 then some out else ts[i]? >>=fun x=>p.kids[i]? >>=fun y=>F.f74 out w x y>>=fun v=>L v (i+1)))else some out)
  (hf:∀x:Ty×Pattern,(f x).length<=1+x.2.wt)
  (ih:∀i (h:i<ts.length) (h':i<p.kids.length) (out:List VarType),out.length+(1+p.kids[i].wt)<=67108864->F.f74 out w ts[i] p.kids[i]=some (out++f (ts[i],p.kids[i]))):
  ∀(m i:Nat) (out:List VarType),ts.length-i=m->out.length+((p.kids.drop i).map fun k=>1+k.wt).sum<=67108864->L out i=some (out++((ts.zip p.kids).drop i).flatMap f):=by
 intro m
 induction m with
 |zero=>
  intro i out hm hb
  rw[hL,if_neg (by omega),List.drop_eq_nil_of_le (by simp;omega)];simp
 |succ m ihm=>
  intro i out hm hb
  have hi:i<ts.length:=by omega
  have hi':i<p.kids.length:=by omega
  rw[List.drop_eq_getElem_cons hi']at hb
  simp only[List.map_cons,List.sum_cons]at hb
  have e:(ts[i]? >>=fun x=>p.kids[i]? >>=fun y=>F.f74 out w x y>>=fun v=>L v (i+1))=some (out++((ts.zip p.kids).drop i).flatMap f):=by
   rw[gQ hi,gQ hi']
   simp only[oE,oS]
   rw[ih i hi hi' out (by omega)]
   simp only[oS]
   have:=hf (ts[i],p.kids[i])
   simp only at this
   rw[ihm (i+1) _ (by omega) (by rw[List.length_append];omega),List.drop_eq_getElem_cons (l:=ts.zip p.kids) (i:=i) (by simp;omega)]
   simp
  rw[hL,if_pos hi,if_neg h5,e]
  split<;>rfl
theorem ZAU {w:List Data}{t:Ty}{p:Pattern}(h:ZA9 w t p)(h5:p.op=5):ZI w t p=[t,t]:=by unfold ZI;rw[if_neg (by omega),if_pos h5]
theorem P.YA (w:List Data)(hw:ZN w):∀(d:Nat) (t:Ty) (p:Pattern) (out:List VarType),Zb w t->Zs w d t p->out.length+(1+p.wt)<=67108864->F.f74 out w t p=some (out++Zm w d t p)
 |0,t,p,out,ht,hs,hb=>hs.elim
 |d+1,t,p,out,ht,hs,hb=>by
  obtain⟨ho,hl,hk⟩:=hs
  have hts:=ZAT hw ht ho
  have hsum:=ZER p
  have ih:∀i (h:i<(ZI w t p).length) (h':i<p.kids.length) (out:List VarType),out.length+(1+p.kids[i].wt)<=67108864->F.f74 out w (ZI w t p)[i] p.kids[i]=some (out++(fun x:Ty×Pattern=>Zm w d x.1 x.2) ((ZI w t p)[i],p.kids[i])):=
   fun i h h' out hb=>P.YA w hw d _ _ out (hts _ (gM h)) (hk i (by omega) h h h') hb
  have hf:∀x:Ty×Pattern,((fun x:Ty×Pattern=>Zm w d x.1 x.2) x).length<=1+x.2.wt:=fun x=>ZBI w d x.1 x.2
  have full:∀n,p.kids.length<=n->((ZI w t p).zip p.kids).take n=(ZI w t p).zip p.kids:=fun n hn=>List.take_of_length_le (by simp;omega)
  rw[F.f74,P.YJ w hw t (ZA8 ht.1) p ho]
  simp only[oE,oS]
  by_cases h2:p.op=2
  ·rw[if_pos h2,if_pos (by omega),ZC3 (f:=fun x=>Zm w d x.1 x.2) (L:=F.f77 w p (ZI w t p)) hl (by omega) (fun out i=>by rw[F.f77]) hf ih _ 0 _ rfl (by simp at hsum ⊢;omega)]
   simp only[oS]
   rw[Zm,if_pos (.inl h2),if_neg (by omega),full _ (Nat.le_refl _)];simp
  ·rw[if_neg h2]
   by_cases h6:p.op=6
   ·rw[if_pos h6,if_pos (by omega),ZC3 (f:=fun x=>Zm w d x.1 x.2) (L:=F.f75 w p (ZI w t p)) hl (by omega) (fun out i=>by rw[F.f75]) hf ih _ 0 _ rfl (by simp at hsum ⊢;omega)]
    simp only[oS]
    rw[Zm,if_pos (.inr h6),if_neg (by omega),full _ (Nat.le_refl _)];simp
   ·rw[if_neg h6]
    by_cases h5:p.op=5
    ·have et:=ZAU ho h5
     rw[et]at hl
     have h0:0<p.kids.length:=by rw[hl];simp
     have h0':0<(ZI w t p).length:=by rw[et];simp
     have hw0:1+p.kids[0].wt<=p.wt:=by
      rw[hsum,List.drop_zero]
      obtain⟨a,r,e⟩:=List.exists_cons_of_length_pos h0
      simp[e]
     have e0:=ih 0 h0' h0 out (by omega)
     rw[F.f76,if_pos h0',if_pos rfl,gQ h0',gQ h0]
     simp only[oE,oS]
     rw[e0]
     simp only[oS]
     rw[F.f76,if_pos (by rw[et];simp),if_neg (by omega),if_pos h5]
     simp only[oS]
     rw[Zm,if_neg (by omega),if_pos h5]
     have e1:((ZI w t p).zip p.kids).take 1=[((ZI w t p)[0],p.kids[0])]:=by
      obtain⟨a,r,e⟩:=List.exists_cons_of_length_pos h0
      obtain⟨b,r',e'⟩:=List.exists_cons_of_length_pos h0'
      simp[e,e']
     rw[e1];simp
    ·rw[ZC3 (f:=fun x=>Zm w d x.1 x.2) (L:=F.f76 w p (ZI w t p)) hl h5 (fun out i=>by rw[F.f76]) hf ih _ 0 _ rfl (by simp at hsum ⊢;omega)]
     simp only[oS]
     rw[Zm,if_neg (by omega),if_neg h5,full _ (Nat.le_refl _)];simp
def ZHK (l:List VarType):Prop:=(l.map VarType.var).Nodup
def ZHr (a b:List VarType):Prop:=a.length=b.length/\∀x,x∈a->x∈b
theorem ZEh (l:List VarType):ZHK l↔∀i j (hi:i<l.length) (hj:j<l.length),i<j->l[i].var≠l[j].var:=by
 unfold ZHK List.Nodup
 rw[List.pairwise_map,List.pairwise_iff_getElem]
theorem ZED {l:List VarType}{n:Int}(h:ZDp l n= -1):∀x,x∈l->x.var≠n:=by
 unfold ZDp at h
 cases hf:ZF3 (fun x:VarType=>x.var=n) 0 l with
 |none=>exact ZAv hf
 |some j=>rw[hf]at h;simp only at h;omega
theorem ZNh {a b:VarType}(h:a.var=b.var)(h2:eq2 (a.type.data,a.type.index) (b.type.data,b.type.index)):a=b:=by
 obtain⟨v,d,i⟩:=a
 obtain⟨v',d',i'⟩:=b
 simp only[eq2]at h h2
 obtain⟨rfl,rfl⟩:=h2
 subst h;rfl
theorem P.YV (l:List VarType):F.f82 l 0=some (if dec (ZHK l)=true then .go ()else .ret false):=by
 rw[ZIn (n:=l.length) (r:=false) (Q:=fun j=>∀h:j<l.length,ZDp l l[j].var=(j:Int)) (L:=F.f82 l) (fun k hk=>by rw[F.f82,if_neg (by omega)])
  (fun k hk hq=>by
   rw[F.f82,if_pos hk,gQ hk]
   simp only[oE,oS,P.YE]
   rw[if_pos (hq hk)])
  (fun k hk hq=>by
   rw[F.f82,if_pos hk,gQ hk]
   simp only[oE,oS,P.YE]
   rw[if_neg fun h=>hq fun _=>h]) _ 0 rfl]
 congr 2
 rw[ZL]
 rw[ZEh]
 constructor
 ·intro h i j hi hj hij
  exact(ZEC l j hj).1 (h j (by omega) hj hj) i hi hij
 ·intro h j _ _ hj
  exact(ZEC l j hj).2 fun i hi hij=>h i j hi hj hij
theorem P.Yz (a b:List VarType)(hb:ZHK b):F.f81 a b=some (dec (ZHr a b)):=by
 unfold F.f81
 have step:∀k (hk:k<a.length),F.f80 a b k=if dec (a[k]∈b)=true then F.f80 a b (k+1)else some (.ret false):=by
  intro k hk
  rw[F.f80,if_pos hk,gQ hk]
  simp only[oE,oS,P.YE]
  rcases ZBp b a[k].var with h|⟨j,hj,h1,h2,h3⟩
  ·rw[if_pos (by omega),if_neg]
   rw[ZE fun hm=>ZED h _ hm rfl];simp
  ·rw[if_neg (by omega),h1,ZFv,gQ hj]
   simp only[oS]
   by_cases he:eq2 (b[j].type.data,b[j].type.index) (a[k].type.data,a[k].type.index)
   ·rw[if_pos (ZG he),if_pos (ZG (by rw[←ZNh h2 he];exact gM hj))]
   ·rw[if_neg (by rw[ZE he];simp),if_neg]
    rw[ZE fun hm=> ?_];· simp
    obtain⟨i,hi,e⟩:=List.getElem_of_mem hm
    have hij:i=j:=by
     rw[ZEh]at hb
     rcases Nat.lt_trichotomy i j with hlt|heq|hlt
     ·exact absurd (by rw[e,h2]) (hb i j hi hj hlt)
     ·exact heq
     ·exact absurd (by rw[e,h2]) (hb j i hj hi hlt)
    subst hij
    exact he (by rw[e];exact⟨rfl,rfl⟩)
 rw[ZIn (n:=a.length) (r:=false) (Q:=fun j=>∀h:j<a.length,a[j]∈b) (L:=F.f80 a b) (fun k hk=>by rw[F.f80,if_neg (by omega)])
  (fun k hk hq=>by rw[step k hk,if_pos (ZG (hq hk))])
  (fun k hk hq=>by rw[step k hk,if_neg (by rw[ZE fun h=>hq fun _=>h];simp)]) _ 0 rfl]
 simp only[oE,oS]
 by_cases h:∀j,0<=j->j<a.length->∀h:j<a.length,a[j]∈b
 ·rw[if_pos (ZG h),←ZAH]
  have hx:∀x,x∈a->x∈b:=fun x hx=>by obtain⟨j,hj,e⟩:=List.getElem_of_mem hx;rw[←e];exact h j (by omega) hj hj
  show some (dec (a.length=b.length))=some (dec (ZHr a b))
  congr 1;exact ZL ⟨fun hl=>⟨hl,hx⟩,fun hs=>hs.1⟩
 ·rw[if_neg (by rw[ZE h];simp),ZE fun hs=>h fun j _ hj _=>hs.2 _ (gM hj)]
theorem ZLl {a b:VarType}:eq3 (a.var,a.type.data,a.type.index) (b.var,b.type.data,b.type.index)↔a=b:=by
 obtain⟨v,d,i⟩:=a
 obtain⟨v',d',i'⟩:=b
 simp[eq3]
theorem P.YB (l:List VarType)(n:VarType):F.f128 l n=some (dec (n∈l)):=by
 unfold F.f128 F.f127
 rw[ZLB (a:=l) (p:=fun x=>n=x) (L:=F.f126 l n) (fun k hk=>by rw[F.f126,if_neg (by omega)])
  (fun k hk hp=>by
   rw[F.f126,if_pos hk,gQ hk]
   simp only[oE,oS]
   rw[if_neg (by rw[ZE fun h=>hp (ZLl.1 h)];simp)])
  (fun k hk hp=>by
   rw[F.f126,if_pos hk,gQ hk]
   simp only[oE,oS]
   rw[if_pos (ZG (ZLl.2 hp))]) _ 0 rfl,List.drop_zero]
 cases h:ZF3 (fun x:VarType=>n=x) 0 l with
 |none=>
  simp only[oE,oS]
  rw[ZE fun hm=>ZAv h _ hm rfl];simp
 |some j=>
  obtain⟨_,h2,h3,_⟩:=ZAu h
  simp only[oE,oS]
  rw[ZG (by rw[h3];exact gM h2)];simp
theorem P.Yr (a b:List VarType):F.f133 a b=some (dec (ZHr a b)):=by
 unfold F.f133
 by_cases hl:a.length=b.length
 ·rw[if_pos hl]
  unfold F.f132 F.f131
  have one:∀q,F.f129 q b=some (!dec (q∈b)):=by
   intro q;unfold F.f129;rw[P.YB];rfl
  rw[ZLB (a:=a) (p:=fun x=>¬x∈b) (L:=F.f130 a b) (fun k hk=>by rw[F.f130,if_neg (by omega)])
   (fun k hk hp=>by
    rw[F.f130,if_pos hk,gQ hk]
    simp only[oE,oS,one]
    rw[if_neg (by rw[ZG (Classical.byContradiction hp)];simp)])
   (fun k hk hp=>by
    rw[F.f130,if_pos hk,gQ hk]
    simp only[oE,oS,one]
    rw[if_pos (by rw[ZE hp];simp)]) _ 0 rfl,List.drop_zero]
  cases h:ZF3 (fun x:VarType=>¬x∈b) 0 a with
  |none=>
   simp only[oE,oS]
   rw[ZG ⟨hl,fun x hx=>Classical.byContradiction (ZAv h x hx)⟩];simp
  |some j=>
   obtain⟨_,h2,h3,_⟩:=ZAu h
   simp only[oE,oS]
   rw[ZE fun hs=>h3 (hs.2 _ (gM h2))];simp
 ·rw[if_neg hl,ZE fun h=>hl h.1]
def ZF1 (w:List Data):Nat->Ty->Pattern->Prop
 |0,_,_=>False
 |d+1,t,p=>(∀i,0<=i->i<(ZI w t p).length->∀(h:i<(ZI w t p).length) (h':i<p.kids.length),ZF1 w d (ZI w t p)[i] p.kids[i])/\
   if p.op=5 then(∀(h0:0<p.kids.length) (h1:1<p.kids.length),ZHr (Zm w d t p.kids[0]) (Zm w d t p.kids[1]))else ZHK (Zm w (d+1) t p)
theorem ZEe {w:List Data}{d:Nat}{t:Ty}{p:Pattern}(ho:ZA9 w t p)(h5:p.op=5)(h0:0<p.kids.length):Zm w (d+1) t p=Zm w d t p.kids[0]:=by
 have et:=ZAU ho h5
 rw[Zm,if_neg (by omega),if_pos h5,et]
 obtain⟨a,r,e⟩:=List.exists_cons_of_length_pos h0
 simp[e]
theorem ZC1 {w:List Data}:∀{d:Nat} {t:Ty} {p:Pattern},Zs w d t p->ZF1 w d t p->ZHK (Zm w d t p)
 |0,t,p,hs,hl=>hs.elim
 |d+1,t,p,hs,hl=>by
  obtain⟨ho,hlen,hk⟩:=hs
  obtain⟨h1,h2⟩:=hl
  by_cases h5:p.op=5
  ·have et:=ZAU ho h5
   have h0:0<p.kids.length:=by rw[hlen,et];simp
   have h0':0<(ZI w t p).length:=by rw[et];simp
   rw[ZEe ho h5 h0]
   have e0:(ZI w t p)[0]=t:=by simp[et]
   have a:=hk 0 (Nat.le_refl _) h0' h0' h0
   have b:=h1 0 (Nat.le_refl _) h0' h0' h0
   rw[e0]at a b
   exact ZC1 a b
  ·rw[if_neg h5]at h2;exact h2
theorem P.YP (w:List Data)(hw:ZN w):∀(d:Nat) (t:Ty) (p:Pattern),Zb w t->Zs w d t p->p.wt<=1048576->F.f83 w t p=some (dec (ZF1 w d t p))
 |0,t,p,ht,hs,hb=>hs.elim
 |d+1,t,p,ht,hs,hb=>by
  have hs':=hs
  obtain⟨ho,hl,hk⟩:=hs
  have hts:=ZAT hw ht ho
  have hsum:=p.wt_eq
  have hkw:∀k (h:k<p.kids.length),1+p.kids[k].wt<=p.wt:=fun k h=>by have:=ZC2 Pattern.wt (gM h);omega
  have ih:∀k (h:k<(ZI w t p).length) (h':k<p.kids.length),F.f83 w (ZI w t p)[k] p.kids[k]=some (dec (ZF1 w d (ZI w t p)[k] p.kids[k])):=
   fun k h h'=>P.YP w hw d _ _ (hts _ (gM h)) (hk k (by omega) h h h') (by have:=hkw k h';omega)
  rw[F.f83,P.YJ w hw t (ZA8 ht.1) p ho]
  simp only[oE,oS]
  rw[ZIn (n:=(ZI w t p).length) (r:=false) (Q:=fun i=>∀(h:i<(ZI w t p).length) (h':i<p.kids.length),ZF1 w d (ZI w t p)[i] p.kids[i]) (L:=F.f84 w t p (ZI w t p))
   (fun k hk=>by rw[F.f84,if_neg (by omega)])
   (fun k hk hq=>by
    have hk':k<p.kids.length:=by omega
    rw[F.f84,if_pos hk,gQ hk,gQ hk']
    simp only[oE,oS]
    rw[ih k hk hk']
    simp only[oS]
    rw[if_pos (ZG (hq hk hk'))])
   (fun k hk hq=>by
    have hk':k<p.kids.length:=by omega
    rw[F.f84,if_pos hk,gQ hk,gQ hk']
    simp only[oE,oS]
    rw[ih k hk hk']
    simp only[oS]
    rw[if_neg (by rw[ZE fun h=>hq fun _ _=>h];simp)]) _ 0 rfl]
  simp only[oS]
  by_cases hall:∀i,0<=i->i<(ZI w t p).length->∀(h:i<(ZI w t p).length) (h':i<p.kids.length),ZF1 w d (ZI w t p)[i] p.kids[i]
  ·rw[if_pos (ZG hall)]
   simp only
   by_cases h5:p.op=5
   ·have et:=ZAU ho h5
    have h0:0<p.kids.length:=by rw[hl,et];simp
    have h1:1<p.kids.length:=by rw[hl,et];simp
    have h0':0<(ZI w t p).length:=by rw[et];simp
    have h1':1<(ZI w t p).length:=by rw[et];simp
    have e0:(ZI w t p)[0]=t:=by simp[et]
    have e1:(ZI w t p)[1]=t:=by simp[et]
    have a0:=hk 0 (Nat.le_refl _) h0' h0' h0
    have a1:=hk 1 (by omega) h1' h1' h1
    have b1:=hall 1 (by omega) h1' h1' h1
    rw[e0]at a0
    rw[e1]at a1 b1
    rw[if_pos h5,gQ h0,gQ h1]
    simp only[oS]
    rw[P.YA w hw d t _ [] ht a0 (by have:=hkw 0 h0;simp;omega),P.YA w hw d t _ [] ht a1 (by have:=hkw 1 h1;simp;omega)]
    simp only[oS,List.nil_append]
    rw[P.Yz _ _ (ZC1 a1 b1)]
    simp only[oS]
    congr 1
    refine ZL ⟨fun h=>⟨hall,?_⟩,fun h=> ?_⟩
    ·rw[if_pos h5];exact fun _ _=>h
    ·have:=h.2;rw[if_pos h5]at this;exact this h0 h1
   ·rw[if_neg h5,P.YA w hw (d+1) t p [] ht hs' (by simp;omega)]
    simp only[oS,List.nil_append]
    rw[P.YV]
    simp only[oS]
    by_cases hn:ZHK (Zm w (d+1) t p)
    ·rw[if_pos (ZG hn),ZG ⟨hall,by rw[if_neg h5];exact hn⟩]
    ·rw[if_neg (by rw[ZE hn];simp),ZE fun h=>hn (by have:=h.2;rwa[if_neg h5]at this)]
  ·rw[if_neg (by rw[ZE hall];simp),ZE fun h=>hall h.1]
theorem ZG4 {f:Ty×Pattern->List VarType}{x:VarType}:∀{ts:List Ty} {ks:List Pattern} {n:Nat},x∈(((ts.zip ks).take n).flatMap f)->∃i,∃(h:i<ts.length) (h':i<ks.length),x∈f (ts[i],ks[i])
 | [],ks,n,h=>by simp at h
 |t::ts,[],n,h=>by simp at h
 |t::ts,k::ks,0,h=>by simp at h
 |t::ts,k::ks,n+1,h=>by
  simp only[List.zip_cons_cons,List.take_succ_cons,List.flatMap_cons,List.mem_append]at h
  rcases h with h|h
  ·exact⟨0,by simp,by simp,by simpa using h⟩
  ·obtain⟨i,h1,h2,h3⟩:=ZG4 h
   exact⟨i+1,by simpa using h1,by simpa using h2,by simpa using h3⟩
theorem ZC0 {w:List Data}(hw:ZN w):∀{d:Nat} {t:Ty} {p:Pattern},Zb w t->Zs w d t p->∀x,x∈Zm w d t p->0<=x.var/\x.var<=5/\Zb w x.type
 |0,t,p,ht,hs=>hs.elim
 |d+1,t,p,ht,hs=>by
  obtain⟨ho,hl,hk⟩:=hs
  intro x hx
  rw[Zm,List.mem_append]at hx
  rcases hx with hx|hx
  ·split at hx
   ·next h=>
    simp at hx;subst hx
    unfold ZA9 at ho
    refine⟨?_,?_,ht⟩<;>simp only<;>omega
   ·cases hx
  ·obtain⟨i,h,h',hm⟩:=ZG4 hx
   exact ZC0 hw (ZAT hw ht ho _ (gM h)) (hk i (by omega) h h h') x hm
theorem ZQJ {R:Type}{vs:List VarType}{r:R}{M:(Nat->Bool)->Nat->Option (Lo R Unit)}(hv:∀x,x∈vs->0<=x.var/\x.var<=5)
  (hM:∀s i,M s i=if i<vs.length then vs[i]? >>=fun x=>if 0<=x.var/\x.var.toNat<6 then(if s x.var.toNat=true then some (.ret r)else M (ZF9 s x.var.toNat true) (i+1))else none else some (.go ())):
  ∀(m i:Nat) (s:Nat->Bool),vs.length-i=m->M s i=some (if dec (ZHK (vs.drop i)/\∀x,x∈vs.drop i->s x.var.toNat=false)=true then .go ()else .ret r):=by
 intro m
 induction m with
 |zero=>
  intro i s hm
  rw[hM,if_neg (by omega),List.drop_eq_nil_of_le (by omega),if_pos (ZG ⟨by simp[ZHK],by simp⟩)]
 |succ m ih=>
  intro i s hm
  have hi:i<vs.length:=by omega
  have hr:=hv _ (gM hi)
  rw[hM,if_pos hi,gQ hi]
  simp only[oE,oS]
  rw[if_pos (by omega),List.drop_eq_getElem_cons hi]
  by_cases h:s vs[i].var.toNat=true
  ·rw[if_pos h,if_neg]
   rw[ZE fun hh=> ?_];· simp
   have:=hh.2 vs[i] (List.mem_cons_self ..)
   rw[h]at this;cases this
  ·rw[if_neg h,ih (i+1) _ (by omega)]
   congr 2
   rw[ZL]
   have hs:s vs[i].var.toNat=false:=by simpa using h
   constructor
   ·rintro⟨h1,h2⟩
    refine⟨?_,fun x hx=> ?_⟩
    ·unfold ZHK at h1 ⊢
     rw[List.map_cons,List.nodup_cons]
     refine⟨fun hm=> ?_,h1⟩
     obtain⟨y,hy,e⟩:=List.mem_map.1 hm
     have:=h2 y hy
     rw[e]at this
     simp[ZF9]at this
    ·rcases List.mem_cons.1 hx with rfl|hx
     ·exact hs
     ·have:=h2 x hx
      unfold ZF9 at this
      split at this
      ·cases this
      ·exact this
   ·rintro⟨h1,h2⟩
    unfold ZHK at h1 ⊢
    rw[List.map_cons,List.nodup_cons]at h1
    refine⟨h1.2,fun x hx=> ?_⟩
    unfold ZF9
    have hx':=hv x (List.mem_of_mem_drop hx)
    rw[if_neg fun e=>h1.1 (List.mem_map.2 ⟨x,hx,by omega⟩)]
    exact h2 x (List.mem_cons_of_mem _ hx)
abbrev ZPM (w:List Data)(d:Nat)(ts:List Ty)(ks:List Pattern)(i:Nat):Prop:=∀j,i<=j->j<ts.length->∀(h:j<ts.length) (h':j<ks.length),Zs w d ts[j] ks[j]/\ZF1 w d ts[j] ks[j]
def ZB5 (w:List Data)(d:Nat)(t:Ty)(p:Pattern)(count:Nat)(vs:List VarType)(b:Bool)(c:Nat):Prop:=
 (b=true↔Zs w d t p/\ZF1 w d t p/\count+(1+p.wt)<=60)/\(b=true->c=count+(1+p.wt)/\vs=Zm w d t p)
theorem P.YAU (w:List Data)(d:Nat)(hd:d+1<=10)(p:Pattern)(hp:p.wt<=1048576)(ts:List Ty)(hl:ts.length=p.kids.length)(hts:∀a,a∈ts->Zb w a)(h5:p.op≠5)
  (L:Int->List VarType->Nat->Option (Lo ((List VarType)×Bool×Int) (Int×(List VarType))))
  (hL:∀z vars i,L z vars i=if i<p.kids.length then p.kids[i]? >>=fun x=>ts[i]? >>=fun y=>F.f137 w y x (i64.wrap (((11- (d+1):Nat):Int)+1)) z>>=fun r=>if r.2.1=true then(if p.op=5 then(if i=1 then F.f133 vars r.1>>=fun b=>if b=true then L r.2.2 vars (i+1)else some (.ret ([],false,r.2.2))else(if vars.length+r.1.length<=67108864 then L r.2.2 (vars++r.1) (i+1)else none))else(if vars.length+r.1.length<=67108864 then L r.2.2 (vars++r.1) (i+1)else none))else some (.ret ([],false,r.2.2))else some (.go (z,vars)))
  (ih:∀(t:Ty) (x:Pattern) (count:Nat),Zb w t->x.wt<=1048576->count<=60->∃vs b c,F.f137 w t x ((11-d:Nat):Int) (count:Int)=some (vs,b,((c:Nat):Int))/\ZB5 w d t x count vs b c):
  ∀(m i z:Nat) (vars:List VarType),p.kids.length-i=m->z<=60->vars.length+((p.kids.drop i).map fun k=>1+k.wt).sum<=67108864->∃o,L z vars i=some o/\
   match o with
   | .ret (vs,b,c)=>b=false/\∃c':Nat,c=(c':Int)/\¬(ZPM w d ts p.kids i/\z+((p.kids.drop i).map fun k=>1+k.wt).sum<=60)
   | .go (c,vs)=>c=((z+((p.kids.drop i).map fun k=>1+k.wt).sum:Nat):Int)/\vs=vars++((ts.zip p.kids).drop i).flatMap (fun x=>Zm w d x.1 x.2)/\ZPM w d ts p.kids i/\z+((p.kids.drop i).map fun k=>1+k.wt).sum<=60:=by
 intro m
 induction m with
 |zero=>
  intro i z vars hm hz hb
  rw[hL,if_neg (by omega)]
  refine⟨_,rfl,?_⟩
  rw[List.drop_eq_nil_of_le (by omega),List.drop_eq_nil_of_le (by simp;omega)]
  exact⟨by simp,by simp,fun j h1 h2=>by omega,by simpa using hz⟩
 |succ m ihm=>
  intro i z vars hm hz hb
  have hi:i<p.kids.length:=by omega
  have hi':i<ts.length:=by omega
  have hkw:=ZC2 Pattern.wt (gM hi)
  have hpw:=p.wt_eq
  rw[List.drop_eq_getElem_cons hi]at hb ⊢
  simp only[List.map_cons,List.sum_cons]at hb ⊢
  rw[hL,if_pos hi,gQ hi,gQ hi']
  simp only[oE,oS]
  rw[ZF (by omega) (by omega),show(((11- (d+1):Nat):Int)+1)=((11-d:Nat):Int)from by omega]
  obtain⟨vs,b,c,h1,h2,h3⟩:=ih ts[i] p.kids[i] z (hts _ (gM hi')) (by omega) hz
  rw[h1]
  simp only[oS]
  cases b with
  |true=>
   rw[if_pos rfl,if_neg h5]
   obtain⟨hc,hv⟩:=h3 rfl
   obtain⟨hp1,hp2,hle⟩:=h2.1 rfl
   have hvl:=ZBI w d ts[i] p.kids[i]
   rw[←hv]at hvl
   rw[if_pos (by omega)]
   obtain⟨o,g1,g2⟩:=ihm (i+1) c (vars++vs) (by omega) (by omega) (by rw[List.length_append];omega)
   refine⟨o,g1,?_⟩
   cases o with
   |ret r=>
    obtain⟨vs',b',c'⟩:=r
    obtain⟨q1,c2,q2,q3⟩:=g2
    exact⟨q1,c2,q2,fun hh=>q3 ⟨fun j a b e f=>hh.1 j (by omega) b e f,by omega⟩⟩
   |go r=>
    obtain⟨c2,vs2⟩:=r
    obtain⟨q1,q2,q3,q4⟩:=g2
    refine⟨by rw[q1];congr 1;omega,?_,fun j a b e f=> ?_,by omega⟩
    ·rw[q2,List.drop_eq_getElem_cons (l:=ts.zip p.kids) (i:=i) (by simp;omega),hv];simp
    ·by_cases hj:i=j
     ·subst hj;exact⟨hp1,hp2⟩
     ·exact q3 j (by omega) b e f
  |false=>
   rw[if_neg (by simp)]
   refine⟨_,rfl,rfl,c,rfl,fun hh=> ?_⟩
   have hk:=hh.1 i (Nat.le_refl _) hi' hi' hi
   have:=h2.2 ⟨hk.1,hk.2,by omega⟩
   cases this
theorem P.YZ (w:List Data)(hw:ZN w):∀(d:Nat) (t:Ty) (p:Pattern) (count:Nat),d<=10->Zb w t->p.wt<=1048576->count<=60->
  ∃vs b c,F.f137 w t p ((11-d:Nat):Int) (count:Int)=some (vs,b,((c:Nat):Int))/\ZB5 w d t p count vs b c
 |d,t,p,count,hd,ht,hp,hc=>by
  have e1:i64.wrap ((count:Int)+1)=((count+1:Nat):Int):=by rw[ZF (by omega) (by omega)];omega
  have no:∀(h:¬(Zs w d t p/\ZF1 w d t p/\count+(1+p.wt)<=60)) (c:Nat),∃vs b c',(some (([]:List VarType),false,(c:Int)):Option (List VarType×Bool×Int))=some (vs,b,((c':Nat):Int))/\ZB5 w d t p count vs b c':=
   fun h c=>⟨[],false,c,rfl,⟨fun h=>(by cases h),fun hh=>absurd hh h⟩,fun h=>by cases h⟩
  rw[F.f137,e1]
  by_cases h60:60<((count+1:Nat):Int)
  ·rw[if_pos h60];exact no (fun h=>by omega) _
  rw[if_neg h60]
  match d,hd with
  |0,_=>
   rw[if_pos (by omega)]
   exact no (fun h=>h.1.elim) _
  |d+1,hd=>
   rw[if_neg (by omega)]
   obtain⟨ts,h1,h2⟩:=P.Yk w hw t (ZA8 ht.1) p
   rw[h1]
   simp only[oE,oS]
   by_cases hs:ZA9 w t p/\p.kids.length=(ZI w t p).length
   ·rw[if_pos (ZG hs)]
    obtain⟨ho,hl⟩:=hs
    obtain rfl:=h2 ho
    have hts:=ZAT hw ht ho
    have hwt:=ZER p
    have ihx:∀(t:Ty) (x:Pattern) (count:Nat),Zb w t->x.wt<=1048576->count<=60->∃vs b c,F.f137 w t x ((11-d:Nat):Int) (count:Int)=some (vs,b,((c:Nat):Int))/\ZB5 w d t x count vs b c:=
     fun t x c ht hx hc=>P.YZ w hw d t x c (by omega) ht hx hc
    have shape_of:∀{i:Nat},ZPM w d (ZI w t p) p.kids 0->Zs w (d+1) t p:=fun h=>⟨ho,hl,fun i _ hi h1 h2=>(h i (by omega) hi h1 h2).1⟩
    by_cases h5:p.op=5
    ·rw[if_neg (by omega),if_neg (by omega)]
     have et:=ZAU ho h5
     have h0:0<p.kids.length:=by rw[hl,et];simp
     have h1':1<p.kids.length:=by rw[hl,et];simp
     have hl2:p.kids.length=2:=by rw[hl,et];rfl
     have e0:(ZI w t p)[0]? =some t:=by rw[et];rfl
     have e1:(ZI w t p)[1]? =some t:=by rw[et];rfl
     have hsum:p.wt=(1+p.kids[0].wt)+(1+p.kids[1].wt):=by
      have e:p.kids=[p.kids[0],p.kids[1]]:=List.ext_getElem (by simp[hl2]) (fun i h1 h2=>by
       have:i=0∨i=1:=by omega
       rcases this with rfl|rfl<;>rfl)
      rw[hwt,List.drop_zero]
      conv=>lhs;rw[e]
      simp
     have ed:i64.wrap (((11- (d+1):Nat):Int)+1)=((11-d:Nat):Int):=by rw[ZF (by omega) (by omega)];omega
     obtain⟨v0,b0,c0,a1,a2,a3⟩:=ihx t p.kids[0] (count+1) ht (by omega) (by omega)
     have kid0:Zs w (d+1) t p->ZF1 w (d+1) t p->(Zs w d t p.kids[0]/\ZF1 w d t p.kids[0])/\(Zs w d t p.kids[1]/\ZF1 w d t p.kids[1])/\ZHr (Zm w d t p.kids[0]) (Zm w d t p.kids[1]):=by
      rintro⟨_,_,hk⟩ ⟨q1,q2⟩
      rw[if_pos h5]at q2
      have x0':0<(ZI w t p).length:=by rw[et];simp
      have x1':1<(ZI w t p).length:=by rw[et];simp
      have y0:(ZI w t p)[0]=t:=by simp[et]
      have y1:(ZI w t p)[1]=t:=by simp[et]
      have k0:=hk 0 (Nat.le_refl _) x0' x0' h0
      have k1:=hk 1 (by omega) x1' x1' h1'
      have l0:=q1 0 (Nat.le_refl _) x0' x0' h0
      have l1:=q1 1 (by omega) x1' x1' h1'
      rw[y0]at k0 l0
      rw[y1]at k1 l1
      exact⟨⟨k0,l0⟩,⟨k1,l1⟩,q2 h0 h1'⟩
     rw[F.f139,if_pos h0,gQ h0,e0]
     simp only[oE,oS]
     rw[ed,a1]
     simp only[oS]
     cases b0 with
     |false=>
      rw[if_neg (by simp)]
      simp only[oS]
      exact no (fun h=>by
       have:=a2.2 ⟨(kid0 h.1 h.2.1).1.1,(kid0 h.1 h.2.1).1.2,by omega⟩
       cases this) _
     |true=>
      obtain⟨hc0,rfl⟩:=a3 rfl
      obtain⟨s0,l0,z0⟩:=a2.1 rfl
      have hv0:=ZBI w d t p.kids[0]
      rw[if_pos rfl,if_pos h5,if_neg (by omega),if_pos (by simp;omega),F.f139,if_pos h1',gQ h1',e1]
      simp only[oE,oS]
      obtain⟨v1,b1,c1,g1,g2,g3⟩:=ihx t p.kids[1] c0 ht (by omega) (by omega)
      rw[ed,g1]
      simp only[oS]
      cases b1 with
      |false=>
       rw[if_neg (by simp)]
       simp only[oS]
       exact no (fun h=>by
        have:=g2.2 ⟨(kid0 h.1 h.2.1).2.1.1,(kid0 h.1 h.2.1).2.1.2,by omega⟩
        cases this) _
      |true=>
       obtain⟨hc1,rfl⟩:=g3 rfl
       obtain⟨s1,l1,z1⟩:=g2.1 rfl
       rw[if_pos rfl,if_pos h5,if_pos trivial,P.Yr]
       simp only[oS,List.nil_append]
       by_cases hsv:ZHr (Zm w d t p.kids[0]) (Zm w d t p.kids[1])
       ·rw[if_pos (ZG hsv),F.f139,if_neg (by omega)]
        simp only[oS]
        have kk:∀i,0<=i->i<(ZI w t p).length->∀(h:i<(ZI w t p).length) (h':i<p.kids.length),Zs w d (ZI w t p)[i] p.kids[i]/\ZF1 w d (ZI w t p)[i] p.kids[i]:=by
         intro i _ _ h h'
         have ei:(ZI w t p)[i]=t:=by
          have:i=0∨i=1:=by omega
          rcases this with rfl|rfl<;>simp[et]
         rw[ei]
         have:i=0∨i=1:=by omega
         rcases this with rfl|rfl
         ·exact⟨s0,l0⟩
         ·exact⟨s1,l1⟩
        have sh:Zs w (d+1) t p:=⟨ho,hl,fun i a b c e=>(kk i a b c e).1⟩
        have li:ZF1 w (d+1) t p:=⟨fun i a b c e=>(kk i a b c e).2,by rw[if_pos h5];exact fun _ _=>hsv⟩
        have hnd:=ZC1 sh li
        have hvk:=ZC0 hw ht sh
        rw[ZEe ho h5 h0]at hnd hvk
        rw[ZQJ (vs:=Zm w d t p.kids[0]) (M:=F.f135 ((c1:Int),Zm w d t p.kids[0])) (r:=([],false,(c1:Int))) (fun x hx=>⟨(hvk x hx).1,(hvk x hx).2.1⟩) (fun s i=>by rw[F.f135]) _ 0 _ rfl,List.drop_zero,if_pos (ZG ⟨hnd,fun _ _=>rfl⟩)]
        exact⟨_,true,c1,rfl,⟨fun _=>⟨sh,li,by omega⟩,fun _=>rfl⟩,fun _=>⟨by omega,(ZEe ho h5 h0).symm⟩⟩
       ·rw[if_neg (by rw[ZE hsv];simp)]
        simp only[oS]
        exact no (fun h=>hsv (kid0 h.1 h.2.1).2.2) _
    ·have kidx:Zs w (d+1) t p->ZF1 w (d+1) t p->ZPM w d (ZI w t p) p.kids 0:=fun a b i hi hlt h h'=>⟨a.2.2 i hi hlt h h',b.1 i hi hlt h h'⟩
     have fin:∀(v00:List VarType) (hv00:v00.length<=1) (hv:v00=if p.op=2∨p.op=6 then[(⟨p.var,t⟩:VarType)]else[])
       (L:Int->List VarType->Nat->Option (Lo ((List VarType)×Bool×Int) (Int×(List VarType))))
       (hL:∀z vars i,L z vars i=if i<p.kids.length then p.kids[i]? >>=fun x=>(ZI w t p)[i]? >>=fun y=>F.f137 w y x (i64.wrap (((11- (d+1):Nat):Int)+1)) z>>=fun r=>if r.2.1=true then(if p.op=5 then(if i=1 then F.f133 vars r.1>>=fun b=>if b=true then L r.2.2 vars (i+1)else some (.ret ([],false,r.2.2))else(if vars.length+r.1.length<=67108864 then L r.2.2 (vars++r.1) (i+1)else none))else(if vars.length+r.1.length<=67108864 then L r.2.2 (vars++r.1) (i+1)else none))else some (.ret ([],false,r.2.2))else some (.go (z,vars)))
       (M:Int×List VarType->(Nat->Bool)->Nat->Option (Lo ((List VarType)×Bool×Int) Unit))
       (hM:∀q s i,M q s i=if i<q.2.length then q.2[i]? >>=fun x=>if 0<=x.var/\x.var.toNat<6 then(if s x.var.toNat=true then some (.ret ([],false,q.1))else M q (ZF9 s x.var.toNat true) (i+1))else none else some (.go ())),
       ∃vs b c,((L ((count+1:Nat):Int) v00 0).bind fun o=>match o with
        | .ret r0=>some r0
        | .go s=>(M s (fun _=>false) 0).bind fun o=>match o with
         | .ret r0=>some r0
         | .go _=>some (s.2,true,s.1))=some (vs,b,((c:Nat):Int))/\ZB5 w (d+1) t p count vs b c:=by
      intro v00 hv00 hv L hL M hM
      obtain⟨o,g1,g2⟩:=P.YAU w d hd p hp (ZI w t p) hl.symm hts h5 L hL ihx _ 0 (count+1) v00 rfl (by omega) (by rw[←hwt];omega)
      rw[g1]
      simp only[oS]
      rw[←hwt]at g2
      cases o with
      |ret r=>
       obtain⟨vs,b,c⟩:=r
       obtain⟨rfl,c',rfl,q3⟩:=g2
       exact⟨vs,false,c',rfl,⟨fun h=>(by cases h),fun hh=>absurd ⟨kidx hh.1 hh.2.1,by have:=hh.2.2;omega⟩ q3⟩,fun h=>by cases h⟩
      |go s=>
       obtain⟨c,vs⟩:=s
       obtain⟨rfl,q2,q3,q4⟩:=g2
       have hvs:vs=Zm w (d+1) t p:=by
        rw[q2,Zm,hv,if_neg h5,List.take_of_length_le (by simp;omega)];simp
       have sh:Zs w (d+1) t p:=⟨ho,hl,fun i a b c e=>(q3 i a b c e).1⟩
       have hvk:=ZC0 hw ht sh
       rw[←hvs]at hvk
       dsimp only
       rw[ZQJ (vs:=vs) (M:=M (((count+1+p.wt:Nat):Int),vs)) (r:=([],false,((count+1+p.wt:Nat):Int))) (fun x hx=>⟨(hvk x hx).1,(hvk x hx).2.1⟩) (fun s i=>by rw[hM]) _ 0 _ rfl,List.drop_zero]
       simp only[oS]
       by_cases hn:ZHK vs
       ·rw[if_pos (ZG ⟨hn,fun _ _=>by first|rfl|trivial⟩)]
        exact⟨vs,true,count+1+p.wt,rfl,⟨fun _=>⟨sh,⟨fun i a b c e=>(q3 i a b c e).2,by rw[if_neg h5,←hvs];exact hn⟩,by omega⟩,fun _=>rfl⟩,fun _=>⟨by omega,hvs⟩⟩
       ·rw[if_neg (by rw[ZE fun h=>hn h.1];simp)]
        exact no (fun h=>hn (by have:=h.2.1.2;rw[if_neg h5,←hvs]at this;exact this)) _
     by_cases h2:p.op=2
     ·rw[if_pos h2]
      exact fin [⟨p.var,t⟩] (by simp) (by rw[if_pos (.inl h2)]) (F.f140 w p ((11- (d+1):Nat):Int) (ZI w t p,dec (ZA9 w t p/\p.kids.length=(ZI w t p).length))) (fun z vars i=>by rw[F.f140]) F.f136 (fun q s i=>by rw[F.f136])
     ·rw[if_neg h2]
      by_cases h6:p.op=6
      ·rw[if_pos h6]
       exact fin [⟨p.var,t⟩] (by simp) (by rw[if_pos (.inr h6)]) (F.f138 w p ((11- (d+1):Nat):Int) (ZI w t p,dec (ZA9 w t p/\p.kids.length=(ZI w t p).length))) (fun z vars i=>by rw[F.f138]) F.f134 (fun q s i=>by rw[F.f134])
      ·rw[if_neg h6]
       exact fin [] (by simp) (by rw[if_neg (by omega)]) (F.f139 w p ((11- (d+1):Nat):Int) (ZI w t p,dec (ZA9 w t p/\p.kids.length=(ZI w t p).length))) (fun z vars i=>by rw[F.f139]) F.f135 (fun q s i=>by rw[F.f135])
   ·rw[if_neg (by rw[ZE hs];simp)]
    exact no (fun h=>hs ⟨h.1.1,h.1.2.1⟩) _
termination_by d=>d
def ZBY (w:List Data)(t:Ty)(p:Pattern):Prop:=Zs w 10 t p/\ZF1 w 10 t p/\1+p.wt<=60
theorem P.Yw (w:List Data)(hw:ZN w)(t:Ty)(ht:Zb w t)(p:Pattern)(hp:p.wt<=1048576):F.f85 w t p=some (dec (ZBY w t p)):=by
 unfold F.f85
 have e10:F.f70 w t p 10=some (dec (Zs w 10 t p)):=P.YK w hw 10 t p ht (by omega)
 rw[e10]
 simp only[oE,oS]
 by_cases h1:Zs w 10 t p
 ·rw[if_pos (ZG h1)]
  obtain⟨c,g1,g2,g3,g4,g5⟩:=P.YAV p hp 60 (by omega)
  have g1':F.f72 p 60=some (c:Int):=g1
  rw[g1']
  simp only[oS]
  by_cases hc:1+p.wt<=60
  ·rw[if_pos (by have:=g4 hc;omega),P.YP w hw 10 t p ht h1 hp]
   simp only[oS]
   congr 1;exact ZL ⟨fun h=>⟨h1,h,hc⟩,fun h=>h.2.1⟩
  ·rw[if_neg (by have:=g5 (by omega);omega),ZE fun h=>hc h.2.2]
 ·rw[if_neg (by rw[ZE h1];simp),ZE fun h=>h1 h.1]
theorem P.YW (w:List Data)(hw:ZN w)(t:Ty)(ht:Zb w t)(p:Pattern)(hp:p.wt<=1048576):∃vs,F.f141 w t p=some (vs,dec (ZBY w t p))/\(ZBY w t p->vs=Zm w 10 t p):=by
 unfold F.f141
 obtain⟨vs,b,c,g1,g2,g3⟩:=P.YZ w hw 10 t p 0 (by omega) ht hp (by omega)
 have g1':F.f137 w t p 1 0=some (vs,b,(c:Int)):=g1
 rw[g1']
 simp only[oE,oS]
 have hb:b=dec (ZBY w t p):=by
  cases b with
  |true=>rw[ZG];obtain⟨a,b,c⟩:=g2.1 rfl;exact⟨a,b,by omega⟩
  |false=>rw[ZE];intro h;have:=g2.2 ⟨h.1,h.2.1,by have:=h.2.2;omega⟩;cases this
 subst hb
 exact⟨vs,rfl,fun h=>(g3 (ZG h)).2⟩
def gOk (g:Guard)(vs:List VarType):Prop:=(g.op=0/\g.var=0/\g.n=0)∨((g.op=1∨g.op=2)/\0<=g.n/\g.n<=9/\(⟨g.var,⟨-1,0⟩⟩:VarType)∈vs)
theorem P.YAC (g:Guard)(vs:List VarType):F.f142 g vs=some (dec (gOk g vs)):=by
 unfold F.f142
 simp only[P.YG,P.YB,oE,oS]
 by_cases h0:g.op=0
 ·rw[if_pos h0];congr 1;refine ZL ?_;unfold gOk eq3;simp only;omega
 ·rw[if_neg h0]
  by_cases h1:1<=g.op/\g.op<=2
  ·rw[if_pos (ZG h1)]
   by_cases h2:0<=g.n/\g.n<=9
   ·rw[if_pos (ZG h2)];congr 1
    refine ZL ⟨fun h=>.inr ⟨by omega,h2.1,h2.2,h⟩,fun h=> ?_⟩
    rcases h with h|h
    ·omega
    ·exact h.2.2.2
   ·rw[if_neg (by rw[ZE h2];simp),ZE]
    rintro(h|h)
    ·omega
    ·exact h2 ⟨h.2.1,h.2.2.1⟩
  ·rw[if_neg (by rw[ZE h1];simp),ZE]
   rintro(h|h)
   ·omega
   ·omega
theorem P.Yy (w:List Data)(g:Guard)(vs:List VarType)(hn:ZHK vs)(ht:∀x,x∈vs->Zb w x.type):F.f151 g vs=some (dec (gOk g vs)):=by
 unfold F.f151
 have key:g.op=1∨g.op=2->(if g.n<0 then some false else if 9<g.n then some false else(F.f79 vs g.var)>>=fun v21=>if 0<=v21 then(at? vs v21)>>=fun x25=>some (decide (x25.type.data=(-1)))else some false)=some (dec (gOk g vs)):=by
  intro hop
  by_cases a1:g.n<0
  ·rw[if_pos a1,ZE];rintro(h|h)<;>omega
  rw[if_neg a1]
  by_cases a2:9<g.n
  ·rw[if_pos a2,ZE];rintro(h|h)<;>omega
  rw[if_neg a2,P.YE]
  simp only[oE,oS]
  rcases ZBp vs g.var with h|⟨j,hj,h1,h2,h3⟩
  ·rw[if_neg (by omega),ZE]
   rintro(h'|h')
   ·omega
   ·exact ZED h _ h'.2.2.2 rfl
  ·rw[if_pos (by omega),h1,ZFv,gQ hj]
   simp only[oS]
   rw[←ZAH];congr 1
   refine ZL ⟨fun h=>.inr ⟨hop,by omega,by omega,?_⟩,fun h=> ?_⟩
   ·have hty:=ht _ (gM hj)
    have hi:vs[j].type.index=0:=by unfold Zb ZBZ at hty;omega
    have:(⟨g.var,⟨-1,0⟩⟩:VarType)=vs[j]:=ZNh (by simp[h2]) ⟨by simp[h],by simp[hi]⟩
    rw[this];exact gM hj
   ·rcases h with h|h
    ·omega
    ·obtain⟨i,hi,e⟩:=List.getElem_of_mem h.2.2.2
     have hij:i=j:=by
      rw[ZEh]at hn
      rcases Nat.lt_trichotomy i j with hlt|heq|hlt
      ·exact absurd (by rw[e,h2]) (hn i j hi hj hlt)
      ·exact heq
      ·exact absurd (by rw[e,h2]) (hn j i hj hi hlt)
     subst hij
     rw[e]
 by_cases h0:g.op=0
 ·rw[if_pos h0]
  by_cases h1:g.var=0
  ·rw[if_pos h1,←ZAH];congr 1;refine ZL ⟨fun h=>.inl ⟨h0,h1,h⟩,fun h=> ?_⟩
   rcases h with h|h
   ·exact h.2.2
   ·omega
  ·rw[if_neg h1,ZE];rintro(h|h)<;>omega
 ·rw[if_neg h0]
  by_cases h1:g.op=1
  ·rw[if_pos h1];exact key (.inl h1)
  ·rw[if_neg h1]
   by_cases h2:g.op=2
   ·rw[if_pos h2];exact key (.inr h2)
   ·rw[if_neg h2,ZE];rintro(h|h)<;>omega
def ZIZ (w:List Data)(t:Ty)(c:Clause):Prop:=ZBY w t c.pat/\gOk c.guard (Zm w 10 t c.pat)
theorem P.YAS (w:List Data)(hw:ZN w)(t:Ty)(ht:Zb w t)(c:Clause)(hp:c.pat.wt<=1048576):F.f152 w t c=some (dec (ZIZ w t c)):=by
 unfold F.f152
 rw[P.Yw w hw t ht _ hp]
 simp only[oE,oS]
 by_cases h:ZBY w t c.pat
 ·rw[if_pos (ZG h),P.YA w hw 10 t c.pat [] ht h.1 (by simp;omega)]
  simp only[oS,List.nil_append]
  rw[P.Yy w _ _ (ZC1 h.1 h.2.1) (fun x hx=>(ZC0 hw ht h.1 x hx).2.2)]
  simp only[oS]
  congr 1;exact ZL ⟨fun g=>⟨h,g⟩,fun g=>g.2⟩
 ·rw[if_neg (by rw[ZE h];simp),ZE fun g=>h g.1]
theorem P.Yu (w:List Data)(hw:ZN w)(t:Ty)(ht:Zb w t)(c:Clause)(hp:c.pat.wt<=1048576):F.f143 w t c=some (dec (ZIZ w t c)):=by
 unfold F.f143
 obtain⟨vs,h1,h2⟩:=P.YW w hw t ht c.pat hp
 rw[h1]
 simp only[oE,oS]
 by_cases h:ZBY w t c.pat
 ·rw[if_pos (ZG h),P.YAC,h2 h]
  simp only[oS]
  congr 1;exact ZL ⟨fun g=>⟨h,g⟩,fun g=>g.2⟩
 ·rw[if_neg (by rw[ZE h];simp),ZE fun g=>h g.1]
def ZQK (v:Int):Nat->Pattern->Prop
 |0,_=>False
 |d+1,p=>(∃i,∃h:i<p.kids.length,ZQK v d p.kids[i])∨((p.op=2∨p.op=6)/\p.var=v)
theorem ZBa (a b c d e:Int):(⟨a,b,c,d,e,[]⟩:Pattern).wt=0:=by rw[Pattern.wt_eq];rfl
theorem ZNf (a b c d e:Int)(k:Pattern):(⟨a,b,c,d,e,[k]⟩:Pattern).wt=1+k.wt:=by rw[Pattern.wt_eq];simp
theorem ZNe (a b c d e:Int)(k l:Pattern):(⟨a,b,c,d,e,[k,l]⟩:Pattern).wt=2+k.wt+l.wt:=by rw[Pattern.wt_eq];simp;omega
theorem ZIq {α:Type}(f:α->Nat):∀(l:List α) (i:Nat) (h:i<l.length) (x:α),wtL f (l.set i x)+f l[i]=wtL f l+f x
 |a::l,0,h,x=>by simp;omega
 |a::l,i+1,h,x=>by
  have:=ZIq f l i (by simpa using h) x
  simp;omega
def hv (d:Nat)(p:Pattern):Prop:=∃v,ZQK v d p
theorem ZDO (c0:Nat):∀(T:List ByteArray) (ks:List Pattern),T.length=ks.length->(∀i (h:i<T.length) (h':i<ks.length),T[i].size+1<=c0*(1+ks[i].wt))->ZAb T<=c0*(ks.map fun k=>1+k.wt).sum
 | [],[],_,_=>by simp[ZAb]
 | [],_::_,h,_=>by simp at h
 |_::_,[],h,_=>by simp at h
 |x::T,k::ks,h,hh=>by
  have h1:=hh 0 (by simp) (by simp)
  have h2:=ZDO c0 T ks (by simpa using h) fun i hi hi'=>by have:=hh (i+1) (by simpa using hi) (by simpa using hi');simpa using this
  simp only[ZAb,List.map_cons,List.sum_cons,List.getElem_cons_zero]at h1 h2 ⊢
  rw[Nat.mul_add]
  omega
theorem P.Yh (w:List Data)(t:Ty)(e:Pattern)(ts:List Ty)(hl:e.kids.length=ts.length)(hk:e.kids.length<=67108864)(T:List ByteArray)(hT:T.length=ts.length)
  (h:∀i (h:i<T.length),∀(h1:i<ts.length) (h2:i<e.kids.length),F.f161 w ts[i] e.kids[i]=some T[i]):∀k,k<=T.length->F.f162 w t e ts (T.length-k) (T.take (T.length-k))=some T
 |0,_=>by rw[F.f162,if_neg (by omega)];simp
 |k+1,hk2=>by
  have hi:T.length- (k+1)<T.length:=by omega
  rw[F.f162,if_pos (by omega),gQ (by omega)]
  simp only[oE,oS]
  rw[gQ (by omega)]
  simp only[oS]
  rw[h _ hi (by omega) (by omega)]
  simp only[oS]
  rw[if_pos (by simp;omega)]
  have e1:T.length- (k+1)+1=T.length-k:=by omega
  have e2:T.take (T.length- (k+1))++[T[T.length- (k+1)]]=T.take (T.length-k):=by rw[←e1,List.take_succ_eq_append_getElem hi]
  rw[e1,e2]
  exact P.Yh w t e ts hl hk T hT h k (by omega)
def ZO5 (w:List Data)(t:Ty)(l:List Clause):Prop:=ZBF w t/\l.length<=8/\∀c,c∈l->ZIZ w t c
theorem P.YU (w:List Data)(hw:Zu w)(t:Ty)(l:List Clause)(hp:∀c,c∈l->c.pat.wt<=1048576):F.f154 w t l=some (dec (ZO5 w t l)):=by
 unfold F.f154
 rw[P.Yf w t hw]
 simp only[oE,oS]
 by_cases h1:ZBF w t
 ·rw[if_pos (ZG h1)]
  by_cases h2:8<l.length
  ·rw[if_pos h2,ZE fun h=>by have:=h.2.1;omega]
  ·rw[if_neg h2]
   have hl:∀k,k<=l.length->F.f153 w t l (l.length-k)=some (if dec (∀c,c∈l.drop (l.length-k)->ZIZ w t c)=true then .go ()else .ret false):=by
    intro k
    induction k with
    |zero=>intro _;rw[F.f153,if_neg (by omega),if_pos (ZG fun c hc=>by simp at hc)]
    |succ k ih=>
     intro hk
     have hi:l.length- (k+1)<l.length:=by omega
     rw[F.f153,if_pos hi,gQ hi]
     simp only[oE,oS]
     rw[P.YAS w h1.1 t h1.2 _ (hp _ (gM hi))]
     simp only[oS]
     have e1:l.length- (k+1)+1=l.length-k:=by omega
     have e2:l.drop (l.length- (k+1))=l[l.length- (k+1)]::l.drop (l.length-k):=by rw[List.drop_eq_getElem_cons hi,e1]
     by_cases hc:ZIZ w t l[l.length- (k+1)]
     ·rw[if_pos (ZG hc),e1,ih (by omega),e2]
      rw[ZL (q:=∀c,c∈l[l.length- (k+1)]::l.drop (l.length-k)->ZIZ w t c) ⟨fun h c hc'=>by
       rcases List.mem_cons.1 hc' with rfl|hc'
       ·exact hc
       ·exact h c hc',fun h c hc'=>h c (List.mem_cons_of_mem _ hc')⟩]
     ·rw[if_neg (by rw[ZE hc];simp),e2,if_neg (by rw[ZE fun h=>hc (h _ (List.mem_cons_self ..))];simp)]
   have:=hl l.length (Nat.le_refl _)
   rw[Nat.sub_self,List.drop_zero]at this
   rw[this]
   simp only[oS]
   by_cases h3:∀c,c∈l->ZIZ w t c
   ·rw[if_pos (ZG h3)];simp only;rw[ZG ⟨h1,by omega,h3⟩]
   ·rw[if_neg (by rw[ZE h3];simp)];simp only;rw[ZE fun h=>h3 h.2.2]
 ·rw[if_neg (by rw[ZE h1];simp),ZE fun h=>h1 h.1]
theorem P.YC (w:List Data)(hw:Zu w)(t:Ty)(l:List Clause)(hp:∀c,c∈l->c.pat.wt<=1048576):F.f148 w t l=some (dec (ZO5 w t l)):=by
 unfold F.f148
 rw[P.Yl w t hw]
 simp only[oE,oS]
 by_cases h1:ZBF w t
 ·rw[if_pos (ZG h1)]
  by_cases h2:l.length<=8
  ·rw[if_pos h2]
   unfold F.f147 F.f146
   have one:∀c,c∈l->F.f144 c w t=some (dec (¬ZIZ w t c)):=by
    intro c hc
    unfold F.f144
    rw[P.Yu w h1.1 t h1.2 c (hp c hc)]
    simp only[oE,oS]
    by_cases a:ZIZ w t c
    ·rw[ZG a,ZE (by simp[a])];rfl
    ·rw[ZE a,ZG a];rfl
   rw[ZLB (a:=l) (p:=fun c=>¬ZIZ w t c) (L:=F.f145 l w t) (fun k hk=>by rw[F.f145,if_neg (by omega)])
    (fun k hk hp=>by rw[F.f145,if_pos hk,gQ hk];simp only[oE,oS];rw[one _ (gM hk)];simp only[oS];rw[if_neg (by rw[ZE hp];simp)])
    (fun k hk hp=>by rw[F.f145,if_pos hk,gQ hk];simp only[oE,oS];rw[one _ (gM hk)];simp only[oS];rw[if_pos (ZG hp)]) _ 0 rfl,List.drop_zero]
   cases hf:ZF3 (fun c=>¬ZIZ w t c) 0 l with
   |none=>
    have:=ZAv hf
    simp only[oE,oS]
    rw[ZG ⟨h1,h2,fun c hc=>Classical.byContradiction fun h=>this c hc h⟩];rfl
   |some j=>
    obtain⟨_,h3,h4,_⟩:=ZAu hf
    simp only[oE,oS]
    rw[ZE fun h=>h4 (h.2.2 _ (gM h3))];simp
  ·rw[if_neg h2,ZE fun h=>h2 h.2.1]
 ·rw[if_neg (by rw[ZE h1];simp),ZE fun h=>h1 h.1]
noncomputable def ZEo (g:Guard):ByteArray:=if g.op=0 then ByteArray.empty else⟨#[32]⟩++(ZC5 [IntKind.u8.wrap (i64.wrap (97+g.var))]++(if g.op=1 then⟨#[60]⟩else⟨#[61]⟩)++ZGY g.n)
theorem ZKq (T:List ByteArray)(b:Nat)(h:∀x,x∈T->1+x.size<=b):ZAb T<=T.length*b:=by
 induction T with
 |nil=>simp[ZAb]
 |cons x r ih=>
  have h1:=h x (List.mem_cons_self ..)
  have h2:=ih fun y hy=>h y (List.mem_cons_of_mem _ hy)
  simp only[ZAb,List.map_cons,List.sum_cons,List.length_cons]at h2 ⊢
  rw[Nat.add_mul];omega
theorem P.Yj {w:List Data}{d e:Nat}{as:List Ty}{depth x:Int}(hd:i64.wrap (depth-1)=(d:Int))
  (ih:∀a,a∈as->∀K r,rok K r->K+e<=1099511627776->∃p r',F.f59 r w a (d:Int)=some (p,r')/\rok (K+e) r'/\p.wt+1<=e):
  ∀(k K:Nat) (z:List Int) (z32:Int) (out:List Pattern),k<=as.length->rok K ⟨z,z32⟩->K+k*e<=1099511627776->out.length+k<=67108864->
   ∃z' z32' out',F.f60 w depth x as z z32 out (as.length-k)=some (z',z32',out')/\rok (K+k*e) ⟨z',z32'⟩/\wtL Pattern.wt out'<=wtL Pattern.wt out+k*e
 |0,K,z,z32,out,hk,hr,hK,ho=>by
  rw[F.f60,if_neg (by omega)]
  exact⟨z,z32,out,rfl,hr.mono (by omega),by omega⟩
 |k+1,K,z,z32,out,hk,hr,hK,ho=>by
  have hi:as.length- (k+1)<as.length:=by omega
  rw[Nat.add_mul,Nat.one_mul]at hK
  obtain⟨p,r1,e1,h1,h2⟩:=ih _ (gM hi) K ⟨z,z32⟩ hr (by omega)
  obtain⟨z',z32',out',f1,f2,f3⟩:=P.Yj hd ih k (K+e) r1.f0 r1.f1 (out++[p]) (by omega) h1 (by omega) (by simp;omega)
  rw[F.f60,if_pos hi,gQ hi]
  simp only[oE,oS]
  rw[hd,e1]
  simp only[oS]
  rw[if_pos (by omega)]
  have ei:as.length- (k+1)+1=as.length-k:=by omega
  rw[ei]
  refine⟨z',z32',out',f1,f2.mono (by rw[Nat.add_mul];omega),?_⟩
  have:wtL Pattern.wt (out++[p])=wtL Pattern.wt out+(1+p.wt):=by simp[wtL];omega
  rw[Nat.add_mul];omega
theorem P.YAa {w:List Data}(hw:ZN w):∀(d:Nat) (t:Ty) (K:Nat) (r:ZB),Zb w t->d<=12->rok K r->K+5^d<=1099511627776->
  ∃p r',F.f59 r w t (d:Int)=some (p,r')/\rok (K+5^d) r'/\p.wt+1<=5^d
 |0,t,K,r,ht,hd,hr,hK=>by
  rw[F.f59,if_pos (by omega)]
  exact⟨_,_,rfl,hr.mono (by omega),by rw[ZBa];simp⟩
 |1,t,K,r,ht,hd,hr,hK=>by
  rw[F.f59,if_pos (by omega)]
  exact⟨_,_,rfl,hr.mono (by omega),by rw[ZBa];simp⟩
 |d+2,t,K,r,ht,hd,hr,hK=>by
  have hpos:1<=5^d:=Nat.pow_pos (show 0<5 by omega)
  have e25:5^ (d+2)=25*5^d:=by rw[Nat.pow_succ,Nat.pow_succ];omega
  have e7:5^ (d+1)=5*5^d:=by rw[Nat.pow_succ];omega
  have hwr:i64.wrap (((d+2:Nat):Int) -1)=((d+1:Nat):Int):=by rw[ZF (by omega) (by omega)];omega
  have ih:=fun(a:Ty) (ha:Zb w a) (K:Nat) (r:ZB) hr hK=>P.YAa hw (d+1) a K r ha (by omega) hr hK
  rw[e25]at hK ⊢
  rw[e7]at ih
  generalize 5^d=q at hpos hK ih ⊢
  rw[F.f59,if_neg (by omega)]
  obtain⟨v1,r1,e1,h1,a1,b1,_⟩:=P.YH hr (by omega) 4
  rw[e1]
  simp only[oE,oS]
  split
  ·exact⟨_,_,rfl,h1.mono (by omega),by rw[ZBa];omega⟩
  obtain⟨v2,r2,e2,h2,a2,b2,_⟩:=P.YH h1 (by omega) 6
  rw[e2]
  simp only[oS]
  split
  ·rw[hwr]
   obtain⟨p1,r3,e3,h3,w3⟩:=ih t ht _ r2 h2 (by omega)
   obtain⟨p2,r4,e4,h4,w4⟩:=ih t ht _ r3 h3 (by omega)
   rw[e3]
   simp only[oS]
   rw[e4]
   exact⟨_,_,rfl,h4.mono (by omega),by rw[ZNe];show 2+p1.wt+p2.wt+1<=_;omega⟩
  ·split
   ·obtain⟨v3,r3,e3,h3,a3,b3,_⟩:=P.YH h2 (by omega) 10
    obtain⟨v4,r4,e4,h4,a4,b4,_⟩:=P.YH h3 (by omega) (i64.wrap (10-v3))
    obtain⟨v5,r5,e5,h5,a5,b5,_⟩:=P.YH h4 (by omega) 2
    rw[e3]
    simp only[oS]
    rw[e4]
    simp only[oS]
    rw[e5]
    exact⟨_,_,rfl,h5.mono (by omega),by rw[ZBa];omega⟩
   ·next hn=>
    rw[P.YM w hw t (ZA8 ht.1)]
    simp only[oS]
    split
    ·exact⟨_,_,rfl,h2.mono (by omega),by rw[ZBa];omega⟩
    ·next hl=>
     obtain⟨v3,r3,e3,h3,a3,b3,_⟩:=P.YH h2 (by omega) ((ZR w t).length:Int)
     have b3:=b3 (by omega)
     obtain⟨c,hc,hm⟩:=ZEJ a3 b3
     rw[e3]
     simp only[oS]
     rw[hc]
     simp only[oS]
     rw[P.YF w hw t (ZA8 ht.1) c hm]
     simp only[oS]
     have hal:(ZO w t c).length<=3:=by
      have:=(Zo hw (ZA8 ht.1) (ZV hm).1).2 _ (ZAp hm).2
      unfold ZO;rw[List.length_map];exact this.2.1
     have hmul:(ZO w t c).length*(5*q)<=3*(5*q):=Nat.mul_le_mul_right _ hal
     obtain⟨z',z32',out',f1,f2,f3⟩:=P.Yj (x:=c) hwr (fun a ha K r hr hK=>ih a (ZEL hw ht hm a ha) K r hr hK) (ZO w t c).length _ r3.f0 r3.f1 [] (Nat.le_refl _) h3 (by omega) (by simp;omega)
     rw[Nat.sub_self]at f1
     rw[f1]
     refine⟨_,_,rfl,f2.mono (by omega),?_⟩
     rw[Pattern.wt_eq]
     simp at f3
     show wtL Pattern.wt out'+1<=_
     omega
theorem P.YS {p:Pattern}{L:List Int->Int->List Pattern->Nat->Int->Option ((List Int)×Int×(List Pattern)×Int)}
  (hL:∀z z12 out i next,L z z12 out i next=if i<p.kids.length then
   (p.kids[i]?)>>=fun x=>
   (F.f61 (⟨z,z12⟩:ZB) x next)>>=fun v17=>
   if out.length+1<=67108864 then
    L v17.2.2.f0 v17.2.2.f1 (out++[v17.1]) (i+1) v17.2.1
   else none
  else
   some (z,z12,out,next))
  (ih:∀k,k∈p.kids->∀(n:Int) (K:Nat) (r:ZB),0<=n->n<=7->rok K r->K+3*(1+k.wt)<=1099511627776->k.wt<=1048576->
   ∃p' n' r',F.f61 r k n=some (p',n',r')/\rok (K+3*(1+k.wt)) r'/\0<=n'/\n'<=7/\p'.wt+1<=2*(1+k.wt)):
  ∀(k K:Nat) (z:List Int) (z12:Int) (out:List Pattern) (next:Int),k<=p.kids.length->rok K ⟨z,z12⟩->K+3*wtL Pattern.wt (p.kids.drop (p.kids.length-k))<=1099511627776->wtL Pattern.wt p.kids<=1048576->out.length+k<=67108864->0<=next->next<=7->
   ∃z' z12' out' next',L z z12 out (p.kids.length-k) next=some (z',z12',out',next')/\rok (K+3*wtL Pattern.wt (p.kids.drop (p.kids.length-k))) ⟨z',z12'⟩/\0<=next'/\next'<=7/\
    wtL Pattern.wt out'<=wtL Pattern.wt out+2*wtL Pattern.wt (p.kids.drop (p.kids.length-k))
 |0,K,z,z12,out,next,hk,hr,hK,hb,ho,n0,n7=>by
  rw[hL,if_neg (by omega)]
  exact⟨z,z12,out,next,rfl,hr.mono (by omega),n0,n7,by omega⟩
 |k+1,K,z,z12,out,next,hk,hr,hK,hb,ho,n0,n7=>by
  have hi:p.kids.length- (k+1)<p.kids.length:=by omega
  have ei:p.kids.length- (k+1)+1=p.kids.length-k:=by omega
  have hd:p.kids.drop (p.kids.length- (k+1))=p.kids[p.kids.length- (k+1)]::p.kids.drop (p.kids.length-k):=by rw[List.drop_eq_getElem_cons hi,ei]
  have hm:=ZC2 Pattern.wt (gM hi)
  rw[hd,ZG5]at hK ⊢
  obtain⟨p',n',r1,e1,h1,q1,q2,q3⟩:=ih _ (gM hi) next K ⟨z,z12⟩ n0 n7 hr (by omega) (by omega)
  obtain⟨z',z12',out',next',f1,f2,f3,f4,f5⟩:=P.YS hL ih k _ r1.f0 r1.f1 (out++[p']) n' (by omega) h1 (by omega) hb (by simp;omega) q1 q2
  rw[hL,if_pos hi,gQ hi]
  simp only[oE,oS]
  rw[e1]
  simp only[oS]
  rw[if_pos (by omega),ei]
  refine⟨z',z12',out',next',f1,f2.mono (by omega),f3,f4,?_⟩
  have:wtL Pattern.wt (out++[p'])=wtL Pattern.wt out+(1+p'.wt):=by simp[wtL];omega
  omega
theorem P.YAm (p : Pattern) : ∀ (n : Int) (K : Nat) (r : ZB), 0 <= n -> n <= 7 -> rok K r -> K + 3 * (1 + p.wt) <= 1099511627776 -> p.wt <= 1048576 ->
   ∃p' n' r',F.f61 r p n=some (p',n',r')/\rok (K+3*(1+p.wt)) r'/\0<=n'/\n'<=7/\p'.wt+1<=2*(1+p.wt):=by
 induction p using Pattern.ind with
 |_ p ih=>
  intro n K r n0 n7 hr hK hb
  have hwt:=p.wt_eq
  have hlen:=ZF5 Pattern.wt p.kids
  have same:p.wt+1<=2*(1+p.wt):=by omega
  rw[F.f61]
  split
  ·exact⟨_,_,_,rfl,hr.mono (by omega),n0,n7,same⟩
  split
  ·exact⟨_,_,_,rfl,hr.mono (by omega),n0,n7,same⟩
  split
  ·exact⟨_,_,_,rfl,hr.mono (by omega),n0,n7,same⟩
  have tail:∀(K':Nat) (z':List Int) (z12':Int) (out':List Pattern) (next':Int),rok K' ⟨z',z12'⟩->K'+1<=K+3*(1+p.wt)->0<=next'->next'<=7->wtL Pattern.wt out'<=2*p.wt->
    ∃p' n' r',(if next'<=5 then
     (F.f1 (⟨z',z12'⟩:ZB) 6).bind fun v24=>
     if v24.1=0 then
      some ((⟨6,0,0,0,next',[(⟨p.op,p.ctor,p.n,p.m,p.var,out'⟩:Pattern)]⟩:Pattern),i64.wrap (next'+1),v24.2)
     else
      some ((⟨p.op,p.ctor,p.n,p.m,p.var,out'⟩:Pattern),next',v24.2)
    else
     some ((⟨p.op,p.ctor,p.n,p.m,p.var,out'⟩:Pattern),next',(⟨z',z12'⟩:ZB)))=some (p',n',r')/\rok (K+3*(1+p.wt)) r'/\0<=n'/\n'<=7/\p'.wt+1<=2*(1+p.wt):=by
   intro K' z' z12' out' next' hr' hK' m0 m7 hout
   have hown:(⟨p.op,p.ctor,p.n,p.m,p.var,out'⟩:Pattern).wt=wtL Pattern.wt out':=by rw[Pattern.wt_eq]
   split
   ·obtain⟨v,r1,e1,h1,a1,b1,_⟩:=P.YH hr' (by omega) 6
    rw[e1]
    simp only[oS]
    have hwn:i64.wrap (next'+1)=next'+1:=ZF (by omega) (by omega)
    rw[hwn]
    split
    ·refine⟨_,_,_,rfl,h1.mono (by omega),by omega,by omega,?_⟩
     rw[ZNf,hown];omega
    ·refine⟨_,_,_,rfl,h1.mono (by omega),by omega,by omega,?_⟩
     rw[hown];omega
   ·refine⟨_,_,_,rfl,hr'.mono (by omega),m0,m7,?_⟩
    rw[hown];omega
  split
  ·obtain⟨v,r1,e1,h1,a1,b1,_⟩:=P.YH hr (by omega) 2
   rw[e1]
   simp only[oE,oS]
   have hwn:i64.wrap (n+1)=n+1:=ZF (by omega) (by omega)
   split
   ·rw[hwn]
    exact⟨_,_,_,rfl,h1.mono (by omega),by omega,by omega,by rw[ZBa];omega⟩
   ·obtain⟨z',z12',out',next',f1,f2,f3,f4,f5⟩:=P.YS (p:=p) (L:=F.f62 p n) (fun z z12 out i next=>by rw[F.f62]) ih p.kids.length _ r1.f0 r1.f1 [] n (Nat.le_refl _) h1 (by rw[Nat.sub_self,List.drop_zero];omega) (by omega) (by simp;omega) n0 n7
    rw[Nat.sub_self]at f1;rw[Nat.sub_self,List.drop_zero]at f2 f5
    rw[f1]
    simp only[oS]
    simp at f5
    exact tail _ z' z12' out' next' f2 (by omega) f3 f4 (by omega)
  ·obtain⟨z',z12',out',next',f1,f2,f3,f4,f5⟩:=P.YS (p:=p) (L:=F.f63 p n) (fun z z12 out i next=>by rw[F.f63]) ih p.kids.length _ r.f0 r.f1 [] n (Nat.le_refl _) hr (by rw[Nat.sub_self,List.drop_zero];omega) (by omega) (by simp;omega) n0 n7
   rw[Nat.sub_self]at f1;rw[Nat.sub_self,List.drop_zero]at f2 f5
   rw[f1]
   simp only[oE,oS]
   simp at f5
   exact tail _ z' z12' out' next' f2 (by omega) f3 f4 (by omega)
theorem ZPG (w:List Data)(t:Ty):ZBY w t ⟨1,0,0,0,0,[]⟩:=by
 have hp:ZI w t ⟨1,0,0,0,0,[]⟩=[]:=by simp[ZI]
 refine⟨⟨.inl ⟨rfl,rfl,rfl,rfl,rfl⟩,by rw[hp];rfl,fun i _ h=>by rw[hp]at h;simp at h⟩,⟨fun i _ h=>by rw[hp]at h;simp at h,?_⟩,by rw[ZBa];omega⟩
 rw[if_neg (by simp)]
 simp[ZHK,Zm]
theorem P.YAf {w:List Data}(hw:ZN w){t:Ty}(ht:Zb w t){K:Nat}{r:ZB}(hr:rok K r)(hK:K+2600<=1099511627776):∃p r',F.f86 r w t=some (p,r')/\rok (K+2600) r'/\ZBY w t p:=by
 unfold F.f86
 obtain⟨v,r1,e1,h1,hv⟩:=P.num hr (by omega) [3,2,4,1] (by simp)
 obtain⟨d,rfl,hd⟩:∃d:Nat,v=(d:Int)/\d<=4:=by
  simp at hv
  exact⟨v.toNat,by omega,by omega⟩
 have h8:5^d<=625:=Nat.le_trans (Nat.pow_le_pow_right (n:=5) (by omega) hd) (by decide)
 obtain⟨p,r2,e2,h2,hp⟩:=P.YAa hw d t _ r1 ht (by omega) h1 (by omega)
 obtain⟨q,n,r3,e3,h3,_,_,hq⟩:=P.YAm p 0 _ r2 (by omega) (by omega) h2 (by omega) (by omega)
 rw[e1]
 simp only[oE,oS]
 rw[e2]
 simp only[oS]
 rw[e3]
 simp only[oS]
 rw[P.Yw w hw t ht q (by omega)]
 simp only[oS]
 by_cases h:ZBY w t q
 ·rw[if_pos (ZG h)]
  exact⟨_,_,rfl,h3.mono (by omega),h⟩
 ·rw[if_neg (by rw[ZE h];simp)]
  exact⟨_,_,rfl,h3.mono (by omega),ZPG w t⟩
theorem P.YAl {w:List Data}(hw:ZN w){t:Ty}(ht:Zb w t){K:Nat}{r:ZB}(hr:rok K r)(hK:K+20000<=1099511627776):∃p r',F.f86 r w t=some (p,r')/\rok (K+20000) r'/\ZBY w t p:=by
 obtain⟨p,r',e,h,hp⟩:=P.YAf hw ht hr (by omega)
 exact⟨p,r',e,h.mono (by omega),hp⟩
theorem P.YD (v:Pattern×ZB)(vs:List VarType):∀(k K:Nat) (z:List Int) (z4 z5 z6 z7:Int),k<=vs.length->rok K ⟨z,z4⟩->K+3*k<=1099511627776->
  ∃z' z4' z5' z6' z7',F.f87 v z z4 z5 z6 z7 vs (vs.length-k)=some (z',z4',z5',z6',z7')/\rok (K+3*k) ⟨z',z4'⟩
 |0,K,z,z4,z5,z6,z7,hk,hr,hK=>by
  rw[F.f87,if_neg (by omega)]
  exact⟨z,z4,z5,z6,z7,rfl,hr.mono (by omega)⟩
 |k+1,K,z,z4,z5,z6,z7,hk,hr,hK=>by
  have hi:vs.length- (k+1)<vs.length:=by omega
  have ei:vs.length- (k+1)+1=vs.length-k:=by omega
  rw[F.f87,if_pos hi,gQ hi]
  simp only[oE,oS]
  rw[ei]
  split
  ·obtain⟨v1,r1,e1,h1,_⟩:=P.YH hr (by omega) 2
   rw[e1]
   simp only[oS]
   split
   ·obtain⟨v2,r2,e2,h2,_⟩:=P.YH h1 (by omega) 2
    obtain⟨v3,r3,e3,h3,_⟩:=P.YH h2 (by omega) 10
    rw[e2]
    simp only[oS]
    rw[e3]
    simp only[oS]
    obtain⟨a,b,c,d,e,f1,f2⟩:=P.YD v vs k _ r3.f0 r3.f1 (i64.wrap (1+v2)) (vs[vs.length- (k+1)]).var v3 (by omega) h3 (by omega)
    exact⟨a,b,c,d,e,f1,f2.mono (by omega)⟩
   ·obtain⟨a,b,c,d,e,f1,f2⟩:=P.YD v vs k _ r1.f0 r1.f1 z5 z6 z7 (by omega) h1 (by omega)
    exact⟨a,b,c,d,e,f1,f2.mono (by omega)⟩
  ·obtain⟨a,b,c,d,e,f1,f2⟩:=P.YD v vs k _ z z4 z5 z6 z7 (by omega) hr (by omega)
   exact⟨a,b,c,d,e,f1,f2.mono (by omega)⟩
theorem P.YAZ {w:List Data}(hw:ZN w){t:Ty}(ht:Zb w t){K:Nat}{r:ZB}(hr:rok K r)(hK:K+21000<=1099511627776):∃c r',F.f88 r w t=some (c,r')/\rok (K+21000) r'/\ZBY w t c.pat:=by
 unfold F.f88
 obtain⟨p,r1,e1,h1,hp⟩:=P.YAl hw ht hr (by omega)
 rw[e1]
 simp only[oE,oS]
 have hl:=ZBI w 10 t p
 have hb:=hp.2.2
 rw[P.YA w hw 10 t p [] ht hp.1 (by simp;omega)]
 simp only[oS,List.nil_append]
 obtain⟨a,b,c,d,e,f1,f2⟩:=P.YD (p,r1) (Zm w 10 t p) (Zm w 10 t p).length _ r1.f0 r1.f1 0 0 0 (Nat.le_refl _) h1 (by omega)
 rw[Nat.sub_self]at f1
 rw[f1]
 exact⟨_,_,rfl,f2.mono (by omega),hp⟩
theorem P.YAJ {K:Nat}{r:ZB}(hr:rok K r)(hK:K+2<=1099511627776)(p:Pattern)(hp:p.wt<=1048576):∃p' r',F.f97 r p=some (p',r')/\rok (K+2) r'/\p'.wt<=p.wt+1:=by
 have hwt:=p.wt_eq
 have hlen:=ZF5 Pattern.wt p.kids
 have own:∀(a b c d e:Int) (ks:List Pattern),(⟨a,b,c,d,e,ks⟩:Pattern).wt=wtL Pattern.wt ks:=fun a b c d e ks=>by rw[Pattern.wt_eq]
 unfold F.f97
 rw[if_pos (by omega)]
 obtain⟨v,r1,e1,h1,_⟩:=P.YH hr (by omega) 30
 rw[e1]
 simp only[oE,oS]
 split
 ·obtain⟨v2,r2,e2,h2,_⟩:=P.num h1 (by omega) [0,7,1,2,5] (by simp)
  rw[e2];exact⟨_,_,rfl,h2,by rw[own];omega⟩
 split
 ·obtain⟨v2,r2,e2,h2,_⟩:=P.num h1 (by omega) [6,-1,1] (by simp)
  rw[e2];exact⟨_,_,rfl,h2,by rw[own];omega⟩
 split
 ·obtain⟨v2,r2,e2,h2,_⟩:=P.num h1 (by omega) [9,-1,1] (by simp)
  rw[e2];exact⟨_,_,rfl,h2,by rw[own];omega⟩
 split
 ·rw[if_pos (by omega)]
  refine⟨_,_,rfl,h1.mono (by omega),?_⟩
  rw[own]
  have:wtL Pattern.wt (p.kids++[⟨2,0,0,0,0,[]⟩])=wtL Pattern.wt p.kids+(1+Pattern.wt ⟨2,0,0,0,0,[]⟩):=by simp[wtL];omega
  rw[this,ZBa];omega
 split
 ·split
  ·next h0=>
   rw[gQ h0]
   refine⟨_,_,rfl,h1.mono (by omega),?_⟩
   rw[own]
   have:=ZIq Pattern.wt p.kids 0 h0 ⟨2,0,0,0,0,[]⟩
   rw[ZBa]at this
   omega
  ·exact⟨_,_,rfl,h1.mono (by omega),by omega⟩
 split
 ·obtain⟨v2,r2,e2,h2,_⟩:=P.num h1 (by omega) [10,-1,5] (by simp)
  rw[e2];exact⟨_,_,rfl,h2,by rw[own];omega⟩
 ·exact⟨_,_,rfl,h1.mono (by omega),by omega⟩
def Tree.nodes :Tree->Nat
 |⟨_,_,_,_,branches,els⟩=>1+(branches.attach.map fun⟨b,_⟩=>Tree.nodes b.tree).sum+(els.attach.map fun⟨k,_⟩=>Tree.nodes k).sum
termination_by t=>SizeOf.sizeOf t
decreasing_by
 ·rename_i h
  have:=List.sizeOf_lt_of_mem h
  cases b
  simp at this ⊢
  omega
 ·rename_i h
  have:=List.sizeOf_lt_of_mem h
  simp
  omega
def ZIz :Nat->Tree->Prop
 |0,_=>False
 |n+1,x=>(0<=x.op/\x.op<=2/\x.els.length<=1/\x.branches.length<=10)/\(∀b,b∈x.branches->ZIz n b.tree)/\∀y,y∈x.els->ZIz n y
def right (x:Tree):Prop:=ZIz x.nodes x
theorem P.YAi {w:List Data}(hw:ZN w){t:Ty}(ht:Zb w t):∀(k K:Nat) (z:List Int) (z2:Int) (out:List Clause),k<=5->rok K ⟨z,z2⟩->K+k*21000<=1099511627776->out.length+k<=100->(∀c,c∈out->ZBY w t c.pat)->
  ∃z' z2' l,F.f89 w t z z2 out (k:Int)=some (z',z2',l)/\rok (K+k*21000) ⟨z',z2'⟩/\l.length=out.length+k/\∀c,c∈l->ZBY w t c.pat
 |0,K,z,z2,out,hk,hr,hK,ho,hp=>by
  rw[F.f89,if_neg (by omega)]
  exact⟨_,_,_,rfl,hr.mono (by omega),rfl,hp⟩
 |k+1,K,z,z2,out,hk,hr,hK,ho,hp=>by
  have hw1:i64.wrap (((k+1:Nat):Int) -1)=(k:Int):=by rw[ZF (by omega) (by omega)];omega
  obtain⟨c,r',e,h1,h2⟩:=P.YAZ hw ht hr (by omega)
  rw[F.f89,if_pos (by omega),e,hw1]
  simp only[oE,oS]
  rw[if_pos (by omega)]
  obtain⟨z',z2',l,e2,q1,q2,q3⟩:=P.YAi hw ht k (K+21000) r'.f0 r'.f1 (out++[c]) (by omega) h1 (by omega) (by simp;omega) (fun x h=>by
   rcases List.mem_append.1 h with h|h
   ·exact hp x h
   ·rw[List.mem_singleton.1 h];exact h2)
  exact⟨z',z2',l,e2,q1.mono (by omega),by simp at q2;omega,q3⟩
theorem P.YAk {w:List Data}(hw:ZN w){t:Ty}(ht:Zb w t){K:Nat}{r:ZB}(hr:rok K r)(hK:K+106000<=1099511627776):∃l r',F.f90 r w t=some (l,r')/\rok (K+106000) r'/\l.length<=5/\∀c,c∈l->ZBY w t c.pat:=by
 unfold F.f90
 obtain⟨v,r1,e1,h1,hv⟩:=P.num hr (by omega) [3,2,4,5,1,0] (by simp)
 obtain⟨k,rfl,hk⟩:∃k:Nat,v=(k:Int)/\k<=5:=by
  simp at hv
  exact⟨v.toNat,by omega,by omega⟩
 obtain⟨z',z2',l,e2,q1,q2,q3⟩:=P.YAi hw ht k _ r1.f0 r1.f1 [] hk h1 (by omega) (by simp;omega) (by simp)
 rw[e1]
 simp only[oE,oS]
 rw[e2]
 exact⟨_,_,rfl,q1.mono (by omega),by simp at q2;simp only;omega,q3⟩
theorem P.Yi (v:Int×ZB):∀(k:Nat) (out:List Clause),out.length+k=9->(∀c,c∈out->c.pat.wt<=1000010)->∃l,F.f98 v out=some l/\l.length=9/\∀c,c∈l->c.pat.wt<=1000010
 |0,out,h,hp=>by rw[F.f98,if_neg (by omega)];exact⟨_,rfl,by omega,hp⟩
 |k+1,out,h,hp=>by
  rw[F.f98,if_pos (by omega),if_pos (by omega)]
  exact P.Yi v k (out++[⟨⟨1,0,0,0,0,[]⟩,⟨0,0,0⟩⟩]) (by simp;omega) (fun c hc=>by
   rcases List.mem_append.1 hc with hc|hc
   ·exact hp c hc
   ·rw[List.mem_singleton.1 hc];simp only;rw[ZBa];omega)
theorem P.YAY {K:Nat}{r:ZB}(hr:rok K r)(hK:K+5<=1099511627776)(l:List Clause)(hl:l.length<=8)(hp:∀c,c∈l->c.pat.wt<=1000000):∃l' r',F.f99 r l=some (l',r')/\rok (K+5) r'/\l'.length<=9/\∀c,c∈l'->c.pat.wt<=1000010:=by
 have hp':∀c,c∈l->c.pat.wt<=1000010:=fun c h=>by have:=hp c h;omega
 have setOk:∀x:Clause,x.pat.wt<=1000010->∀c,c∈l.set 0 x->c.pat.wt<=1000010:=fun x hx c hc=>by
  rcases List.mem_or_eq_of_mem_set hc with h|h
  ·exact hp' c h
  ·rw[h];exact hx
 unfold F.f99
 rw[if_pos (by omega)]
 obtain⟨v,r1,e1,h1,_⟩:=P.YH hr (by omega) 24
 rw[e1]
 simp only[oE,oS]
 split
 ·split
  ·next h0=>
   obtain⟨v2,r2,e2,h2,_⟩:=P.num h1 (by omega) [1,2,3,-1] (by simp)
   obtain⟨v3,r3,e3,h3,_⟩:=P.num h2 (by omega) [0,5,9] (by simp)
   obtain⟨v4,r4,e4,h4,_⟩:=P.num h3 (by omega) [3,10,-1] (by simp)
   rw[e2]
   simp only[oS]
   rw[e3]
   simp only[oS]
   rw[e4]
   simp only[oS]
   rw[gQ h0]
   exact⟨_,_,rfl,h4.mono (by omega),by simp;omega,setOk _ (by simpa using hp' _ (gM h0))⟩
  ·exact⟨_,_,rfl,h1.mono (by omega),by omega,hp'⟩
 split
 ·split
  ·next h0=>
   have hx:=hp _ (gM h0)
   obtain⟨p2,r2,e2,h2,w2⟩:=P.YAJ h1 (by omega) l[0].pat (by omega)
   obtain⟨p3,r3,e3,h3,w3⟩:=P.YAJ h2 (by omega) p2 (by omega)
   rw[gQ h0]
   simp only[oS]
   rw[e2]
   simp only[oS]
   rw[e3]
   exact⟨_,_,rfl,h3.mono (by omega),by simp;omega,setOk _ (by show p3.wt<=_;omega)⟩
  ·exact⟨_,_,rfl,h1.mono (by omega),by omega,hp'⟩
 split
 ·obtain⟨l',e2,q1,q2⟩:=P.Yi (v,r1) (9-l.length) l (by omega) hp'
  rw[e2]
  exact⟨_,_,rfl,h1.mono (by omega),by omega,q2⟩
 ·exact⟨_,_,rfl,h1.mono (by omega),by omega,hp'⟩
theorem P.YAe {K:Nat}{r:ZB}(hr:rok K r)(hK:K+107000<=1099511627776):∃w t l v r' T,F.f91 r=some (w,t,l,v,r')/\rok (K+107000) r'/\w∈ZAQ/\F.f53 w=some T/\TOk w T/\Zb w t/\l.length<=5/\(∀c,c∈l->ZBY w t c.pat)/\pv w false 4 t v/\v.wt+1<=256:=by
 obtain⟨w,t,v,r1,T,e1,h1,hw,hT',hT,a1,a2,a3,_,hv,hvw,a4⟩:=P.YAb hr (by omega)
 have ht:Zb w t:=by
  refine⟨?_,a3⟩
  rcases a1 with q|⟨q1,q2,q3,q4⟩
  ·exact .inl ⟨q,a4 q⟩
  ·exact .inr ⟨q1,q2,by omega,q4⟩
 obtain⟨l,r2,e2,h2,l1,l2⟩:=P.YAk hT.wok ht h1 (by omega)
 unfold F.f91
 rw[e1]
 simp only[oE,oS]
 rw[e2]
 exact⟨w,t,l,v,r2,T,rfl,h2.mono (by omega),hw,hT',hT,ht,l1,l2,hv,hvw⟩
theorem P.YAn (w:List Data)(hw:w.length<=1000/\∀d,d∈w->d.ctors.length<=1000/\∀c,c∈d.ctors->c.args.length<=1000):F.f94 w=some w:=by
 unfold F.f94
 have inner:∀(out:List Data) (d:Nat) (x:Data) (hd:d<w.length) (m k:Nat) (out7:List Ctor),w[d].ctors.length-k=m->out7.length+m<=2000->F.f92 w out d x out7 k=some (out7++w[d].ctors.drop k):=by
  intro out d x hd m
  obtain⟨h1,h2⟩:=hw.2 _ (gM hd)
  induction m with
  |zero=>
   intro k out7 hm hb
   rw[F.f92,gQ hd]
   simp only[oE,oS]
   rw[if_neg (by omega),List.drop_eq_nil_of_le (by omega),List.append_nil]
  |succ m ih=>
   intro k out7 hm hb
   have hk:k<w[d].ctors.length:=by omega
   have:=h2 _ (gM hk)
   rw[F.f92,gQ hd]
   simp only[oE,oS]
   rw[if_pos hk,gQ hk]
   simp only[oS]
   rw[if_pos (by omega),if_pos (by omega),if_pos (by omega),ih (k+1) _ (by omega) (by simp;omega),List.drop_eq_getElem_cons hk]
   simp
 have outer:∀(m d:Nat) (out:List Data),w.length-d=m->out.length+m<=2000->F.f93 w out d=some (out++w.drop d):=by
  intro m
  induction m with
  |zero=>intro d out hm hb;rw[F.f93,if_neg (by omega),List.drop_eq_nil_of_le (by omega),List.append_nil]
  |succ m ih=>
   intro d out hm hb
   have hd:d<w.length:=by omega
   have:=(hw.2 _ (gM hd)).1
   rw[F.f93,if_pos hd,gQ hd]
   simp only[oE,oS]
   rw[inner out d w[d] hd _ 0 [] rfl (by simp;omega)]
   simp only[oS]
   rw[if_pos (by omega),if_pos (by omega),show(⟨w[d].name,[]++w[d].ctors.drop 0⟩:Data)=w[d]from by rw[List.drop_zero,List.nil_append],ih (d+1) _ (by omega) (by simp;omega),List.drop_eq_getElem_cons hd]
   simp
 rw[outer _ 0 [] rfl (by simp;omega)]
 simp
theorem P.of {K:Nat}{r:ZB}(h:rok K r)(hK:K<=1099511627776)(l:List ByteArray)(hl:l≠[]):∃v r',F.f95 r l=some (v,r')/\rok (K+1) r'/\v∈l:=by
 unfold F.f95
 obtain⟨v,r',e,h1,h2,h3,_⟩:=P.YH h hK (l.length:Int)
 have hp:0<l.length:=List.length_pos_iff.2 hl
 have hv:=h3 (by omega)
 obtain⟨k,rfl⟩:=Int.eq_ofNat_of_zero_le h2
 have hk:k<l.length:=by omega
 rw[e]
 simp only[oE,oS]
 rw[ZFv,gQ hk]
 exact⟨_,_,rfl,h1,gM hk⟩
theorem P.YAd {K:Nat}{r:ZB}(hr:rok K r)(hK:K+10<=1099511627776){w:List Data}(hw:w∈ZAQ):∃w' r',F.f96 r w=some (w',r')/\rok (K+4) r'/\Zu w':=by
 obtain⟨hwo,hl1,hl2,hs,_⟩:=ZG8 hw
 have hb:w.length<=1000/\∀d,d∈w->d.ctors.length<=1000/\∀c,c∈d.ctors->c.args.length<=1000:=by
  simp only[ZAQ,List.mem_cons,List.not_mem_nil,or_false]at hw
  rcases hw with rfl|rfl|rfl|rfl|rfl|rfl|rfl<;>exact⟨by decide,by decide⟩
 unfold F.f96
 rw[P.YAn w hb]
 obtain⟨v,r1,e1,h1,h2,h3,_⟩:=P.YH hr (by omega) (w.length:Int)
 have hv:=h3 (by omega)
 obtain⟨d,rfl⟩:=Int.eq_ofNat_of_zero_le h2
 have hd:d<w.length:=by omega
 simp only[oE,oS,e1,ZFv,gQ hd]
 have ZHp:∀(x:Data),(∀c,c∈x.ctors->c.name.size<=1048576)->Zu (w.set d x):=fun x hx=>by
  refine⟨by rw[List.length_set];exact hs.1,fun y hy c hc=> ?_⟩
  rcases List.mem_or_eq_of_mem_set hy with hy|rfl
  ·exact hs.2 y hy c hc
  ·exact hx c hc
 have hsd:∀c,c∈w[d].ctors->c.name.size<=1048576:=fun c hc=>hs.2 _ (gM hd) c hc
 have hr4:∀{k:Nat} {r:ZB},k<=4->rok (K+k) r->rok (K+4) r:=fun hk h=>⟨h.1,h.2.1,h.2.2.1,by have:=h.2.2.2;omega⟩
 by_cases h0:w[d].ctors.length=0
 ·rw[if_pos h0];exact⟨_,_,rfl,hr4 (k:=1) (by omega) h1,hs⟩
 rw[if_neg h0]
 have hc0:0<w[d].ctors.length:=by omega
 have hcm:=gM hc0
 obtain⟨p,r2,e2,g1,g2,_⟩:=P.YH h1 (by omega) 30
 simp only[gQ hc0,oS,e2]
 have set0:∀(c:Ctor),c.name.size<=1048576->∀y,y∈w[d].ctors.set 0 c->y.name.size<=1048576:=fun c hc y hy=>by
  rcases List.mem_or_eq_of_mem_set hy with hy|rfl
  ·exact hsd y hy
  ·exact hc
 have g1':rok (K+2) r2:=g1
 split
 ·obtain⟨s,r3,e3,q1,_⟩:=P.of g1' (by omega) [(⟨#[73]⟩:ByteArray),ByteArray.empty,(⟨#[97]⟩:ByteArray),(⟨#[76,76]⟩:ByteArray),(⟨#[90]⟩:ByteArray)] (by simp)
  rw[e3]
  exact⟨_,_,rfl,hr4 (k:=3) (by omega) q1,ZHp _ hsd⟩
 split
 ·exact⟨_,_,rfl,hr4 (k:=2) (by omega) g1',ZHp _ (by simp)⟩
 split
 ·obtain⟨s,r3,e3,q1,q2⟩:=P.of g1' (by omega) [ByteArray.empty,(⟨#[110,105,108]⟩:ByteArray),(⟨#[84,111,111,108,111,110,103]⟩:ByteArray),(⟨#[88]⟩:ByteArray)] (by simp)
  rw[e3]
  simp only[List.mem_cons,List.not_mem_nil,or_false]at q2
  have q3:s.size<=1048576:=by rcases q2 with rfl|rfl|rfl|rfl<;>decide
  exact⟨_,_,rfl,hr4 (k:=3) (by omega) q1,ZHp _ (set0 _ q3)⟩
 split
 ·obtain⟨s,r3,e3,q1,_⟩:=P.num g1' (by omega) [9,-2,0,-1] (by simp)
  obtain⟨s2,r4,e4,q2,_⟩:=P.num q1 (by omega) [0,4,-1,-2] (by simp)
  rw[e3]
  simp only[oS]
  rw[e4]
  simp only[oS]
  have:=(hb.2 _ (gM hd)).2 _ hcm
  rw[if_pos (by omega)]
  exact⟨_,_,rfl,hr4 (k:=4) (by omega) q2,ZHp _ (set0 _ (hsd w[d].ctors[0] hcm))⟩
 split
 ·obtain⟨s,r3,e3,q1,_⟩:=P.num g1' (by omega) [4,-1,1] (by simp)
  rw[e3]
  exact⟨_,_,rfl,hr4 (k:=3) (by omega) q1,ZHp _ (set0 _ (hsd w[d].ctors[0] hcm))⟩
 split
 ·rw[if_pos (by omega)]
  refine⟨_,_,rfl,hr4 (k:=2) (by omega) g1',by rw[List.length_append];simp;omega,fun y hy c hc=> ?_⟩
  rcases List.mem_append.1 hy with hy|hy
  ·exact hs.2 y hy c hc
  ·rw[List.mem_singleton.1 hy]at hc;exact hsd c hc
 ·exact⟨_,_,rfl,hr4 (k:=2) (by omega) g1',hs⟩
theorem ZEm {n:Int}(h0:0<=n)(h9:n<=9):(ZGY n).size=1:=by
 have e:ZGY n=ZC5 [IntKind.u8.wrap (i64.wrap (48+n))]:=by
  obtain⟨k,rfl⟩:=Int.eq_ofNat_of_zero_le h0
  unfold ZGY
  have e1:IntKind.u8.wrap (i64.wrap (48+(k:Int)))=48+(k:Int):=by rw[ZL2,ZE4];omega
  rw[e1,Lib.decDigits,dif_pos (show((k:Int)).toNat<10 by omega)]
  have e2:(48+(k:Int)).toNat=48+k:=by omega
  have e3:((k:Int)).toNat=k:=by omega
  refine ZDc ?_
  simp[ZC5,e2,e3]
 rw[e];rfl
theorem ZMl {n:Int}(h0:0<=n)(h9:n<=9):F.f157 n=some (ZGY n):=by
 unfold F.f157;rw[if_pos (by omega)]
theorem P.YAj {n m:Int}(h0:0<=n)(h1:n<=m)(h9:m<=9):∃s,F.f158 n m=some s/\s.size<=3:=by
 have z:(⟨#[45]⟩:ByteArray).size=1:=rfl
 have a3:=ZEm h0 (show n<=9 by omega)
 have b3:=ZEm (show 0<=m by omega) h9
 unfold F.f158
 rw[ZMl h0 (by omega),ZMl (by omega) h9]
 simp only[oE,oS]
 by_cases h:n=m
 ·rw[if_pos h]
  exact⟨_,rfl,by omega⟩
 ·rw[if_neg h,if_pos (by omega),if_pos (by rw[ZZ];omega)]
  exact⟨_,rfl,by rw[ZZ,ZZ];omega⟩
theorem P.YAA (v:Int):F.f156 v=some (ZC5 [IntKind.u8.wrap (i64.wrap (97+v))]):=rfl
theorem ZL0 (l:List Pattern):l.length<=(l.map fun k=>1+k.wt).sum:=by
 induction l with
 |nil=>simp
 |cons x r ih=>simp only[List.map_cons,List.sum_cons,List.length_cons];omega
theorem ZIp :∀(l:List Pattern) i (h:i<l.length),l[i].wt<=(l.map fun k=>1+k.wt).sum
 | [],i,h=>by simp at h
 |x::r,0,h=>by simp only[List.map_cons,List.sum_cons,List.getElem_cons_zero];omega
 |x::r,i+1,h=>by have:=ZIp r i (by simpa using h);simp only[List.map_cons,List.sum_cons,List.getElem_cons_succ];omega
end Go.Vl
