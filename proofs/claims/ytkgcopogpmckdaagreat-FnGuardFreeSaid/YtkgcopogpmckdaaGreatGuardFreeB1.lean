/- Plain laws that this one rests on (printed by gen_l.py). -/
import Derived.Test.YtkgcopogpmckdaaGreatGuardFreeP
import Derived.Test.YtkgcopogpmckdaaGreatVlQ
import Derived.Test.YtkgcopogpmckdaaGreatGuardFreeE
set_option linter.all false
set_option maxRecDepth 100000
namespace Go.Vl
open Go Go.RowKit
noncomputable def fixN {α:Type}(p:α→Prop):Nat→List α→Option Nat
 |_,[]=>none
 |k,x::r=>if dec (p x)=true then some k else fixN p (k+1) r
theorem fixN_some {α:Type}{p:α→Prop}:∀{l:List α} {k j:Nat},fixN p k l=some j→k≤j∧∃h:j-k<l.length,p l[j-k]∧∀i (hi:i<l.length),i<j-k→¬p l[i]
 |x::r,k,j,h=>by
  simp only[fixN]at h
  split at h
  ·next hp=>
   obtain rfl:=Option.some.inj h
   refine⟨Nat.le_refl _,by simp,?_,fun i _ hi=>by omega⟩
   simpa using dec_iff.1 hp
  ·next hp=>
   obtain⟨h1,h2,h3,h4⟩:=fixN_some h
   have e:j-k=(j- (k+1))+1:=by omega
   refine⟨by omega,by simp;omega,?_,fun i hi hlt=> ?_⟩
   ·simp only[e,List.getElem_cons_succ];exact h3
   ·cases i with
    |zero=>exact fun hq=>hp (dec_of hq)
    |succ i=>exact h4 i (by simpa using hi) (by omega)
theorem fixN_none {α:Type}{p:α→Prop}:∀{l:List α} {k:Nat},fixN p k l=none→∀x,x∈l→¬p x
 | [],_,_=>fun x hx=>by cases hx
 |x::r,k,h=>by
  simp only[fixN]at h
  split at h
  ·cases h
  ·next hp=>
   intro y hy
   rcases List.mem_cons.1 hy with rfl|hy
   ·exact fun hq=>hp (dec_of hq)
   ·exact fixN_none h y hy
theorem findG {α:Type}{a:List α}{p:α→Prop}{L:Nat→Option (Lo Int Unit)}(h0:∀k,a.length≤k→L k=some (.go ()))(h1:∀k (h:k<a.length),¬p a[k]→L k=L (k+1))
  (h2:∀k (h:k<a.length),p a[k]→L k=some (.ret (k:Int))):∀(m k:Nat),a.length-k=m→L k=some (match fixN p k (a.drop k)with|some j=>.ret (j:Int)|none=>.go ()):=by
 intro m
 induction m with
 |zero=>intro k hm;rw[h0 k (by omega),List.drop_eq_nil_of_le (by omega)];rfl
 |succ m ih=>
  intro k hm
  have hk:k<a.length:=by omega
  rw[List.drop_eq_getElem_cons hk]
  by_cases hp:p a[k]
  ·rw[h2 k hk hp];simp only[fixN];rw[if_pos (dec_of hp)]
  ·rw[h1 k hk hp,ih (k+1) (by omega)];simp only[fixN];rw[if_neg (by rw[dec_not hp];simp)]
def bigC (c:Nat):Prop:=65≤c∧c≤90
def dataName (s:ByteArray):Prop:=s.size=1∧bigC (byteAt s 0)∧s≠⟨#[73]⟩
def nameOk (s:ByteArray):Prop:=1≤s.size∧s.size≤5∧bigC (byteAt s 0)∧∀i,1≤i→i<s.size→97≤byteAt s i∧byteAt s i≤122
def argOk (n:Nat)(t:Ty):Prop:=(t.data= -1∧t.index=0)∨(0≤t.data∧t.data<n∧-1≤t.index∧t.index≤3)
def ctorOk (n:Nat)(c:Ctor):Prop:=nameOk c.name∧c.args.length≤3∧0≤c.index∧c.index≤3∧∀j,0≤j→(h:j<c.args.length)→argOk n c.args[j]
theorem P.spec_l1Big (c:Nat):F.f10 c=some (dec (bigC c)):=by
 unfold F.f10
 by_cases h:65≤(c:Int)
 ·rw[if_pos h];congr 1;rw[←dec_eq];exact dec_congr ⟨fun h'=>⟨by omega,by omega⟩,fun h'=>by have:=h'.2;omega⟩
 ·rw[if_neg h,dec_not fun h'=>h (by have:=h'.1;omega)]
theorem P.spec_l1Data (s:ByteArray):F.f11 s=some (dec (dataName s)):=by
 unfold F.f11
 by_cases h:s.size=1
 ·rw[if_pos h,if_pos (by omega),P.spec_l1Big]
  simp only[Option.bind_eq_bind,Option.bind_some]
  by_cases hb:bigC (byteAt s 0)
  ·rw[if_pos (dec_of hb)];congr 1;rw[←dec_eq];exact dec_congr ⟨fun h'=>⟨h,hb,fun e=>h' (by rw[e])⟩,fun h' e=>h'.2.2 (bytes_eq.1 e)⟩
  ·rw[if_neg (by rw[dec_not hb];simp),dec_not fun h'=>hb h'.2.1]
 ·rw[if_neg h,dec_not fun h'=>h h'.1]
theorem P.spec_name_l1 (s:ByteArray)(hs:s.size≤1048576):F.f12 s 1=some (if dec (∀i,1≤i→i<s.size→97≤byteAt s i∧byteAt s i≤122)=true then .go ()else .ret false):=by
 refine allN (L:=F.f12 s) (fun k hk=> ?_) (fun k hk hq=> ?_) (fun k hk hq=> ?_) _ 1 rfl
 ·rw[F.f12,if_neg (by omega)]
 ·rw[F.f12,if_pos hk,if_neg (by omega),if_neg (by omega),if_pos (by omega)]
 ·rw[F.f12,if_pos hk]
  by_cases h:byteAt s k<97
  ·rw[if_pos h]
  ·rw[if_neg h,if_pos (by omega)]
theorem P.impl_name_l1 (s:ByteArray)(hs:s.size≤1048576):F.f119 s 1=some (if dec (∀i,1≤i→i<s.size→97≤byteAt s i∧byteAt s i≤122)=true then .go ()else .ret false):=by
 refine allN (L:=F.f119 s) (fun k hk=> ?_) (fun k hk hq=> ?_) (fun k hk hq=> ?_) _ 1 rfl
 ·rw[F.f119,if_neg (by omega)]
 ·rw[F.f119,if_pos hk,if_neg (by omega),if_neg (by omega),if_pos (by omega)]
 ·rw[F.f119,if_pos hk]
  by_cases h:byteAt s k<97
  ·rw[if_pos h]
  ·rw[if_neg h,if_pos (by omega)]
theorem P.spec_NameValid (s:ByteArray)(hs:s.size≤1048576):F.f13 s=some (dec (nameOk s)):=by
 unfold F.f13
 by_cases h0:s.size=0
 ·rw[if_pos h0,dec_not fun h=>by have:=h.1;omega]
 by_cases h5:5<s.size
 ·rw[if_neg h0,if_pos h5,dec_not fun h=>by have:=h.2.1;omega]
 rw[if_neg h0,if_neg h5,if_pos (by omega),P.spec_l1Big]
 simp only[Option.bind_eq_bind,Option.bind_some]
 by_cases hb:bigC (byteAt s 0)
 ·rw[if_pos (dec_of hb),P.spec_name_l1 s hs]
  simp only[Option.bind_some]
  by_cases hall:∀i,1≤i→i<s.size→97≤byteAt s i∧byteAt s i≤122
  ·rw[if_pos (dec_of hall),dec_of ⟨by omega,by omega,hb,hall⟩]
  ·rw[if_neg (by rw[dec_not hall];simp),dec_not fun h=>hall h.2.2.2]
 ·rw[if_neg (by rw[dec_not hb];simp),dec_not fun h=>hb h.2.2.1]
theorem P.within (n low high:Int):F.f118 n low high=some (dec (low≤n∧n≤high)):=by
 unfold F.f118
 by_cases h:low≤n
 ·rw[if_pos h];congr 1;rw[←dec_eq];exact dec_congr ⟨fun h'=>⟨h,h'⟩,fun h'=>h'.2⟩
 ·rw[if_neg h,dec_not fun h'=>h h'.1]
theorem P.impl_NameValid (s:ByteArray)(hs:s.size≤1048576):F.f120 s=some (dec (nameOk s)):=by
 unfold F.f120
 rw[P.within]
 simp only[Option.bind_eq_bind,Option.bind_some]
 by_cases h0:1≤(s.size:Int)∧(s.size:Int)≤5
 ·rw[if_pos (dec_of h0),if_pos (by omega)]
  by_cases a1:byteAt s 0<65
  ·rw[if_pos a1,dec_not fun h=>by have:=h.2.2.1.1;omega]
  by_cases a2:90<byteAt s 0
  ·rw[if_neg a1,if_pos a2,dec_not fun h=>by have:=h.2.2.1.2;omega]
  rw[if_neg a1,if_neg a2,P.impl_name_l1 s hs]
  simp only[Option.bind_some]
  by_cases hall:∀i,1≤i→i<s.size→97≤byteAt s i∧byteAt s i≤122
  ·rw[if_pos (dec_of hall),dec_of ⟨by omega,by omega,⟨by omega,by omega⟩,hall⟩]
  ·rw[if_neg (by rw[dec_not hall];simp),dec_not fun h=>hall h.2.2.2]
 ·rw[if_neg (by rw[dec_not h0];simp),dec_not fun h=>h0 ⟨by have:=h.1;omega,by have:=h.2.1;omega⟩]
theorem P.spec_l1Arg (n:Nat)(t:Ty):F.f14 n t=some (dec (argOk n t)):=by
 unfold F.f14
 by_cases h:t.data= -1
 ·rw[if_pos h];congr 1;rw[←dec_eq];exact dec_congr ⟨fun h'=>.inl ⟨h,h'⟩,fun h'=>h'.elim (·.2) (fun h'=>by have:=h'.1;omega)⟩
 rw[if_neg h]
 by_cases h1:0≤t.data
 ·by_cases h2:t.data<n
  ·by_cases h3: -1≤t.index
   ·rw[if_pos h1,if_pos h2,if_pos h3];congr 1;rw[←dec_eq];exact dec_congr ⟨fun h'=>.inr ⟨h1,h2,h3,h'⟩,fun h'=>h'.elim (fun h'=>absurd h'.1 h) (fun h'=>h'.2.2.2)⟩
   ·rw[if_pos h1,if_pos h2,if_neg h3,dec_not fun h'=>h'.elim (fun h'=>h h'.1) (fun h'=>h3 h'.2.2.1)]
  ·rw[if_pos h1,if_neg h2,dec_not fun h'=>h'.elim (fun h'=>h h'.1) (fun h'=>h2 h'.2.1)]
 ·rw[if_neg h1,dec_not fun h'=>h'.elim (fun h'=>h h'.1) (fun h'=>h1 h'.1)]
theorem P.impl_argOk (w:List Data)(t:Ty)(hw:w.length≤1048576):F.f121 w t=some (dec (argOk w.length t)):=by
 unfold F.f121
 by_cases h:eq2 (t.data,t.index) (-1,0)
 ·rw[if_pos (dec_of h),dec_of (.inl h)]
 rw[if_neg (by rw[dec_not h];simp),P.within,wrap_in (by omega) (by omega)]
 simp only[Option.bind_eq_bind,Option.bind_some]
 by_cases h1:0≤t.data∧t.data≤(w.length:Int) -1
 ·rw[if_pos (dec_of h1),P.within]
  simp only[Option.bind_some]
  congr 1;exact dec_congr ⟨fun h'=>.inr ⟨h1.1,by omega,h'.1,h'.2⟩,fun h'=>h'.elim (fun h'=>absurd h' h) (fun h'=>h'.2.2)⟩
 ·rw[if_neg (by rw[dec_not h1];simp),dec_not fun h'=>h'.elim (fun h'=>h h') (fun h'=>h1 ⟨h'.1,by have:=h'.2.1;omega⟩)]
theorem P.spec_l1Ctor (n:Nat)(c:Ctor)(hs:c.name.size≤1048576):F.f16 n c=some (dec (ctorOk n c)):=by
 unfold F.f16
 rw[P.spec_NameValid _ hs]
 simp only[Option.bind_eq_bind,Option.bind_some]
 by_cases h1:nameOk c.name
 ·rw[if_pos (dec_of h1)]
  by_cases h2:3<c.args.length
  ·rw[if_pos h2,dec_not fun h=>by have:=h.2.1;omega]
  by_cases h3:c.index<0
  ·rw[if_neg h2,if_pos h3,dec_not fun h=>by have:=h.2.2.1;omega]
  by_cases h4:3<c.index
  ·rw[if_neg h2,if_neg h3,if_pos h4,dec_not fun h=>by have:=h.2.2.2.1;omega]
  rw[if_neg h2,if_neg h3,if_neg h4]
  have key:F.f15 n c 0=some (if dec (∀j,0≤j→j<c.args.length→∀h:j<c.args.length,argOk n c.args[j])=true then .go ()else .ret false):=by
   refine allN (n:=c.args.length) (Q:=fun j=>∀h:j<c.args.length,argOk n c.args[j]) (L:=F.f15 n c) (fun k hk=> ?_) (fun k hk hq=> ?_) (fun k hk hq=> ?_) _ 0 rfl
   ·rw[F.f15,if_neg (by omega)]
   ·rw[F.f15,if_pos hk,List.getElem?_eq_getElem hk]
    simp only[Option.bind_eq_bind,Option.bind_some]
    rw[P.spec_l1Arg]
    simp only[Option.bind_some]
    rw[if_pos (dec_of (hq hk))]
   ·rw[F.f15,if_pos hk,List.getElem?_eq_getElem hk]
    simp only[Option.bind_eq_bind,Option.bind_some]
    rw[P.spec_l1Arg]
    simp only[Option.bind_some]
    rw[if_neg (by rw[dec_not fun h=>hq fun _=>h];simp)]
  rw[key]
  simp only[Option.bind_some]
  by_cases hall:∀j,0≤j→j<c.args.length→∀h:j<c.args.length,argOk n c.args[j]
  ·rw[if_pos (dec_of hall),dec_of ⟨h1,by omega,by omega,by omega,fun j h0 hj=>hall j h0 hj hj⟩]
  ·rw[if_neg (by rw[dec_not hall];simp),dec_not fun h=>hall fun j h0 _ hj=>h.2.2.2.2 j h0 hj]
 ·rw[if_neg (by rw[dec_not h1];simp),dec_not fun h=>h1 h.1]
theorem P.impl_ctorOk_1 (t:Ty)(w:List Data)(hw:w.length≤1048576):F.f122 t w=some (!dec (argOk w.length t)):=by
 unfold F.f122
 rw[P.impl_argOk w t hw];rfl
theorem P.args_index (w:List Data)(hw:w.length≤1048576)(s:List Ty):∃v,F.f124 s w=some v∧(0≤v↔¬∀j,0≤j→(h:j<s.length)→argOk w.length s[j]):=by
 unfold F.f124
 have key:∀(m k:Nat),s.length-k=m→∃r,F.f123 s w k=some r∧
   match r with| .ret j=>0≤j∧¬∀j,k≤j→(h:j<s.length)→argOk w.length s[j]| .go _=>∀j,k≤j→(h:j<s.length)→argOk w.length s[j]:=by
  intro m
  induction m with
  |zero=>
   intro k hm
   rw[F.f123,if_neg (by omega)]
   exact⟨_,rfl,fun j hj h=>by omega⟩
  |succ m ih=>
   intro k hm
   have hk:k<s.length:=by omega
   rw[F.f123,if_pos hk,List.getElem?_eq_getElem hk]
   simp only[Option.bind_eq_bind,Option.bind_some]
   rw[P.impl_ctorOk_1 _ _ hw]
   simp only[Option.bind_some]
   by_cases h:argOk w.length s[k]
   ·rw[if_neg (by rw[dec_of h];simp)]
    obtain⟨r,hr,hx⟩:=ih (k+1) (by omega)
    refine⟨r,hr,?_⟩
    cases r with
    |ret j=>exact⟨hx.1,fun hh=>hx.2 fun j hj hl=>hh j (by omega) hl⟩
    |go _=>
     intro j hj hl
     by_cases e:k=j
     ·subst e;exact h
     ·exact hx j (by omega) hl
   ·rw[if_pos (by rw[dec_not h];simp)]
    exact⟨_,rfl,by omega,fun hh=>h (hh k (Nat.le_refl _) hk)⟩
 obtain⟨r,hr,hx⟩:=key _ 0 rfl
 rw[hr]
 cases r with
 |ret j=>exact⟨j,rfl,fun _=>hx.2,fun _=>hx.1⟩
 |go _=>exact⟨-1,rfl,fun h=>by omega,fun h=>absurd hx h⟩
theorem P.impl_ctorOk (w:List Data)(c:Ctor)(hw:w.length≤1048576)(hs:c.name.size≤1048576):F.f126 w c=some (dec (ctorOk w.length c)):=by
 unfold F.f126
 rw[P.impl_NameValid _ hs]
 simp only[Option.bind_eq_bind,Option.bind_some]
 by_cases h1:nameOk c.name
 ·rw[if_pos (dec_of h1)]
  by_cases h2:c.args.length≤3
  ·rw[if_pos h2,P.within]
   simp only[Option.bind_some]
   by_cases h3:0≤c.index∧c.index≤3
   ·rw[if_pos (dec_of h3)]
    unfold F.f125
    obtain⟨v,hv,hx⟩:=P.args_index w hw c.args
    rw[hv]
    simp only[Option.bind_eq_bind,Option.bind_some]
    by_cases hall:∀j,0≤j→(h:j<c.args.length)→argOk w.length c.args[j]
    ·have:¬0≤v:=fun h=>(hx.1 h) hall
     rw[dec_of ⟨h1,h2,h3.1,h3.2,hall⟩];simp[this]
    ·have:0≤v:=hx.2 hall
     rw[dec_not fun h=>hall h.2.2.2.2];simp[this]
   ·rw[if_neg (by rw[dec_not h3];simp),dec_not fun h=>h3 ⟨h.2.2.1,h.2.2.2.1⟩]
  ·rw[if_neg h2,dec_not fun h=>h2 h.2.1]
 ·rw[if_neg (by rw[dec_not h1];simp),dec_not fun h=>h1 h.1]
abbrev cnames (d:Data):List ByteArray:=d.ctors.map (·.name)
structure ctorAt (w:List Data)(i:Nat)(d:Data)(k:Nat)(c:Ctor):Prop where
 ok:ctorOk w.length c
 new:c.name∉(w.take i).flatMap cnames++(d.ctors.take k).map (·.name)
structure dataAt (w:List Data)(i:Nat)(d:Data):Prop where
 name:dataName d.name
 new:d.name∉(w.take i).map (·.name)
 some:1≤d.ctors.length
 few:d.ctors.length≤4
 ctors:∀k,0≤k→k<d.ctors.length→∀h:k<d.ctors.length,ctorAt w i d k d.ctors[k]
def worldOk (w:List Data):Prop:=w.length≤4∧∀i,0≤i→i<w.length→∀h:i<w.length,dataAt w i w[i]
def smallW (w:List Data):Prop:=w.length≤1048576∧∀d,d∈w→∀c,c∈d.ctors→c.name.size≤1048576
theorem P.impl_world_l2 (w:List Data)(hw:smallW w)(met4:List ByteArray)(i:Nat)(hi:i<w.length):F.f127 w met4 i w[i] ((w.take i).flatMap cnames) 0=
  some (if dec (∀k,0≤k→k<w[i].ctors.length→∀h:k<w[i].ctors.length,ctorAt w i w[i] k w[i].ctors[k])=true then .go ((w.take i).flatMap cnames++cnames w[i])else .ret false):=by
 have key:=allG (n:=w[i].ctors.length) (r:=false) (p:=(w.take i).flatMap cnames++cnames w[i]) (Q:=fun k=>∀h:k<w[i].ctors.length,ctorAt w i w[i] k w[i].ctors[k]) (L:=fun k=>F.f127 w met4 i w[i] ((w.take i).flatMap cnames++(w[i].ctors.take k).map (·.name)) k)
  (fun k hk=>by
   show F.f127 w met4 i w[i] ((w.take i).flatMap cnames++(w[i].ctors.take k).map (·.name)) k=_
   rw[F.f127,if_neg (by omega),List.take_of_length_le hk])
  (fun k hk hq=>by
   show F.f127 w met4 i w[i] ((w.take i).flatMap cnames++(w[i].ctors.take k).map (·.name)) k=F.f127 w met4 i w[i] ((w.take i).flatMap cnames++(w[i].ctors.take (k+1)).map (·.name)) (k+1)
   have hc:=hq hk
   rw[F.f127,if_pos hk,List.getElem?_eq_getElem hk]
   simp only[Option.bind_eq_bind,Option.bind_some]
   rw[P.impl_ctorOk w _ hw.1 (hw.2 _ (List.getElem_mem hi) _ (List.getElem_mem hk))]
   simp only[Option.bind_some]
   rw[if_pos (dec_of hc.ok),if_neg (by rw[dec_not hc.new];simp),msIns,if_neg (by rw[dec_not hc.new];simp),take_map_succ hk,List.append_assoc])
  (fun k hk hq=>by
   show F.f127 w met4 i w[i] ((w.take i).flatMap cnames++(w[i].ctors.take k).map (·.name)) k=_
   rw[F.f127,if_pos hk,List.getElem?_eq_getElem hk]
   simp only[Option.bind_eq_bind,Option.bind_some]
   rw[P.impl_ctorOk w _ hw.1 (hw.2 _ (List.getElem_mem hi) _ (List.getElem_mem hk))]
   simp only[Option.bind_some]
   by_cases h1:ctorOk w.length w[i].ctors[k]
   ·rw[if_pos (dec_of h1),if_pos (dec_of ?_)]
    apply Classical.byContradiction
    intro h2
    exact hq fun _=>⟨h1,h2⟩
   ·rw[if_neg (by rw[dec_not h1];simp)]) _ 0 rfl
 simpa using key
theorem P.impl_world_l1 (w:List Data)(hw:smallW w):F.f128 w [] [] 0=some (if dec (∀i,0≤i→i<w.length→∀h:i<w.length,dataAt w i w[i])=true then .go (w.flatMap cnames,w.map (·.name))else .ret false):=by
 have key:=allG (n:=w.length) (r:=false) (p:=(w.flatMap cnames,w.map (·.name))) (Q:=fun i=>∀h:i<w.length,dataAt w i w[i]) (L:=fun i=>F.f128 w ((w.take i).flatMap cnames) ((w.take i).map (·.name)) i)
  (fun i hi=>by
   show F.f128 w ((w.take i).flatMap cnames) ((w.take i).map (·.name)) i=_
   rw[F.f128,if_neg (by omega),List.take_of_length_le hi])
  (fun i hi hq=>by
   show F.f128 w ((w.take i).flatMap cnames) ((w.take i).map (·.name)) i=F.f128 w ((w.take (i+1)).flatMap cnames) ((w.take (i+1)).map (·.name)) (i+1)
   have hd:=hq hi
   have hn:=hd.name
   have hbig:=hn.2.1
   unfold bigC at hbig
   have:=hw.1
   rw[F.f128,if_pos hi,List.getElem?_eq_getElem hi]
   simp only[Option.bind_eq_bind,Option.bind_some]
   have:=hd.some;have:=hd.few
   rw[if_pos hn.1,if_pos (by have:=hn.1;omega),if_neg (by omega),if_neg (by omega),if_neg (fun h=>hn.2.2 (bytes_eq.1 h)),if_neg (by rw[dec_not hd.new];simp),P.within]
   simp only[Option.bind_some]
   rw[if_pos (dec_of (by omega)),P.impl_world_l2 w hw _ i hi,if_pos (dec_of hd.ctors)]
   simp only[Option.bind_some]
   rw[if_pos (by omega),msIns,if_neg (by rw[dec_not hd.new];simp),take_map_succ hi,take_flatMap_succ hi])
  (fun i hi hq=>by
   show F.f128 w ((w.take i).flatMap cnames) ((w.take i).map (·.name)) i=_
   have:=hw.1
   rw[F.f128,if_pos hi,List.getElem?_eq_getElem hi]
   simp only[Option.bind_eq_bind,Option.bind_some]
   by_cases h1:w[i].name.size=1
   ·rw[if_pos h1,if_pos (by omega)]
    by_cases h2:byteAt w[i].name 0<65
    ·rw[if_pos h2]
    by_cases h3:90<byteAt w[i].name 0
    ·rw[if_neg h2,if_pos h3]
    by_cases h4:w[i].name.toList=(⟨#[73]⟩:ByteArray).toList
    ·rw[if_neg h2,if_neg h3,if_pos h4]
    by_cases h5:w[i].name∈(w.take i).map (·.name)
    ·rw[if_neg h2,if_neg h3,if_neg h4,if_pos (dec_of h5)]
    rw[if_neg h2,if_neg h3,if_neg h4,if_neg (by rw[dec_not h5];simp),P.within]
    simp only[Option.bind_some]
    by_cases h6:1≤(w[i].ctors.length:Int)∧(w[i].ctors.length:Int)≤4
    ·rw[if_pos (dec_of h6),P.impl_world_l2 w hw _ i hi,if_neg (by
      rw[dec_not fun hh=>hq fun _=>⟨⟨h1,⟨by omega,by omega⟩,fun e=>h4 (by rw[e])⟩,h5,by omega,by omega,hh⟩];simp)]
     rfl
    ·rw[if_neg (by rw[dec_not h6];simp)]
   ·rw[if_neg h1]) _ 0 rfl
 simpa using key
theorem P.impl_WorldValid (w:List Data)(hw:smallW w):F.f129 w=some (dec (worldOk w)):=by
 unfold F.f129
 by_cases h:4<w.length
 ·rw[if_pos h,dec_not fun hh=>by have:=hh.1;omega]
 rw[if_neg h,P.impl_world_l1 w hw]
 simp only[Option.bind_eq_bind,Option.bind_some]
 by_cases hall:∀i,0≤i→i<w.length→∀h:i<w.length,dataAt w i w[i]
 ·rw[if_pos (dec_of hall),dec_of ⟨by omega,hall⟩]
 ·rw[if_neg (by rw[dec_not hall];simp),dec_not fun hh=>hall hh.2]
theorem P.twice_l2 (w:List Data)(hw:smallW w)(d k i:Nat)(hd:d<w.length)(hk:k<w[d].ctors.length)(hi:i<d)(hl:w[d].ctors.length≤4)(hli:w[i].ctors.length≤4):F.f17 w d k i 0=
  some (if dec (∀j,0≤j→j<w[i].ctors.length→∀h:j<w[i].ctors.length,w[i].ctors[j].name≠w[d].ctors[k].name)=true then .go ()else .ret true):=by
 have hi':i<w.length:=by omega
 refine allN (n:=w[i].ctors.length) (r:=true) (Q:=fun j=>∀h:j<w[i].ctors.length,w[i].ctors[j].name≠w[d].ctors[k].name) (L:=F.f17 w d k i) (fun j hj=> ?_) (fun j hj hq=> ?_) (fun j hj hq=> ?_) _ 0 rfl
 ·rw[F.f17,List.getElem?_eq_getElem hi']
  simp only[Option.bind_eq_bind,Option.bind_some]
  rw[if_neg (by omega)]
 ·rw[F.f17,List.getElem?_eq_getElem hi']
  simp only[Option.bind_eq_bind,Option.bind_some]
  rw[if_pos hj,if_pos (by omega),at_lt hd]
  simp only[Option.bind_some]
  rw[if_pos (by omega),List.getElem?_eq_getElem hj,at_lt hk]
  simp only[Option.bind_some]
  rw[if_neg (fun h=>hq hj (bytes_eq.1 h)),if_pos (by omega)]
 ·rw[F.f17,List.getElem?_eq_getElem hi']
  simp only[Option.bind_eq_bind,Option.bind_some]
  rw[if_pos hj,if_pos (by omega),at_lt hd]
  simp only[Option.bind_some]
  rw[if_pos (by omega),List.getElem?_eq_getElem hj,at_lt hk]
  simp only[Option.bind_some]
  rw[if_pos (bytes_eq.2 (Classical.byContradiction fun h=>hq fun _=>h))]
theorem P.twice_l3 (w:List Data)(hw:smallW w)(d k:Nat)(hd:d<w.length)(hk:k<w[d].ctors.length)(hl:w[d].ctors.length≤4):F.f18 w d k d 0=
  some (if dec (∀j,0≤j→j<k→∀h:j<w[d].ctors.length,w[d].ctors[j].name≠w[d].ctors[k].name)=true then .go ()else .ret true):=by
 refine allN (n:=k) (r:=true) (Q:=fun j=>∀h:j<w[d].ctors.length,w[d].ctors[j].name≠w[d].ctors[k].name) (L:=F.f18 w d k d) (fun j hj=> ?_) (fun j hj hq=> ?_) (fun j hj hq=> ?_) _ 0 rfl
 ·rw[F.f18,List.getElem?_eq_getElem hd]
  simp only[Option.bind_eq_bind,Option.bind_some]
  rcases Nat.lt_or_ge j w[d].ctors.length with h|h
  ·rw[if_pos h,if_neg (by omega),if_neg (by omega)]
  ·rw[if_neg (by omega)]
 ·have hj':j<w[d].ctors.length:=Nat.lt_trans hj hk
  rw[F.f18,List.getElem?_eq_getElem hd]
  simp only[Option.bind_eq_bind,Option.bind_some]
  rw[if_pos hj',if_neg (by omega),if_pos (by omega),at_lt hd]
  simp only[Option.bind_some]
  rw[if_pos (by omega),List.getElem?_eq_getElem hj',at_lt hk]
  simp only[Option.bind_some]
  rw[if_neg (fun h=>hq hj' (bytes_eq.1 h)),if_pos (by omega)]
 ·have hj':j<w[d].ctors.length:=Nat.lt_trans hj hk
  rw[F.f18,List.getElem?_eq_getElem hd]
  simp only[Option.bind_eq_bind,Option.bind_some]
  rw[if_pos hj',if_neg (by omega),if_pos (by omega),at_lt hd]
  simp only[Option.bind_some]
  rw[if_pos (by omega),List.getElem?_eq_getElem hj',at_lt hk]
  simp only[Option.bind_some]
  rw[if_pos (bytes_eq.2 (Classical.byContradiction fun h=>hq fun _=>h))]
structure fresh (w:List Data)(d k i:Nat)(hd:d<w.length)(hk:k<w[d].ctors.length):Prop where
 data:i<d→∀h:i<w.length,w[i].name≠w[d].name
 ctor:i<d→∀h:i<w.length,∀j,0≤j→j<w[i].ctors.length→∀h:j<w[i].ctors.length,w[i].ctors[j].name≠w[d].ctors[k].name
 own:i=d→∀j,0≤j→j<k→∀h:j<w[d].ctors.length,w[d].ctors[j].name≠w[d].ctors[k].name
theorem P.spec_l1Twice (w:List Data)(hw:smallW w)(d k:Nat)(hd:d<w.length)(hk:k<w[d].ctors.length)(hw4:w.length≤4)(hl:∀i,i≤d→∀h:i<w.length,w[i].ctors.length≤4):F.f20 w d k=some (!dec (∀i,0≤i→i<d+1→fresh w d k i hd hk)):=by
 unfold F.f20
 have key:F.f19 w d k 0=some (if dec (∀i,0≤i→i<d+1→fresh w d k i hd hk)=true then .go ()else .ret true):=by
  refine allN (n:=d+1) (r:=true) (Q:=fun i=>fresh w d k i hd hk) (L:=F.f19 w d k) (fun i hi=> ?_) (fun i hi hq=> ?_) (fun i hi hq=> ?_) _ 0 rfl
  ·rw[F.f19,if_neg (by omega)]
  ·rw[F.f19,if_pos (by omega)]
   by_cases h:i<d
   ·have hi':i<w.length:=by omega
    rw[if_pos (by omega),List.getElem?_eq_getElem hi',at_lt hd]
    simp only[Option.bind_eq_bind,Option.bind_some]
    rw[if_neg (fun e=>hq.data h hi' (bytes_eq.1 e)),P.twice_l2 w hw d k i hd hk h (hl d (Nat.le_refl _) hd) (hl i (by omega) hi'),if_pos (dec_of (hq.ctor h hi'))]
    simp only[Option.bind_some]
    rw[if_pos (by omega)]
   ·obtain rfl:i=d:=by omega
    rw[if_neg (by omega),P.twice_l3 w hw i k hd hk (hl i (Nat.le_refl _) hd),if_pos (dec_of (hq.own rfl))]
    simp only[Option.bind_eq_bind,Option.bind_some]
    rw[if_pos (by omega)]
  ·rw[F.f19,if_pos (by omega)]
   by_cases h:i<d
   ·have hi':i<w.length:=by omega
    rw[if_pos (by omega),List.getElem?_eq_getElem hi',at_lt hd]
    simp only[Option.bind_eq_bind,Option.bind_some]
    by_cases hn:w[i].name=w[d].name
    ·rw[if_pos (bytes_eq.2 hn)]
    ·rw[if_neg (fun e=>hn (bytes_eq.1 e)),P.twice_l2 w hw d k i hd hk h (hl d (Nat.le_refl _) hd) (hl i (by omega) hi'),if_neg (by rw[dec_not fun hh=>hq ⟨fun _ _=>hn,fun _ _=>hh,fun e=>by omega⟩];simp)]
     rfl
   ·obtain rfl:i=d:=by omega
    rw[if_neg (by omega),P.twice_l3 w hw i k hd hk (hl i (Nat.le_refl _) hd),if_neg (by rw[dec_not fun hh=>hq ⟨fun e=>by omega,fun e=>by omega,fun _=>hh⟩];simp)]
    rfl
 rw[key]
 simp only[Option.bind_eq_bind,Option.bind_some]
 by_cases hall:∀i,0≤i→i<d+1→fresh w d k i hd hk
 ·rw[if_pos (dec_of hall),dec_of hall];rfl
 ·rw[if_neg (by rw[dec_not hall];simp),dec_not hall];rfl
theorem fresh_iff (w:List Data)(d k:Nat)(hd:d<w.length)(hk:k<w[d].ctors.length):(∀i,0≤i→i<d+1→fresh w d k i hd hk)↔w[d].name∉(w.take d).map (·.name)∧w[d].ctors[k].name∉(w.take d).flatMap cnames++(w[d].ctors.take k).map (·.name):=by
 constructor
 ·intro h
  refine⟨fun hm=> ?_,fun hm=> ?_⟩
  ·obtain⟨x,hx,e⟩:=List.mem_map.1 hm
   obtain⟨i,hi,rfl⟩:=List.mem_take_iff_getElem.1 hx
   exact(h i (by omega) (by omega)).data (by omega) (by omega) e
  ·rcases List.mem_append.1 hm with hm|hm
   ·obtain⟨x,hx,hc⟩:=List.mem_flatMap.1 hm
    obtain⟨i,hi,rfl⟩:=List.mem_take_iff_getElem.1 hx
    obtain⟨c,hc,e⟩:=List.mem_map.1 hc
    obtain⟨j,hj,rfl⟩:=List.getElem_of_mem hc
    exact(h i (by omega) (by omega)).ctor (by omega) (by omega) j (by omega) hj hj e
   ·obtain⟨c,hc,e⟩:=List.mem_map.1 hm
    obtain⟨j,hj,rfl⟩:=List.mem_take_iff_getElem.1 hc
    exact(h d (by omega) (by omega)).own rfl j (by omega) (by omega) (by omega) e
 ·rintro⟨h1,h2⟩ i _ hi
  refine⟨fun hid hiw e=>h1 (List.mem_map.2 ⟨w[i],List.mem_take_iff_getElem.2 ⟨i,by omega,rfl⟩,e⟩),fun hid hiw j _ hj hj' e=>h2 (List.mem_append_left _ (List.mem_flatMap.2 ⟨w[i],List.mem_take_iff_getElem.2 ⟨i,by omega,rfl⟩,List.mem_map.2 ⟨_,List.getElem_mem hj,e⟩⟩)),fun e j _ hj hj' e=>h2 (List.mem_append_right _ (List.mem_map.2 ⟨_,List.mem_take_iff_getElem.2 ⟨j,by omega,rfl⟩,e⟩))⟩
theorem P.spec_world_l2 (w:List Data)(hw:smallW w)(d:Nat)(hd:d<w.length)(hw4:w.length≤4)(hl:∀i,i≤d→∀h:i<w.length,w[i].ctors.length≤4):F.f21 w d 0=
  some (if dec (∀k,0≤k→k<w[d].ctors.length→∀h:k<w[d].ctors.length,w[d].name∉(w.take d).map (·.name)∧ctorAt w d w[d] k w[d].ctors[k])=true then .go ()else .ret false):=by
 have hl0:=hl d (Nat.le_refl _) hd
 refine allN (n:=w[d].ctors.length) (r:=false) (Q:=fun k=>∀h:k<w[d].ctors.length,w[d].name∉(w.take d).map (·.name)∧ctorAt w d w[d] k w[d].ctors[k]) (L:=F.f21 w d) (fun k hk=> ?_) (fun k hk hq=> ?_) (fun k hk hq=> ?_) _ 0 rfl
 ·rw[F.f21,List.getElem?_eq_getElem hd]
  simp only[Option.bind_eq_bind,Option.bind_some]
  rw[if_neg (by omega)]
 ·obtain⟨h1,h2⟩:=hq hk
  rw[F.f21,List.getElem?_eq_getElem hd]
  simp only[Option.bind_eq_bind,Option.bind_some]
  rw[if_pos hk,List.getElem?_eq_getElem hk]
  simp only[Option.bind_some]
  rw[P.spec_l1Ctor _ _ (hw.2 _ (List.getElem_mem hd) _ (List.getElem_mem hk))]
  simp only[Option.bind_some]
  rw[if_pos (dec_of h2.ok),P.spec_l1Twice w hw d k hd hk hw4 hl]
  simp only[Option.bind_some]
  rw[dec_of ((fresh_iff w d k hd hk).2 ⟨h1,h2.new⟩),if_neg (by simp),if_pos (by omega)]
 ·rw[F.f21,List.getElem?_eq_getElem hd]
  simp only[Option.bind_eq_bind,Option.bind_some]
  rw[if_pos hk,List.getElem?_eq_getElem hk]
  simp only[Option.bind_some]
  rw[P.spec_l1Ctor _ _ (hw.2 _ (List.getElem_mem hd) _ (List.getElem_mem hk))]
  simp only[Option.bind_some]
  by_cases h1:ctorOk w.length w[d].ctors[k]
  ·rw[if_pos (dec_of h1),P.spec_l1Twice w hw d k hd hk hw4 hl]
   simp only[Option.bind_some]
   rw[dec_not fun hh=>hq fun _=>⟨((fresh_iff w d k hd hk).1 hh).1,⟨h1,((fresh_iff w d k hd hk).1 hh).2⟩⟩,if_pos (by simp)]
  ·rw[if_neg (by rw[dec_not h1];simp)]
theorem P.spec_WorldValid (w:List Data)(hw:smallW w):F.f23 w=some (dec (worldOk w)):=by
 unfold F.f23
 by_cases h4:4<w.length
 ·rw[if_pos h4,dec_not fun hh=>by have:=hh.1;omega]
 rw[if_neg h4]
 -- the loop runs only on over types that are right
 have key:∀(m d:Nat),w.length-d=m→(∀i,i<d→∀h:i<w.length,w[i].ctors.length≤4)→F.f22 w d=some (if dec (∀i,d≤i→i<w.length→∀h:i<w.length,dataAt w i w[i])=true then .go ()else .ret false):=by
  intro m
  induction m with
  |zero=>
   intro d hm hl
   rw[F.f22,if_neg (by omega),if_pos (dec_of fun i h1 h2=>by omega)]
  |succ m ih=>
   intro d hm hl
   have hd:d<w.length:=by omega
   rw[F.f22,if_pos hd,List.getElem?_eq_getElem hd]
   simp only[Option.bind_eq_bind,Option.bind_some]
   rw[P.spec_l1Data]
   simp only[Option.bind_some]
   have no:¬dataAt w d w[d]→¬∀i,d≤i→i<w.length→∀h:i<w.length,dataAt w i w[i]:=fun h hh=>h (hh d (Nat.le_refl _) hd hd)
   by_cases h1:dataName w[d].name
   ·rw[if_pos (dec_of h1)]
    by_cases h2:w[d].ctors.length=0
    ·rw[if_pos h2,if_neg (by rw[dec_not (no fun h=>by have:=h.some;omega)];simp)]
    by_cases h3:4<w[d].ctors.length
    ·rw[if_neg h2,if_pos h3,if_neg (by rw[dec_not (no fun h=>by have:=h.few;omega)];simp)]
    have hl':∀i,i≤d→∀h:i<w.length,w[i].ctors.length≤4:=fun i hi h=>by
     by_cases e:i=d
     ·subst e;omega
     ·exact hl i (by omega) h
    rw[if_neg h2,if_neg h3,P.spec_world_l2 w hw d hd (by omega) hl']
    simp only[Option.bind_some]
    by_cases hq:∀k,0≤k→k<w[d].ctors.length→∀h:k<w[d].ctors.length,w[d].name∉(w.take d).map (·.name)∧ctorAt w d w[d] k w[d].ctors[k]
    ·have hda:dataAt w d w[d]:=⟨h1,(hq 0 (by omega) (by omega) (by omega)).1,by omega,by omega,fun k a b c=>(hq k a b c).2⟩
     rw[if_pos (dec_of hq)]
     simp only
     rw[if_pos (by omega),ih (d+1) (by omega) fun i hi h=>hl' i (by omega) h]
     by_cases hall:∀i,d+1≤i→i<w.length→∀h:i<w.length,dataAt w i w[i]
     ·rw[if_pos (dec_of hall),if_pos (dec_of fun i a b c=> ?_)]
      by_cases e:i=d
      ·subst e;exact hda
      ·exact hall i (by omega) b c
     ·rw[if_neg (by rw[dec_not hall];simp),if_neg (by rw[dec_not fun hh=>hall fun i a b c=>hh i (by omega) b c];simp)]
    ·rw[if_neg (by rw[dec_not hq];simp)]
     simp only
     rw[if_neg (by rw[dec_not (no fun h=>hq fun k a b c=>⟨h.new,h.ctors k a b c⟩)];simp)]
   ·rw[if_neg (by rw[dec_not h1];simp),if_neg (by rw[dec_not (no fun h=>h1 h.name)];simp)]
 rw[key _ 0 rfl fun i hi=>by omega]
 simp only[Option.bind_eq_bind,Option.bind_some]
 by_cases hall:∀i,0≤i→i<w.length→∀h:i<w.length,dataAt w i w[i]
 ·rw[if_pos (dec_of hall),dec_of ⟨by omega,hall⟩]
 ·rw[if_neg (by rw[dec_not hall];simp),dec_not fun hh=>hall hh.2]
def typeOk (w:List Data)(t:Ty):Prop:=argOk w.length t∧0≤t.index
theorem P.spec_l1Is (w:List Data)(t:Ty):F.f38 w t=some (dec (typeOk w t)):=by
 unfold F.f38
 rw[P.spec_l1Arg]
 simp only[Option.bind_eq_bind,Option.bind_some]
 by_cases h:argOk w.length t
 ·rw[if_pos (dec_of h),←dec_eq];congr 1;exact dec_congr ⟨fun h'=>⟨h,h'⟩,fun h'=>h'.2⟩
 ·rw[if_neg (by rw[dec_not h];simp),dec_not fun h'=>h h'.1]
theorem P.impl_typeOk (w:List Data)(t:Ty)(hw:w.length≤1048576):F.f130 w t=some (dec (typeOk w t)):=by
 unfold F.f130
 by_cases h:eq2 (t.data,t.index) (-1,0)
 ·rw[if_pos (dec_of h),dec_of ⟨.inl h,by have:=h.2;simp at this;omega⟩]
 rw[if_neg (by rw[dec_not h];simp),P.within,wrap_in (by omega) (by omega)]
 simp only[Option.bind_eq_bind,Option.bind_some]
 by_cases h1:0≤t.data∧t.data≤(w.length:Int) -1
 ·rw[if_pos (dec_of h1),P.within]
  simp only[Option.bind_some]
  congr 1;exact dec_congr ⟨fun h'=>⟨.inr ⟨h1.1,by omega,by omega,h'.2⟩,h'.1⟩,fun h'=>h'.1.elim (fun h'=>absurd h' h) (fun h2=>⟨h'.2,h2.2.2.2⟩)⟩
 ·rw[if_neg (by rw[dec_not h1];simp),dec_not fun h'=>h'.1.elim (fun h'=>h h') (fun h'=>h1 ⟨h'.1,by have:=h'.2.1;omega⟩)]
def typeValid (w:List Data)(t:Ty):Prop:=worldOk w∧typeOk w t
theorem P.spec_TypeValid (w:List Data)(t:Ty)(hw:smallW w):F.f39 w t=some (dec (typeValid w t)):=by
 unfold F.f39
 rw[P.spec_WorldValid w hw]
 simp only[Option.bind_eq_bind,Option.bind_some]
 by_cases h:worldOk w
 ·rw[if_pos (dec_of h),P.spec_l1Is]
  simp only[Option.bind_some]
  congr 1;exact dec_congr ⟨fun h'=>⟨h,h'⟩,fun h'=>h'.2⟩
 ·rw[if_neg (by rw[dec_not h];simp),dec_not fun h'=>h h'.1]
theorem P.impl_TypeValid (w:List Data)(t:Ty)(hw:smallW w):F.f131 w t=some (dec (typeValid w t)):=by
 unfold F.f131
 rw[P.impl_WorldValid w hw]
 simp only[Option.bind_eq_bind,Option.bind_some]
 by_cases h:worldOk w
 ·rw[if_pos (dec_of h),P.impl_typeOk w t hw.1]
  simp only[Option.bind_some]
  congr 1;exact dec_congr ⟨fun h'=>⟨h,h'⟩,fun h'=>h'.2⟩
 ·rw[if_neg (by rw[dec_not h];simp),dec_not fun h'=>h h'.1]
theorem smallW_of {w:List Data}(h:wtL Data.wt w≤1048576):smallW w:=by
 refine⟨by have:=wtL_len Data.wt w;omega,fun d hd c hc=> ?_⟩
 have h1:=wtL_mem Data.wt hd
 have h2:=wtL_mem Ctor.wt hc
 have e1:d.wt=d.name.size+wtL Ctor.wt d.ctors:=rfl
 have e2:c.wt=c.name.size+wtL Ty.wt c.args:=rfl
 omega
def tOk (w:List Data)(t:Ty):Prop:=t.data= -1∨(0≤t.data∧t.data<w.length)
theorem tOk_of {w:List Data}{t:Ty}(h:argOk w.length t):tOk w t:=h.elim (fun h=>.inl h.1) (fun h=>.inr ⟨h.1,h.2.1⟩)
def fitC (i:Int)(c:Ctor):Prop:=i=0∨c.index=0∨c.index=i
noncomputable def selC (i:Int):Nat→List Ctor→List Int
 |_,[]=>[]
 |k,c::r=>(if dec (fitC i c)=true then[(k:Int)]else[])++selC i (k+1) r
theorem selC_len (i:Int):∀(k:Nat) (l:List Ctor),(selC i k l).length≤l.length
 |_,[]=>by simp[selC]
 |k,c::r=>by
  have:=selC_len i (k+1) r
  unfold selC
  split<;>simp<;>omega
theorem selC_mem (i:Int){x:Int}:∀{k:Nat} {l:List Ctor},x∈selC i k l→(k:Int)≤x∧x<k+l.length
 |_,[],h=>by simp[selC]at h
 |k,c::r,h=>by
  unfold selC at h
  rcases List.mem_append.1 h with h|h
  ·split at h
   ·simp at h;subst h;simp;omega
   ·simp at h
  ·have:=selC_mem i h
   simp;omega
def dataOf (w:List Data)(t:Ty):Data:=w.getD t.data.toNat Data.z
noncomputable def ctorList (w:List Data)(t:Ty):List Int:=if t.data= -1 then[]else selC t.index 0 (dataOf w t).ctors
def ctorOf (w:List Data)(t:Ty)(c:Int):Ctor:=(dataOf w t).ctors.getD c.toNat Ctor.z
def argOf (t:Ty)(c:Ctor)(a:Ty):Ty:=if a.index= -1 then⟨a.data,if c.index=0 then t.index else c.index⟩else a
def argList (w:List Data)(t:Ty)(c:Int):List Ty:=(ctorOf w t c).args.map (argOf t (ctorOf w t c))
theorem at_data {w:List Data}{t:Ty}(h:tOk w t)(hn:t.data≠-1):at? w t.data=some (dataOf w t)∧dataOf w t∈w∧∃h:t.data.toNat<w.length,dataOf w t=w[t.data.toNat]:=by
 obtain⟨h1,h2⟩:=h.resolve_left hn
 have hlt:t.data.toNat<w.length:=by omega
 unfold at? dataOf
 rw[if_pos h1,List.getElem?_eq_getElem hlt,List.getD_eq_getElem?_getD,List.getElem?_eq_getElem hlt]
 exact⟨rfl,List.getElem_mem hlt,hlt,rfl⟩
theorem world_ctors {w:List Data}(hw:worldOk w){t:Ty}(h:tOk w t)(hn:t.data≠-1):(dataOf w t).ctors.length≤4∧∀c,c∈(dataOf w t).ctors→ctorOk w.length c:=by
 obtain⟨_,_,hlt,e⟩:=at_data h hn
 have hd:=hw.2 t.data.toNat (by omega) hlt hlt
 rw[e]
 refine⟨hd.few,fun c hc=> ?_⟩
 obtain⟨k,hk,rfl⟩:=List.getElem_of_mem hc
 exact(hd.ctors k (by omega) hk hk).ok
theorem P.spec_ctors_l1 (w:List Data)(hw:worldOk w)(t:Ty)(h:tOk w t)(hn:t.data≠-1):∀(m k:Nat) (out:List Int),(dataOf w t).ctors.length-k=m→out.length≤k→k≤(dataOf w t).ctors.length→
  F.f49 w t out k=some (out++selC t.index k ((dataOf w t).ctors.drop k)):=by
 have h4:=(world_ctors hw h hn).1
 intro m
 induction m with
 |zero=>
  intro k out hm ho hk
  rw[F.f49,(at_data h hn).1]
  simp only[Option.bind_eq_bind,Option.bind_some]
  rw[if_neg (by omega),List.drop_eq_nil_of_le (by omega)];simp[selC]
 |succ m ih=>
  intro k out hm ho hk
  have hlt:k<(dataOf w t).ctors.length:=by omega
  rw[F.f49,(at_data h hn).1]
  simp only[Option.bind_eq_bind,Option.bind_some]
  rw[if_pos hlt,List.getElem?_eq_getElem hlt,List.drop_eq_getElem_cons hlt]
  simp only[Option.bind_some,selC]
  have hf:F.f48 (dataOf w t).ctors[k] t.index=some (dec (fitC t.index (dataOf w t).ctors[k])):=by
   unfold F.f48
   by_cases h1:(dataOf w t).ctors[k].index=0
   ·rw[if_pos h1,dec_of (.inr (.inl h1))]
   ·by_cases h2:t.index=0
    ·rw[if_neg h1,if_pos h2,dec_of (.inl h2)]
    ·rw[if_neg h1,if_neg h2,←dec_eq];congr 1;exact dec_congr ⟨fun h=>.inr (.inr h),fun h=>h.elim (fun h=>absurd h h2) (fun h=>h.elim (fun h=>absurd h h1) id)⟩
  rw[hf]
  simp only[Option.bind_some]
  by_cases hfit:fitC t.index (dataOf w t).ctors[k]
  ·rw[if_pos (dec_of hfit),if_pos (by omega),if_pos (by omega),ih (k+1) _ (by omega) (by simp;omega) (by omega),if_pos (dec_of hfit)];simp
  ·rw[if_neg (by rw[dec_not hfit];simp),if_pos (by omega),ih (k+1) _ (by omega) (by omega) (by omega),if_neg (by rw[dec_not hfit];simp)];simp
theorem P.spec_l1Ctors (w:List Data)(hw:worldOk w)(t:Ty)(h:tOk w t):F.f50 w t=some (ctorList w t):=by
 unfold F.f50 ctorList
 by_cases hn:t.data= -1
 ·rw[if_pos hn,if_pos hn]
 ·rw[if_neg hn,if_neg hn,P.spec_ctors_l1 w hw t h hn _ 0 [] rfl (by simp) (by omega)];simp
theorem P.impl_ctors_l1 (w:List Data)(hw:worldOk w)(t:Ty)(h:tOk w t)(hn:t.data≠-1):∀(m k:Nat) (out:List Int),(dataOf w t).ctors.length-k=m→out.length≤k→k≤(dataOf w t).ctors.length→
  F.f134 t (dataOf w t) k out=some (out++selC t.index k ((dataOf w t).ctors.drop k)):=by
 have h4:=(world_ctors hw h hn).1
 intro m
 induction m with
 |zero=>
  intro k out hm ho hk
  rw[F.f134,if_neg (by omega),List.drop_eq_nil_of_le (by omega)];simp[selC]
 |succ m ih=>
  intro k out hm ho hk
  have hlt:k<(dataOf w t).ctors.length:=by omega
  rw[F.f134,if_pos hlt,List.getElem?_eq_getElem hlt,List.drop_eq_getElem_cons hlt]
  simp only[Option.bind_eq_bind,Option.bind_some,selC]
  have yes:fitC t.index (dataOf w t).ctors[k]→(if out.length+1≤67108864 then F.f134 t (dataOf w t) (k+1) (out++[(k:Int)])else none)=
    some (out++((if dec (fitC t.index (dataOf w t).ctors[k])=true then[(k:Int)]else[])++selC t.index (k+1) ((dataOf w t).ctors.drop (k+1)))):=by
   intro hfit
   rw[if_pos (by omega),ih (k+1) _ (by omega) (by simp;omega) (by omega),if_pos (dec_of hfit)];simp
  by_cases h1:t.index=0
  ·rw[if_pos h1];exact yes (.inl h1)
  by_cases h2:(dataOf w t).ctors[k].index=0
  ·rw[if_neg h1,if_pos h2];exact yes (.inr (.inl h2))
  by_cases h3:(dataOf w t).ctors[k].index=t.index
  ·rw[if_neg h1,if_neg h2,if_pos h3];exact yes (.inr (.inr h3))
  ·have hfit:¬fitC t.index (dataOf w t).ctors[k]:=fun h=>h.elim h1 (fun h=>h.elim h2 h3)
   rw[if_neg h1,if_neg h2,if_neg h3,ih (k+1) _ (by omega) (by omega) (by omega),if_neg (by rw[dec_not hfit];simp)];simp
theorem P.impl_ctorsOf (w:List Data)(hw:worldOk w)(t:Ty)(h:tOk w t):F.f135 w t=some (ctorList w t):=by
 unfold F.f135 ctorList
 by_cases hn:t.data= -1
 ·rw[if_pos hn,if_pos hn]
 ·rw[if_neg hn,if_neg hn,(at_data h hn).1]
  simp only[Option.bind_eq_bind,Option.bind_some]
  rw[P.impl_ctors_l1 w hw t h hn _ 0 [] rfl (by simp) (by omega)];simp
theorem ctorList_mem {w:List Data}{t:Ty}{c:Int}(h:c∈ctorList w t):t.data≠-1∧0≤c∧c<(dataOf w t).ctors.length:=by
 unfold ctorList at h
 split at h
 ·cases h
 ·next hn=>
  have:=selC_mem t.index h
  exact⟨hn,by omega,by omega⟩
theorem at_ctor {w:List Data}{t:Ty}{c:Int}(h:c∈ctorList w t):at? (dataOf w t).ctors c=some (ctorOf w t c)∧ctorOf w t c∈(dataOf w t).ctors:=by
 obtain⟨_,h1,h2⟩:=ctorList_mem h
 have hlt:c.toNat<(dataOf w t).ctors.length:=by omega
 unfold at? ctorOf
 rw[if_pos h1,List.getElem?_eq_getElem hlt,List.getD_eq_getElem?_getD,List.getElem?_eq_getElem hlt]
 exact⟨rfl,List.getElem_mem hlt⟩
theorem arg_tOk {w:List Data}(hw:worldOk w){t:Ty}(ht:tOk w t){c:Int}(h:c∈ctorList w t):(argList w t c).length≤3∧∀a,a∈argList w t c→tOk w a:=by
 have hc:=(world_ctors hw ht (ctorList_mem h).1).2 _ (at_ctor h).2
 refine⟨by unfold argList;rw[List.length_map];exact hc.2.1,fun a ha=> ?_⟩
 obtain⟨b,hb,rfl⟩:=List.mem_map.1 ha
 obtain⟨j,hj,rfl⟩:=List.getElem_of_mem hb
 have:=tOk_of (hc.2.2.2.2 j (by omega) hj)
 unfold argOf
 split
 ·exact this
 ·exact this
theorem P.spec_l1Args (w:List Data)(hw:worldOk w)(t:Ty)(ht:tOk w t)(c:Int)(h:c∈ctorList w t):F.f44 w t c=some (argList w t c):=by
 have hc:=(world_ctors hw ht (ctorList_mem h).1).2 _ (at_ctor h).2
 unfold F.f44
 rw[(at_data ht (ctorList_mem h).1).1]
 simp only[Option.bind_eq_bind,Option.bind_some]
 rw[(at_ctor h).1]
 simp only[Option.bind_some]
 rw[appLoop (L:=F.f43 t (ctorOf w t c)) (a:=(ctorOf w t c).args) (g:=argOf t (ctorOf w t c)) (f:=fun a=>some (argOf t (ctorOf w t c) a)) (fun out i=> ?_) (fun _ _=>rfl) _ 0 [] rfl (by have:=hc.2.1;simp;omega)]
 ·simp[argList]
 ·rw[F.f43]
  split
  ·cases(ctorOf w t c).args[i]? with
   |none=>rfl
   |some a=>
    simp only[Option.bind_eq_bind,Option.bind_some,F.f42,argOf]
    split
    ·split<;>simp
    ·simp
  ·rfl
theorem P.impl_argTypes (w:List Data)(hw:worldOk w)(t:Ty)(ht:tOk w t)(c:Int)(h:c∈ctorList w t):F.f141 w t c=some (argList w t c):=by
 have hc:=(world_ctors hw ht (ctorList_mem h).1).2 _ (at_ctor h).2
 unfold F.f141
 rw[(at_data ht (ctorList_mem h).1).1]
 simp only[Option.bind_eq_bind,Option.bind_some]
 rw[(at_ctor h).1]
 simp only[Option.bind_some]
 by_cases h0:(ctorOf w t c).index=0
 ·rw[if_pos h0,appLoop (L:=fun out i=>F.f139 t (ctorOf w t c) i out) (a:=(ctorOf w t c).args) (g:=argOf t (ctorOf w t c)) (f:=fun a=>some (argOf t (ctorOf w t c) a)) (fun out i=> ?_) (fun _ _=>rfl) _ 0 [] rfl (by have:=hc.2.1;simp;omega)]
  ·simp[argList]
  ·show F.f139 t (ctorOf w t c) i out=_
   rw[F.f139]
   split
   ·cases(ctorOf w t c).args[i]? with
    |none=>rfl
    |some a=>
     simp only[Option.bind_eq_bind,Option.bind_some,argOf]
     split
     ·first|rfl|rw[if_pos h0]
     ·rfl
   ·rfl
 ·rw[if_neg h0,appLoop (L:=fun out i=>F.f140 (ctorOf w t c) i out) (a:=(ctorOf w t c).args) (g:=argOf t (ctorOf w t c)) (f:=fun a=>some (argOf t (ctorOf w t c) a)) (fun out i=> ?_) (fun _ _=>rfl) _ 0 [] rfl (by have:=hc.2.1;simp;omega)]
  ·simp[argList]
  ·show F.f140 (ctorOf w t c) i out=_
   rw[F.f140]
   split
   ·cases(ctorOf w t c).args[i]? with
    |none=>rfl
    |some a=>
     simp only[Option.bind_eq_bind,Option.bind_some,argOf]
     split
     ·first|rfl|rw[if_neg h0]
     ·rfl
   ·rfl
theorem P.spec_l1Has (l:List Int)(n:Int):F.f57 l n=some (dec (n∈l)):=by
 unfold F.f57
 rw[allN (n:=l.length) (r:=true) (Q:=fun j=>∀h:j<l.length,l[j]≠n) (L:=F.f56 l n) (fun k hk=>by rw[F.f56,if_neg (by omega)])
  (fun k hk hq=>by
   rw[F.f56,if_pos hk,List.getElem?_eq_getElem hk]
   simp only[Option.bind_eq_bind,Option.bind_some]
   rw[if_neg (hq hk)])
  (fun k hk hq=>by
   rw[F.f56,if_pos hk,List.getElem?_eq_getElem hk]
   simp only[Option.bind_eq_bind,Option.bind_some]
   rw[if_pos (Classical.byContradiction fun h=>hq fun _=>h)]) _ 0 rfl]
 simp only[Option.bind_eq_bind,Option.bind_some]
 by_cases hm:n∈l
 ·obtain⟨j,hj,e⟩:=List.getElem_of_mem hm
  rw[if_neg (by rw[dec_not fun hh=>hh j (by omega) hj hj e];simp),dec_of hm]
 ·rw[if_pos (dec_of fun j _ hj h e=>hm (by rw[←e];exact List.getElem_mem h)),dec_not hm]
theorem P.slices_Contains_int (l:List Int)(n:Int):F.f138 l n=some (dec (n∈l)):=by
 unfold F.f138 F.f137
 have key:∀(m k:Nat),l.length-k=m→∃r,F.f136 l n k=some r∧match r with| .ret j=>0≤j∧n∈l| .go _=>∀j,k≤j→∀h:j<l.length,l[j]≠n:=by
  intro m
  induction m with
  |zero=>intro k hm;rw[F.f136,if_neg (by omega)];exact⟨_,rfl,fun j h1 h2=>by omega⟩
  |succ m ih=>
   intro k hm
   have hk:k<l.length:=by omega
   rw[F.f136,if_pos hk,List.getElem?_eq_getElem hk]
   simp only[Option.bind_eq_bind,Option.bind_some]
   by_cases h:n=l[k]
   ·rw[if_pos h];exact⟨_,rfl,by omega,h▸List.getElem_mem hk⟩
   ·rw[if_neg h]
    obtain⟨r,hr,hx⟩:=ih (k+1) (by omega)
    refine⟨r,hr,?_⟩
    cases r with
    |ret j=>exact hx
    |go _=>
     intro j hj hl
     by_cases e:k=j
     ·subst e;exact fun e=>h e.symm
     ·exact hx j (by omega) hl
 obtain⟨r,hr,hx⟩:=key _ 0 rfl
 rw[hr]
 cases r with
 |ret j=>
  simp only[Option.bind_eq_bind,Option.bind_some]
  rw[dec_of hx.2];simp[hx.1]
 |go _=>
  simp only[Option.bind_eq_bind,Option.bind_some]
  rw[dec_not fun hm=>by obtain⟨j,hj,e⟩:=List.getElem_of_mem hm;exact hx j (by omega) hj e];simp
def pv (w:List Data)(holes:Bool):Nat→Ty→Value→Prop
 |0,_,_=>False
 |d+1,t,v=>(holes=true∧v.ctor= -2∧v.n=0∧v.kids.length=0)∨(¬(holes=true∧v.ctor= -2)∧
   ((t.data= -1∧v.ctor= -1∧0≤v.n∧v.n≤9∧v.kids.length=0)∨
   (t.data≠-1∧v.n=0∧v.ctor∈ctorList w t∧v.kids.length=(argList w t v.ctor).length∧
    ∀i,0≤i→i<(argList w t v.ctor).length→∀(h:i<(argList w t v.ctor).length) (h':i<v.kids.length),pv w holes d (argList w t v.ctor)[i] v.kids[i])))
theorem wt_kids (v:Value):v.wt=((v.kids.drop 0).map fun k=>1+k.wt).sum:=by
 rw[List.drop_zero,v.wt_eq]
 have:∀l:List Value,(l.map fun k=>1+k.wt).sum=wtL Value.wt l:=by
  intro l
  induction l with
  |nil=>rfl
  |cons a r ih=>simp[ih]
 exact(this _).symm
def rok (K:Nat)(r:T_spec_l17Rd):Prop:=r.f0.length≤2000∧(∀x,x∈r.f0→0≤x∧x≤255)∧0≤r.f1∧r.f1≤(K:Int)
theorem rok.mono {K L:Nat}{r:T_spec_l17Rd}(h:rok K r)(hl:K≤L):rok L r:=⟨h.1,h.2.1,h.2.2.1,by have:=h.2.2.2;omega⟩
theorem xor_pos {a b:Int}(ha:0≤a)(hb:0≤b)(ha':a<4611686018427387904)(hb':b<4611686018427387904):0≤xorI .i64 a b:=by
 unfold xorI
 obtain⟨m,rfl⟩:=Int.eq_ofNat_of_zero_le ha
 obtain⟨n,rfl⟩:=Int.eq_ofNat_of_zero_le hb
 have hm:m<2^62:=by omega
 have hn:n<2^62:=by omega
 have h:(BitVec.ofInt IntKind.i64.bits (m:Int)^^^BitVec.ofInt IntKind.i64.bits (n:Int)).toNat<2^62:=by
  rw[BitVec.toNat_xor]
  refine Nat.xor_lt_two_pow ?_ ?_
  ·show(BitVec.ofInt 64 (m:Int)).toNat<2^62
   rw[BitVec.toNat_ofInt];omega
  ·show(BitVec.ofInt 64 (n:Int)).toNat<2^62
   rw[BitVec.toNat_ofInt];omega
 rw[wrap_in (by omega) (by omega)]
 exact Int.natCast_nonneg _
theorem at_mem {α:Type}{xs:List α}{i:Int}(h0:0≤i)(h1:i<xs.length):∃x,at? xs i=some x∧x∈xs:=by
 have hi:i.toNat<xs.length:=by omega
 refine⟨xs[i.toNat],?_,List.getElem_mem hi⟩
 unfold at?
 rw[if_pos h0,List.getElem?_eq_getElem hi]
theorem P.pick {K:Nat}{r:T_spec_l17Rd}(h:rok K r)(hK:K≤1099511627776)(n:Int):∃v r',F.f0 r n=some (v,r')∧rok (K+1) r'∧0≤v∧(1≤n→v<n)∧(n<1→v=0):=by
 obtain⟨h1,h2,h3,h4⟩:=h
 unfold F.f0
 have e1:IntKind.i64.wrap (r.f1+1)=r.f1+1:=wrap_in (by omega) (by omega)
 have e2:IntKind.i64.wrap (r.f1+1-1)=r.f1:=by rw[wrap_in (by omega) (by omega)];omega
 have hr':rok (K+1) ⟨r.f0,r.f1+1⟩:=⟨h1,h2,by show 0≤r.f1+1;omega,by show r.f1+1≤((K+1:Nat):Int);omega⟩
 rw[e1,e2]
 by_cases hn:n<1
 ·rw[if_pos hn];exact⟨0,_,rfl,hr',by omega,by omega,fun _=>rfl⟩
 rw[if_neg hn]
 by_cases hl:r.f0.length=0
 ·rw[if_pos hl];exact⟨0,_,rfl,hr',by omega,by omega,fun _=>rfl⟩
 rw[if_neg hl]
 have tm:∀x:Int,0≤x→0≤x.tmod n∧x.tmod n<n:=fun x hx=>⟨Int.tmod_nonneg n hx,Int.tmod_lt_of_pos x (by omega)⟩
 have tl:∀x:Int,0≤x→0≤x.tmod (r.f0.length:Int)∧x.tmod (r.f0.length:Int)<r.f0.length:=fun x hx=>⟨Int.tmod_nonneg _ hx,Int.tmod_lt_of_pos x (by omega)⟩
 by_cases hk:r.f1<(r.f0.length:Int)
 ·rw[if_pos hk]
  obtain⟨x,hx,hm⟩:=at_mem h3 hk
  have hb:=h2 x hm
  rw[hx]
  simp only[Option.bind_eq_bind,Option.bind_some]
  rw[if_pos (by omega),wrap_in (by omega) (by omega)]
  have:=tm x hb.1
  exact⟨_,_,rfl,hr',this.1,fun _=>this.2,fun h=>by omega⟩
 ·rw[if_neg hk,if_pos (by omega)]
  have e7:IntKind.i64.wrap (r.f1*7)=r.f1*7:=wrap_in (by omega) (by omega)
  have e73:IntKind.i64.wrap (r.f1*7+3)=r.f1*7+3:=wrap_in (by omega) (by omega)
  rw[e7,e73]
  have t1:=tl r.f1 h3
  have t2:=tl (r.f1*7+3) (by omega)
  obtain⟨x,hx,hm⟩:=at_mem t1.1 t1.2
  obtain⟨y,hy,hm'⟩:=at_mem t2.1 t2.2
  have hb:=h2 x hm
  have hb':=h2 y hm'
  have hq0:0≤r.f1.tdiv (r.f0.length:Int):=Int.tdiv_nonneg h3 (by omega)
  have hq1:r.f1.tdiv (r.f0.length:Int)≤r.f1:=Int.tdiv_le_self _ h3
  rw[hx,hy]
  simp only[Option.bind_eq_bind,Option.bind_some]
  rw[if_pos (by omega)]
  generalize r.f1.tdiv (r.f0.length:Int)=q at hq0 hq1 ⊢
  rw[wrap_in (n:=x) (by omega) (by omega),wrap_in (n:=y) (by omega) (by omega),wrap_in (n:=q) (by omega) (by omega),wrap_in (n:=x*131) (by omega) (by omega),wrap_in (n:=y*1117) (by omega) (by omega),
   wrap_in (n:=r.f1*29) (by omega) (by omega),wrap_in (n:=q*53) (by omega) (by omega),wrap_in (n:=x*131+y*1117) (by omega) (by omega),wrap_in (n:=x*131+y*1117+r.f1*29) (by omega) (by omega),
   wrap_in (n:=x*131+y*1117+r.f1*29+q*53) (by omega) (by omega)]
  have hz0:0≤x*131+y*1117+r.f1*29+q*53:=by omega
  have hz1:x*131+y*1117+r.f1*29+q*53<4611686018427387904:=by omega
  generalize x*131+y*1117+r.f1*29+q*53=z at hz0 hz1 ⊢
  have hd0:0≤z.tdiv 64:=Int.tdiv_nonneg hz0 (by omega)
  have hd1:z.tdiv 64≤z:=Int.tdiv_le_self _ hz0
  rw[wrap_in (n:=z.tdiv 64) (by omega) (by omega)]
  have:=tm _ (xor_pos hz0 hd0 hz1 (by omega))
  exact⟨_,_,rfl,hr',this.1,fun _=>this.2,fun h=>by omega⟩
theorem P.num {K:Nat}{r:T_spec_l17Rd}(h:rok K r)(hK:K≤1099511627776)(l:List Int)(hl:l≠[]):∃v r',F.f100 r l=some (v,r')∧rok (K+1) r'∧v∈l:=by
 unfold F.f100
 obtain⟨v,r',e,h1,h2,h3,_⟩:=P.pick h hK (l.length:Int)
 have:0<l.length:=List.length_pos_iff.2 hl
 obtain⟨x,hx,hm⟩:=at_mem h2 (h3 (by omega))
 rw[e]
 simp only[Option.bind_eq_bind,Option.bind_some]
 rw[hx]
 exact⟨x,r',rfl,h1,hm⟩
def W0 :List Data:=[⟨⟨#[76]⟩,[⟨⟨#[78,105,108]⟩,[],0⟩,⟨⟨#[67,111,110,115]⟩,[⟨-1,0⟩,⟨0,0⟩],0⟩]⟩]
theorem W0_parse :F.f37 ⟨#[76,61,78,105,108,124,67,111,110,115,40,73,44,76,41]⟩=some (W0,true):=E.f37_le 100 _ _ (by kernel_rfl)
theorem W0_table :F.f99 W0=some [1,1,1,1]:=E.f99_le 100 _ _ (by kernel_rfl)
def W1 :List Data:=[⟨⟨#[66]⟩,[⟨⟨#[84,114,117]⟩,[],0⟩,⟨⟨#[70,108,115]⟩,[],0⟩]⟩,⟨⟨#[84]⟩,[⟨⟨#[76,101,97,102]⟩,[],0⟩,⟨⟨#[78,111,100,101]⟩,[⟨1,0⟩,⟨0,0⟩,⟨1,0⟩],0⟩]⟩]
theorem W1_parse :F.f37 ⟨#[66,61,84,114,117,124,70,108,115,59,84,61,76,101,97,102,124,78,111,100,101,40,84,44,66,44,84,41]⟩=some (W1,true):=E.f37_le 100 _ _ (by kernel_rfl)
theorem W1_table :F.f99 W1=some [1,1,1,1,1,1,1,1]:=E.f99_le 100 _ _ (by kernel_rfl)
def W2 :List Data:=[⟨⟨#[69]⟩,[⟨⟨#[78,117,109]⟩,[⟨-1,0⟩],1⟩,⟨⟨#[66,111,108]⟩,[⟨1,0⟩],2⟩,⟨⟨#[65,100,100]⟩,[⟨0,1⟩,⟨0,1⟩],1⟩,⟨⟨#[73,102]⟩,[⟨0,2⟩,⟨0,-1⟩,⟨0,-1⟩],0⟩]⟩,⟨⟨#[66]⟩,[⟨⟨#[84,114,117]⟩,[],0⟩,⟨⟨#[70,108,115]⟩,[],0⟩]⟩]
theorem W2_parse :F.f37 ⟨#[69,61,78,117,109,40,73,41,58,49,124,66,111,108,40,66,41,58,50,124,65,100,100,40,69,49,44,69,49,41,58,49,124,73,102,40,69,50,44,69,42,44,69,42,41,59,66,61,84,114,117,124,70,108,115]⟩=some (W2,true):=E.f37_le 100 _ _ (by kernel_rfl)
theorem W2_table :F.f99 W2=some [2,2,2,0,1,1,1,1]:=E.f99_le 100 _ _ (by kernel_rfl)
def W3 :List Data:=[⟨⟨#[79]⟩,[⟨⟨#[78,111,110]⟩,[],0⟩,⟨⟨#[83,111,109]⟩,[⟨-1,0⟩],0⟩]⟩,⟨⟨#[80]⟩,[⟨⟨#[80,97,105,114]⟩,[⟨0,0⟩,⟨0,0⟩],0⟩]⟩]
theorem W3_parse :F.f37 ⟨#[79,61,78,111,110,124,83,111,109,40,73,41,59,80,61,80,97,105,114,40,79,44,79,41]⟩=some (W3,true):=E.f37_le 100 _ _ (by kernel_rfl)
theorem W3_table :F.f99 W3=some [1,1,1,1,2,2,2,2]:=E.f99_le 100 _ _ (by kernel_rfl)
def W4 :List Data:=[⟨⟨#[86]⟩,[⟨⟨#[69,110,100]⟩,[],1⟩,⟨⟨#[83,111,109,101]⟩,[⟨-1,0⟩,⟨0,1⟩],2⟩,⟨⟨#[84,119,111]⟩,[⟨0,-1⟩],0⟩]⟩]
theorem W4_parse :F.f37 ⟨#[86,61,69,110,100,58,49,124,83,111,109,101,40,73,44,86,49,41,58,50,124,84,119,111,40,86,42,41]⟩=some (W4,true):=E.f37_le 100 _ _ (by kernel_rfl)
theorem W4_table :F.f99 W4=some [1,1,2,0]:=E.f99_le 100 _ _ (by kernel_rfl)
def W5 :List Data:=[⟨⟨#[78]⟩,[⟨⟨#[78,101,118,101,114]⟩,[⟨0,0⟩],0⟩]⟩,⟨⟨#[66]⟩,[⟨⟨#[84,114,117]⟩,[],0⟩,⟨⟨#[70,108,115]⟩,[],0⟩,⟨⟨#[77,97,121]⟩,[⟨0,0⟩],0⟩]⟩]
theorem W5_parse :F.f37 ⟨#[78,61,78,101,118,101,114,40,78,41,59,66,61,84,114,117,124,70,108,115,124,77,97,121,40,78,41]⟩=some (W5,true):=E.f37_le 100 _ _ (by kernel_rfl)
theorem W5_table :F.f99 W5=some [0,0,0,0,1,1,1,1]:=E.f99_le 100 _ _ (by kernel_rfl)
def W6 :List Data:=[⟨⟨#[83]⟩,[⟨⟨#[82,101,100]⟩,[],0⟩,⟨⟨#[71,114,101,101,110]⟩,[],0⟩,⟨⟨#[66,108,117,101]⟩,[],0⟩,⟨⟨#[77,105,120]⟩,[⟨0,0⟩,⟨0,0⟩],0⟩]⟩]
theorem W6_parse :F.f37 ⟨#[83,61,82,101,100,124,71,114,101,101,110,124,66,108,117,101,124,77,105,120,40,83,44,83,41]⟩=some (W6,true):=E.f37_le 100 _ _ (by kernel_rfl)
theorem W6_table :F.f99 W6=some [1,1,1,1]:=E.f99_le 100 _ _ (by kernel_rfl)
def texts :List ByteArray:=[⟨#[76,61,78,105,108,124,67,111,110,115,40,73,44,76,41]⟩,⟨#[66,61,84,114,117,124,70,108,115,59,84,61,76,101,97,102,124,78,111,100,101,40,84,44,66,44,84,41]⟩,⟨#[69,61,78,117,109,40,73,41,58,49,124,66,111,108,40,66,41,58,50,124,65,100,100,40,69,49,44,69,49,41,58,49,124,73,102,40,69,50,44,69,42,44,69,42,41,59,66,61,84,114,117,124,70,108,115]⟩,⟨#[79,61,78,111,110,124,83,111,109,40,73,41,59,80,61,80,97,105,114,40,79,44,79,41]⟩,⟨#[86,61,69,110,100,58,49,124,83,111,109,101,40,73,44,86,49,41,58,50,124,84,119,111,40,86,42,41]⟩,⟨#[78,61,78,101,118,101,114,40,78,41,59,66,61,84,114,117,124,70,108,115,124,77,97,121,40,78,41]⟩,⟨#[83,61,82,101,100,124,71,114,101,101,110,124,66,108,117,101,124,77,105,120,40,83,44,83,41]⟩,ByteArray.empty]
theorem P.l1Texts :F.f90=some texts:=rfl
def worlds :List (List Data):=[W0,W1,W2,W3,W4,W5,W6]
theorem P.l1World {K:Nat}{r:T_spec_l17Rd}(h:rok K r)(hK:K≤1099511627776):∃w r',F.f91 r=some (w,r')∧rok (K+1) r'∧w∈worlds:=by
 unfold F.f91
 rw[P.l1Texts]
 simp only[Option.bind_eq_bind,Option.bind_some]
 obtain⟨v,r',e,h1,h2,h3,_⟩:=P.pick h hK 7
 have e7:IntKind.i64.wrap (((8:Nat):Int) -1)=7:=by rw[wrap_in (by omega) (by omega)];rfl
 have e8:texts.length=8:=rfl
 rw[e8,e7,e]
 simp only[Option.bind_some]
 have h3:=h3 (by omega)
 have hv:v=0∨v=1∨v=2∨v=3∨v=4∨v=5∨v=6:=by omega
 rcases hv with rfl|rfl|rfl|rfl|rfl|rfl|rfl
 ·have:at? texts 0=some (⟨#[76,61,78,105,108,124,67,111,110,115,40,73,44,76,41]⟩:ByteArray):=rfl
  rw[this];simp only[Option.bind_some]
  rw[W0_parse]
  exact⟨W0,r',rfl,h1,by simp[worlds]⟩
 ·have:at? texts 1=some (⟨#[66,61,84,114,117,124,70,108,115,59,84,61,76,101,97,102,124,78,111,100,101,40,84,44,66,44,84,41]⟩:ByteArray):=rfl
  rw[this];simp only[Option.bind_some]
  rw[W1_parse]
  exact⟨W1,r',rfl,h1,by simp[worlds]⟩
 ·have:at? texts 2=some (⟨#[69,61,78,117,109,40,73,41,58,49,124,66,111,108,40,66,41,58,50,124,65,100,100,40,69,49,44,69,49,41,58,49,124,73,102,40,69,50,44,69,42,44,69,42,41,59,66,61,84,114,117,124,70,108,115]⟩:ByteArray):=rfl
  rw[this];simp only[Option.bind_some]
  rw[W2_parse]
  exact⟨W2,r',rfl,h1,by simp[worlds]⟩
 ·have:at? texts 3=some (⟨#[79,61,78,111,110,124,83,111,109,40,73,41,59,80,61,80,97,105,114,40,79,44,79,41]⟩:ByteArray):=rfl
  rw[this];simp only[Option.bind_some]
  rw[W3_parse]
  exact⟨W3,r',rfl,h1,by simp[worlds]⟩
 ·have:at? texts 4=some (⟨#[86,61,69,110,100,58,49,124,83,111,109,101,40,73,44,86,49,41,58,50,124,84,119,111,40,86,42,41]⟩:ByteArray):=rfl
  rw[this];simp only[Option.bind_some]
  rw[W4_parse]
  exact⟨W4,r',rfl,h1,by simp[worlds]⟩
 ·have:at? texts 5=some (⟨#[78,61,78,101,118,101,114,40,78,41,59,66,61,84,114,117,124,70,108,115,124,77,97,121,40,78,41]⟩:ByteArray):=rfl
  rw[this];simp only[Option.bind_some]
  rw[W5_parse]
  exact⟨W5,r',rfl,h1,by simp[worlds]⟩
 ·have:at? texts 6=some (⟨#[83,61,82,101,100,124,71,114,101,101,110,124,66,108,117,101,124,77,105,120,40,83,44,83,41]⟩:ByteArray):=rfl
  rw[this];simp only[Option.bind_some]
  rw[W6_parse]
  exact⟨W6,r',rfl,h1,by simp[worlds]⟩
def bytesOk (code:List Int):Prop:=code.length≤maxLen∧∀x,x∈code→0≤x∧x≤255
theorem rok_open {code:List Int}(h:bytesOk code)(hl:code.length≤2000):rok 0 ⟨code,0⟩:=⟨hl,h.2,Int.le_refl 0,Int.le_refl 0⟩
theorem rok_cut {code:List Int}(h:bytesOk code):rok 0 ⟨(code.drop 0).take (2000-0),0⟩:=⟨by simp;omega,fun x hx=>h.2 x (List.mem_of_mem_drop (List.mem_of_mem_take hx)),Int.le_refl 0,Int.le_refl 0⟩
theorem worlds_small {w:List Data}(h:w∈worlds):smallW w:=by
 simp only[worlds,List.mem_cons,List.not_mem_nil,or_false]at h
 rcases h with rfl|rfl|rfl|rfl|rfl|rfl|rfl<;>exact smallW_of (by decide)
def tIx (w:List Data)(t:Ty):Prop:=t.data= -1∨(0≤t.data∧t.data<w.length∧0≤t.index∧t.index≤3)
theorem tIx.tOk {w:List Data}{t:Ty}(h:tIx w t):tOk w t:=h.imp id fun h=>⟨h.1,h.2.1⟩
def depP (T:List Int)(t:Ty):Int:=if t.data= -1 then 1 else T.getD (t.data*4+t.index).toNat 0
def mostG (T:List Int):Int→List Ty→Int
 |m,[]=>m+1
 |m,a::r=>if depP T a=0 then 0 else mostG T (if m<depP T a then depP T a else m) r
def mostP (w:List Data)(T:List Int)(t:Ty)(c:Int):Int:=mostG T 0 (argList w t c)
def fitB (i:Int)(c:Ctor):Bool:=decide (i=0)||decide (c.index=0)||decide (c.index=i)
def tabOk (w:List Data)(T:List Int):Bool:=decide (T.length=w.length*4)&& T.all (fun x=>decide (0≤x)&& decide (x≤2))&&
 (List.range w.length).all fun d=>(List.range 4).all fun i=>decide (T.getD (d*4+i) 0=0)||
  (List.range (w.getD d Data.z).ctors.length).any fun k=>fitB i ((w.getD d Data.z).ctors.getD k Ctor.z)&& decide (mostP w T ⟨d,i⟩ k=T.getD (d*4+i) 0)
theorem fitB_iff {i:Int}{c:Ctor}(h:fitB i c=true):fitC i c:=by
 simp only[fitB,Bool.or_eq_true,decide_eq_true_eq]at h
 rcases h with(h|h)|h
 ·exact .inl h
 ·exact .inr (.inl h)
 ·exact .inr (.inr h)
theorem selC_of {i:Int}:∀{k:Nat} {l:List Ctor} {j:Nat} (hj:j<l.length),fitC i l[j]→((k+j:Nat):Int)∈selC i k l
 |k,c::r,0,hj,h=>by simp only[selC];rw[if_pos (dec_of (show fitC i c from h))];exact List.mem_append_left _ (by simp)
 |k,c::r,j+1,hj,h=>by
  simp only[selC]
  refine List.mem_append_right _ ?_
  have:=selC_of (k:=k+1) (l:=r) (j:=j) (by simpa using hj) h
  have e:k+1+j=k+(j+1):=by omega
  rwa[e]at this
structure TOk (w:List Data)(T:List Int):Prop where
 wok:worldOk w
 len:T.length=w.length*4
 rng:∀k,0≤T.getD k 0∧T.getD k 0≤2
 has:∀t,tIx w t→t.data≠-1→depP T t≠0→∃c,c∈ctorList w t∧mostP w T t c=depP T t
theorem TOk.of {w:List Data}{T:List Int}(hw:worldOk w)(h:tabOk w T=true):TOk w T:=by
 simp only[tabOk,Bool.and_eq_true,decide_eq_true_eq]at h
 obtain⟨⟨h1,h2⟩,h3⟩:=h
 refine⟨hw,h1,fun k=> ?_,fun t ht hn hd=> ?_⟩
 ·by_cases hk:k<T.length
  ·rw[List.getD_eq_getElem?_getD,List.getElem?_eq_getElem hk]
   have:=List.all_eq_true.1 h2 _ (List.getElem_mem hk)
   simpa using this
  ·rw[List.getD_eq_getElem?_getD,List.getElem?_eq_none (by omega)];simp
 ·obtain⟨q1,q2,q3,q4⟩:=ht.resolve_left hn
  have a1:=List.all_eq_true.1 h3 t.data.toNat (by simp;omega)
  have a2:=List.all_eq_true.1 a1 t.index.toNat (by simp;omega)
  simp only[Bool.or_eq_true,decide_eq_true_eq]at a2
  have e:(t.data*4+t.index).toNat=t.data.toNat*4+t.index.toNat:=by omega
  have ed:depP T t=T.getD (t.data.toNat*4+t.index.toNat) 0:=by unfold depP;rw[if_neg hn,e]
  have a3:=a2.resolve_left (by rw[←ed];exact hd)
  obtain⟨k,hk,hkk⟩:=List.any_eq_true.1 a3
  simp only[Bool.and_eq_true,decide_eq_true_eq]at hkk
  have et:(⟨(t.data.toNat:Int),(t.index.toNat:Int)⟩:Ty)=t:=by
   obtain⟨d,i⟩:=t
   simp only at q1 q3 ⊢
   rw[Int.toNat_of_nonneg q1,Int.toNat_of_nonneg q3]
  rw[et]at hkk
  have hk':k<(dataOf w t).ctors.length:=by simpa[dataOf]using hk
  refine⟨(k:Int),?_,by rw[hkk.2,ed]⟩
  unfold ctorList
  rw[if_neg hn]
  have hf:=fitB_iff hkk.1
  rw[Int.toNat_of_nonneg q3]at hf
  have hg:(w.getD t.data.toNat Data.z).ctors.getD k Ctor.z=(dataOf w t).ctors[k]:=by
   unfold dataOf at hk' ⊢
   rw[List.getD_eq_getElem?_getD,List.getElem?_eq_getElem hk'];rfl
  rw[hg]at hf
  have:=selC_of (k:=0) hk' hf
  rwa[Nat.zero_add]at this
theorem TOk.dep {w:List Data}{T:List Int}(h:TOk w T)(t:Ty):0≤depP T t∧depP T t≤2:=by
 unfold depP;split
 ·omega
 ·exact h.rng _
theorem P.spec_l1Depth {w:List Data}{T:List Int}(h:TOk w T){t:Ty}(ht:tIx w t):F.f93 T t=some (depP T t):=by
 unfold F.f93 F.f92 depP
 by_cases hn:t.data= -1
 ·rw[if_pos hn,if_pos hn]
 ·obtain⟨q1,q2,q3,q4⟩:=ht.resolve_left hn
  have hw:=h.wok.1
  rw[if_neg hn,if_neg hn,wrap_in (n:=t.data*4) (by omega) (by omega),wrap_in (by omega) (by omega)]
  simp only[Option.bind_eq_bind,Option.bind_some]
  have hl:(t.data*4+t.index).toNat<T.length:=by rw[h.len];omega
  unfold at?
  rw[if_pos (by omega),List.getElem?_eq_getElem hl,List.getD_eq_getElem?_getD,List.getElem?_eq_getElem hl]
  rfl
theorem arg_tIx {w:List Data}(hw:worldOk w){t:Ty}(ht:tIx w t){c:Int}(h:c∈ctorList w t):∀a,a∈argList w t c→tIx w a:=by
 have hc:=(world_ctors hw ht.tOk (ctorList_mem h).1).2 _ (at_ctor h).2
 have hn:=(ctorList_mem h).1
 intro a ha
 obtain⟨b,hb,rfl⟩:=List.mem_map.1 ha
 obtain⟨j,hj,rfl⟩:=List.getElem_of_mem hb
 have:=hc.2.2.2.2 j (by omega) hj
 obtain⟨q1,q2,q3,q4⟩:=ht.resolve_left hn
 unfold argOf
 rcases this with⟨p1,p2⟩|⟨p1,p2,p3,p4⟩
 ·rw[if_neg (by omega)];exact .inl p1
 ·split
  ·next e=>
   refine .inr ⟨p1,p2,?_,?_⟩
   ·show 0≤(if(ctorOf w t c).index=0 then t.index else(ctorOf w t c).index)
    split
    ·exact q3
    ·exact hc.2.2.1
   ·show(if(ctorOf w t c).index=0 then t.index else(ctorOf w t c).index)≤3
    split
    ·exact q4
    ·exact hc.2.2.2.1
  ·next e=>exact .inr ⟨p1,p2,by omega,p4⟩
theorem mostG_le {w:List Data}{T:List Int}(h:TOk w T):∀(l:List Ty) (m:Int),0≤m→m≤2→0≤mostG T m l∧mostG T m l≤3∧(mostG T m l≠0→m+1≤mostG T m l∧∀a,a∈l→depP T a≠0∧depP T a+1≤mostG T m l)
 | [],m,h0,h2=>⟨by simp only[mostG];omega,by simp only[mostG];omega,fun _=>⟨by simp only[mostG];omega,fun a ha=>by cases ha⟩⟩
 |a::r,m,h0,h2=>by
  have hd:=h.dep a
  simp only[mostG]
  by_cases ha:depP T a=0
  ·rw[if_pos ha];exact⟨by omega,by omega,fun h=>absurd rfl h⟩
  ·rw[if_neg ha]
   have hm:∃m',(if m<depP T a then depP T a else m)=m'∧0≤m'∧m'≤2∧m≤m'∧depP T a≤m':=by
    split
    ·exact⟨_,rfl,by omega,by omega,by omega,by omega⟩
    ·exact⟨_,rfl,by omega,by omega,by omega,by omega⟩
   obtain⟨m',e,k0,k2,k3,k4⟩:=hm
   rw[e]
   obtain⟨i1,i2,i3⟩:=mostG_le h r m' k0 k2
   refine⟨i1,i2,fun hne=> ?_⟩
   obtain⟨j1,j2⟩:=i3 hne
   refine⟨by omega,fun b hb=> ?_⟩
   rcases List.mem_cons.1 hb with rfl|hb
   ·exact⟨ha,by omega⟩
   ·exact j2 b hb
def mR (n:Int):Lo Int Int:=if n=0 then .ret 0 else .go (n-1)
theorem P.spec_l1Most_l1 {w:List Data}{T:List Int}(h:TOk w T)(l:List Ty)(hl:∀a,a∈l→tIx w a):∀(n k:Nat) (m:Int),l.length-k=n→0≤m→m≤2→
  F.f94 T l m k=some (mR (mostG T m (l.drop k))):=by
 intro n
 induction n with
 |zero=>
  intro k m hn h0 h2
  rw[F.f94,if_neg (by omega),List.drop_eq_nil_of_le (by omega)]
  show some (Lo.go m)=some (mR (m+1))
  unfold mR
  rw[if_neg (by omega)];congr 2;omega
 |succ n ih=>
  intro k m hn h0 h2
  have hk:k<l.length:=by omega
  have hd:=h.dep l[k]
  rw[F.f94,if_pos hk,List.getElem?_eq_getElem hk]
  simp only[Option.bind_eq_bind,Option.bind_some]
  rw[P.spec_l1Depth h (hl _ (List.getElem_mem hk)),List.drop_eq_getElem_cons hk]
  simp only[Option.bind_some,mostG]
  by_cases ha:depP T l[k]=0
  ·rw[if_pos ha,if_pos ha];rfl
  ·rw[if_neg ha,if_neg ha]
   by_cases hm:m<depP T l[k]
   ·rw[if_pos hm,if_pos hm,ih _ _ (by omega) (by omega) (by omega)]
   ·rw[if_neg hm,if_neg hm,ih _ _ (by omega) (by omega) (by omega)]
theorem P.spec_l1Most {w:List Data}{T:List Int}(h:TOk w T){t:Ty}(ht:tIx w t){c:Int}(hc:c∈ctorList w t):F.f95 w T t c=some (mostP w T t c):=by
 unfold F.f95
 rw[P.spec_l1Args w h.wok t ht.tOk c hc]
 simp only[Option.bind_eq_bind,Option.bind_some]
 rw[P.spec_l1Most_l1 h _ (arg_tIx h.wok ht hc) _ 0 0 rfl (by omega) (by omega),List.drop_zero]
 simp only[Option.bind_some]
 have:=mostG_le h (argList w t c) 0 (by omega) (by omega)
 unfold mostP
 unfold mR
 by_cases h0:mostG T 0 (argList w t c)=0
 ·rw[if_pos h0,h0]
 ·rw[if_neg h0]
  show some (IntKind.i64.wrap (mostG T 0 (argList w t c) -1+1))=_
  rw[wrap_in (by omega) (by omega)];congr 1;omega
def fineP (w:List Data)(T:List Int)(t:Ty)(depth:Int)(c:Int):Bool:=decide (0<mostP w T t c)&& (decide (mostP w T t c≤depth)||decide (mostP w T t c=depP T t))
theorem P.spec_l2Draw_l1 {w:List Data}{T:List Int}(h:TOk w T){t:Ty}(ht:tIx w t)(r:T_spec_l17Rd)(depth:Int)(l:List Int)(hl:∀c,c∈l→c∈ctorList w t)(h8:l.length≤4):∀(n k:Nat) (out:List Int),l.length-k=n→out.length≤k→
  F.f101 r w T t depth l out k=some (out++(l.drop k).filter (fineP w T t depth)):=by
 intro n
 induction n with
 |zero=>intro k out hn ho;rw[F.f101,if_neg (by omega),List.drop_eq_nil_of_le (by omega)];simp
 |succ n ih=>
  intro k out hn ho
  have hk:k<l.length:=by omega
  rw[F.f101,if_pos hk,List.getElem?_eq_getElem hk]
  simp only[Option.bind_eq_bind,Option.bind_some]
  rw[P.spec_l1Most h ht (hl _ (List.getElem_mem hk)),List.drop_eq_getElem_cons hk,P.spec_l1Depth h ht]
  simp only[Option.bind_some]
  have yes:fineP w T t depth l[k]=true→F.f101 r w T t depth l (out++[l[k]]) (k+1)=some (out++(l[k]::l.drop (k+1)).filter (fineP w T t depth)):=fun hf=>by
   rw[ih (k+1) _ (by omega) (by simp;omega),List.filter_cons_of_pos hf];simp
  have no:fineP w T t depth l[k]=false→F.f101 r w T t depth l out (k+1)=some (out++(l[k]::l.drop (k+1)).filter (fineP w T t depth)):=fun hf=>by
   rw[ih (k+1) _ (by omega) (by omega),List.filter_cons_of_neg (by simp[hf])]
  by_cases h1:0<mostP w T t l[k]
  ·rw[if_pos h1]
   by_cases h2:mostP w T t l[k]≤depth
   ·rw[if_pos h2,if_pos (by omega)];exact yes (by simp[fineP,h1,h2])
   ·rw[if_neg h2]
    by_cases h3:mostP w T t l[k]=depP T t
    ·rw[if_pos h3,if_pos (by omega)];exact yes (by simp only[fineP,h1,h3];simp[←h3,h1])
    ·rw[if_neg h3];exact no (by simp[fineP,h2,h3])
  ·rw[if_neg h1];exact no (by simp[fineP,h1])
theorem selC_len' {w:List Data}(hw:worldOk w){t:Ty}(ht:tOk w t):(ctorList w t).length≤4:=by
 unfold ctorList
 split
 ·simp
 ·next hn=>exact Nat.le_trans (selC_len _ _ _) (world_ctors hw ht hn).1
theorem wt_of (c n:Int)(ks:List Value):(⟨c,n,ks⟩:Value).wt=((ks.map fun k=>1+k.wt).sum):=by
 have:=wt_kids ⟨c,n,ks⟩
 simpa using this
theorem P.l2DrawA {w:List Data}{T:List Int}(h:TOk w T):∀(n:Nat) (t:Ty) (depth:Int) (K:Nat) (r:T_spec_l17Rd),tIx w t→depP T t≠0→depP T t≤n→depth≤n→-1000000+n≤depth→n≤12→rok K r→K+4^n≤1099511627776→
  ∃v r',F.f102 r w T t depth=some (v,r')∧rok (K+4^n) r'∧pv w false n t v∧v.wt+1≤4^n∧(t.data≠-1→∀a,a∈argList w t v.ctor→depP T a≠0)
 |0,t,depth,K,r,ht,hd,hdn,_,_,_,_,_=>by have:=h.dep t;omega
 |n+1,t,depth,K,r,ht,hd,hdn,hde,hlo,h12,hr,hK=>by
  have p4:1≤4^n:=Nat.one_le_pow _ _ (by omega)
  have p4':4^ (n+1)=4*4^n:=by rw[Nat.pow_succ];omega
  rw[F.f102]
  by_cases hn:t.data= -1
  ·rw[if_pos hn]
   obtain⟨v,r',e,h1,h2,h3,_⟩:=P.pick hr (by omega) 10
   have h3:=h3 (by omega)
   rw[e]
   refine⟨_,_,rfl,h1.mono (by omega),?_,?_,fun h=>absurd hn h⟩
   ·exact .inr ⟨by simp,.inl ⟨hn,rfl,h2,by show v≤9;omega,rfl⟩⟩
   ·rw[wt_of];simp;omega
  ·rw[if_neg hn,P.spec_l1Ctors w h.wok t ht.tOk]
   simp only[Option.bind_eq_bind,Option.bind_some]
   rw[P.spec_l2Draw_l1 h ht r depth _ (fun c hc=>hc) (selC_len' h.wok ht.tOk) _ 0 [] rfl (by simp),List.drop_zero,List.nil_append]
   simp only[Option.bind_some]
   obtain⟨c0,hc0,hm0⟩:=h.has t ht hn hd
   have hdt:=h.dep t
   have hf0:c0∈(ctorList w t).filter (fineP w T t depth):=List.mem_filter.2 ⟨hc0,by simp only[fineP,hm0];simp;omega⟩
   have hpos:=List.length_pos_of_mem hf0
   obtain⟨v,r1,e,h1,h2,h3,_⟩:=P.pick hr (by omega) (((ctorList w t).filter (fineP w T t depth)).length:Int)
   obtain⟨c,hcx,hcm⟩:=at_mem h2 (h3 (by omega))
   rw[e];simp only[Option.bind_some]
   rw[hcx];simp only[Option.bind_some]
   obtain⟨hcl,hcf⟩:=List.mem_filter.1 hcm
   simp only[fineP,Bool.and_eq_true,Bool.or_eq_true,decide_eq_true_eq]at hcf
   rw[P.spec_l1Args w h.wok t ht.tOk c hcl]
   simp only[Option.bind_some]
   obtain⟨g1,g2,g3⟩:=mostG_le h (argList w t c) 0 (by omega) (by omega)
   have g3:=g3 (by unfold mostP at hcf;omega)
   have hal:=(arg_tOk h.wok ht.tOk hcl).1
   have hax:=arg_tIx h.wok ht hcl
   have hmn:mostP w T t c≤(n:Int)+1:=by rcases hcf.2 with q|q<;>omega
   have kid:∀a,a∈argList w t c→∀K r,rok K r→K+4^n≤1099511627776→∃v r',F.f102 r w T a (IntKind.i64.wrap (depth-1))=some (v,r')∧rok (K+4^n) r'∧pv w false n a v∧v.wt+1≤4^n:=by
    intro a ha K r hr hK
    rw[wrap_in (by omega) (by omega)]
    obtain⟨q1,q2⟩:=g3.2 a ha
    obtain⟨v,r',e,k1,k2,k3,_⟩:=P.l2DrawA h n a (depth-1) K r (hax a ha) q1 (by unfold mostP at hmn;omega) (by omega) (by omega) (by omega) hr hK
    exact⟨v,r',e,k1,k2,k3⟩
   have loop:∀(m k:Nat) (z:List Int) (z33:Int) (out:List Value) (K:Nat),(argList w t c).length-k=m→out.length=k→rok K ⟨z,z33⟩→K+m*4^n≤1099511627776→
     (∀i (hi:i<out.length) (hi':i<(argList w t c).length),pv w false n (argList w t c)[i] out[i])→((out.map fun k=>1+k.wt).sum)≤k*4^n→k≤(argList w t c).length→
     ∃z' z33' out',F.f103 w T depth c (argList w t c) z z33 out k=some (z',z33',out')∧rok (K+m*4^n) ⟨z',z33'⟩∧out'.length=(argList w t c).length∧
      (∀i (hi:i<out'.length) (hi':i<(argList w t c).length),pv w false n (argList w t c)[i] out'[i])∧((out'.map fun k=>1+k.wt).sum)≤(argList w t c).length*4^n:=by
    intro m
    induction m with
    |zero=>
     intro k z z33 out K hm ho hr hK hp hs hk
     rw[F.f103,if_neg (by omega)]
     have:k=(argList w t c).length:=by omega
     subst this
     exact⟨z,z33,out,rfl,by simpa using hr,ho,hp,hs⟩
    |succ m ih=>
     intro k z z33 out K hm ho hr hK hp hs hkl
     have hk:k<(argList w t c).length:=by omega
     rw[F.f103,if_pos hk,List.getElem?_eq_getElem hk]
     simp only[Option.bind_eq_bind,Option.bind_some]
     have e1:(m+1)*4^n=m*4^n+4^n:=by rw[Nat.succ_mul]
     obtain⟨v,r',e,k1,k2,k3⟩:=kid _ (List.getElem_mem hk) K ⟨z,z33⟩ hr (by omega)
     rw[e];simp only[Option.bind_some]
     rw[if_pos (by omega)]
     have e2:(k+1)*4^n=k*4^n+4^n:=by rw[Nat.succ_mul]
     have key:=fun p1 p2=>ih (k+1) r'.f0 r'.f1 (out++[v]) (K+4^n) (by omega) (by simp[ho]) k1 (by omega) p1 p2 hk
     obtain⟨z',z33',out',q1,q2,q3⟩:=key (by
      intro i hi hi'
      by_cases hik:i<out.length
      ·rw[List.getElem_append_left hik];exact hp i hik hi'
      ·have:i=k:=by simp at hi;omega
       subst this
       rw[List.getElem_append_right (by omega)]
       simpa using k2) (by
      simp only[List.map_append,List.sum_append,List.map_cons,List.map_nil,List.sum_cons,List.sum_nil];omega)
     exact⟨z',z33',out',q1,q2.mono (by omega),q3⟩
   have m3:(argList w t c).length*4^n≤3*4^n:=Nat.mul_le_mul_right _ hal
   obtain⟨z',z33',out',q1,q2,q3,q4,q5⟩:=loop _ 0 r1.f0 r1.f1 [] (K+1) rfl rfl h1 (by simp only[Nat.sub_zero];omega) (fun i hi=>by simp at hi) (by simp) (by omega)
   rw[q1];simp only[Option.bind_some]
   refine⟨_,_,rfl,q2.mono (by simp only[Nat.sub_zero];omega),?_,?_,fun _ a ha=>(g3.2 a ha).1⟩
   ·refine .inr ⟨by simp,.inr ⟨hn,rfl,hcl,q3,fun i _ _ hi hi'=>q4 i hi' hi⟩⟩
   ·rw[wt_of];omega
theorem P.l2Draw {w:List Data}{T:List Int}(h:TOk w T)(n:Nat)(t:Ty)(depth:Int)(K:Nat)(r:T_spec_l17Rd)(a1:tIx w t)(a2:depP T t≠0)(a3:depP T t≤n)(a4:depth≤n)(a5: -1000000+n≤depth)(a6:n≤12)(a7:rok K r)(a8:K+4^n≤1099511627776):
  ∃v r',F.f102 r w T t depth=some (v,r')∧rok (K+4^n) r'∧pv w false n t v∧v.wt+1≤4^n:=by
 obtain⟨v,r',e,k1,k2,k3,_⟩:=P.l2DrawA h n t depth K r a1 a2 a3 a4 a5 a6 a7 a8
 exact⟨v,r',e,k1,k2,k3⟩
theorem world_of {w:List Data}(hw:w∈worlds):worldOk w∧1≤w.length∧w.length≤2∧smallW w∧∃T,F.f99 w=some T∧TOk w T:=by
 have hs:=worlds_small hw
 have wok:F.f23 w=some true→worldOk w:=fun h=>by rw[P.spec_WorldValid w hs]at h;exact dec_iff.1 (Option.some.inj h)
 simp only[worlds,List.mem_cons,List.not_mem_nil,or_false]at hw
 rcases hw with rfl|rfl|rfl|rfl|rfl|rfl|rfl
 ·have:=wok (E.f23_le 100 _ _ (by kernel_rfl));exact⟨this,by decide,by decide,hs,_,W0_table,TOk.of this (by decide)⟩
 ·have:=wok (E.f23_le 100 _ _ (by kernel_rfl));exact⟨this,by decide,by decide,hs,_,W1_table,TOk.of this (by decide)⟩
 ·have:=wok (E.f23_le 100 _ _ (by kernel_rfl));exact⟨this,by decide,by decide,hs,_,W2_table,TOk.of this (by decide)⟩
 ·have:=wok (E.f23_le 100 _ _ (by kernel_rfl));exact⟨this,by decide,by decide,hs,_,W3_table,TOk.of this (by decide)⟩
 ·have:=wok (E.f23_le 100 _ _ (by kernel_rfl));exact⟨this,by decide,by decide,hs,_,W4_table,TOk.of this (by decide)⟩
 ·have:=wok (E.f23_le 100 _ _ (by kernel_rfl));exact⟨this,by decide,by decide,hs,_,W5_table,TOk.of this (by decide)⟩
 ·have:=wok (E.f23_le 100 _ _ (by kernel_rfl));exact⟨this,by decide,by decide,hs,_,W6_table,TOk.of this (by decide)⟩
theorem P.l2TypedT {K:Nat}{r:T_spec_l17Rd}(h:rok K r)(hK:K+300≤1099511627776):∃w t v r' T,F.f104 r=some (w,t,v,r')∧rok (K+300) r'∧w∈worlds∧F.f99 w=some T∧TOk w T∧tIx w t∧t.index≤2∧0≤t.index∧depP T t≠0∧pv w false 4 t v∧v.wt+1≤256∧(t.data= -1→t.index=0):=by
 unfold F.f104
 obtain⟨w,r1,e1,h1,hw⟩:=P.l1World h (by omega)
 obtain⟨hwo,hl1,hl2,hs,T,hT,hTo⟩:=world_of hw
 obtain⟨p,r2,e2,h2,p0,p1,_⟩:=P.pick h1 (by omega) (w.length:Int)
 obtain⟨i,r3,e3,h3,hi⟩:=P.num h2 (by omega) [0,0,1,2] (by simp)
 obtain⟨d,r4,e4,h4,hd⟩:=P.num h3 (by omega) [3,2,4,1] (by simp)
 have hi:0≤i∧i≤2:=by simp at hi;omega
 have hd:1≤d∧d≤4:=by simp at hd;omega
 have p1:=p1 (by omega)
 have ht:tIx w ⟨p,i⟩:=.inr ⟨p0,p1,hi.1,by show i≤3;omega⟩
 rw[e1];simp only[Option.bind_eq_bind,Option.bind_some]
 rw[hT];simp only[Option.bind_some]
 rw[e2];simp only[Option.bind_some]
 rw[e3];simp only[Option.bind_some]
 rw[P.spec_l1Depth hTo ht,e4];simp only[Option.bind_some]
 split
 ·obtain⟨v,r',e,k1,k2,k3⟩:=P.l2Draw hTo 4 ⟨-1,0⟩ d _ r4 (.inl rfl) (by simp[depP]) (by simp[depP]) (by omega) (by omega) (by omega) h4 (by omega)
  rw[e]
  exact⟨w,⟨-1,0⟩,v,r',T,rfl,k1.mono (by omega),hw,hT,hTo,.inl rfl,by simp,by simp,by simp[depP],k2,k3,fun _=>rfl⟩
 ·next hne=>
  have:=hTo.dep ⟨p,i⟩
  obtain⟨v,r',e,k1,k2,k3⟩:=P.l2Draw hTo 4 ⟨p,i⟩ d _ r4 ht hne (by omega) (by omega) (by omega) (by omega) h4 (by omega)
  rw[e]
  exact⟨w,⟨p,i⟩,v,r',T,rfl,k1.mono (by omega),hw,hT,hTo,ht,hi.2,hi.1,hne,k2,k3,fun hh=>by have:p= -1:=hh;omega⟩
noncomputable def findV (l:List VarType)(n:Int):Int:=match fixN (fun x=>x.var=n) 0 l with
 |some j=>(j:Int)
 |none=> -1
theorem P.spec_l3Find (l:List VarType)(n:Int):F.f71 l n=some (findV l n):=by
 unfold F.f71 findV
 rw[findG (a:=l) (p:=fun x=>x.var=n) (L:=F.f70 l n) (fun k hk=>by rw[F.f70,if_neg (by omega)])
  (fun k hk hp=>by rw[F.f70,if_pos hk,List.getElem?_eq_getElem hk];simp only[Option.bind_eq_bind,Option.bind_some];rw[if_neg hp])
  (fun k hk hp=>by rw[F.f70,if_pos hk,List.getElem?_eq_getElem hk];simp only[Option.bind_eq_bind,Option.bind_some];rw[if_pos hp]) _ 0 rfl,List.drop_zero]
 cases fixN (fun x=>x.var=n) 0 l<;>rfl
theorem findV_cases (l:List VarType)(n:Int):findV l n= -1∨∃(j:Nat) (h:j<l.length),findV l n=(j:Int)∧l[j].var=n∧∀i (hi:i<l.length),i<j→l[i].var≠n:=by
 unfold findV
 cases h:fixN (fun x:VarType=>x.var=n) 0 l with
 |none=>exact .inl rfl
 |some j=>
  obtain⟨_,h2,h3,h4⟩:=fixN_some h
  exact .inr ⟨j,h2,rfl,h3,h4⟩
theorem findV_self (l:List VarType)(j:Nat)(hj:j<l.length):findV l l[j].var=(j:Int)↔∀i (hi:i<l.length),i<j→l[i].var≠l[j].var:=by
 constructor
 ·intro h
  rcases findV_cases l l[j].var with q|⟨k,hk,q1,q2,q3⟩
  ·omega
  ·have:k=j:=by omega
   subst this;exact q3
 ·intro h
  unfold findV
  cases hf:fixN (fun x:VarType=>x.var=l[j].var) 0 l with
  |none=>exact absurd rfl (fixN_none hf l[j] (List.getElem_mem hj))
  |some k=>
   obtain⟨_,h2,h3,h4⟩:=fixN_some hf
   show(k:Int)=j
   have:¬k<j:=fun hlt=>h k h2 hlt h3
   have:¬j<k:=fun hlt=>h4 j hj (by omega) rfl
   omega
theorem P.isVar (v:Int):F.f133 v=some (dec (0≤v∧v≤5)):=by
 unfold F.f133;rw[P.within];rfl
theorem arg_typeOk {w:List Data}(hw:worldOk w){t:Ty}(ht:typeOk w t){c:Int}(h:c∈ctorList w t):∀a,a∈argList w t c→typeOk w a:=by
 have hc:=(world_ctors hw (tOk_of ht.1) (ctorList_mem h).1).2 _ (at_ctor h).2
 have hn:=(ctorList_mem h).1
 intro a ha
 obtain⟨b,hb,rfl⟩:=List.mem_map.1 ha
 obtain⟨j,hj,rfl⟩:=List.getElem_of_mem hb
 have:=hc.2.2.2.2 j (by omega) hj
 have ht2:=ht.2
 rcases ht.1 with q|⟨q1,q2,q3,q4⟩
 ·exact absurd q.1 hn
 unfold argOf
 rcases this with⟨p1,p2⟩|⟨p1,p2,p3,p4⟩
 ·rw[if_neg (by omega)];exact⟨.inl ⟨p1,p2⟩,by omega⟩
 ·split
  ·next e=>
   have hx:0≤(if(ctorOf w t c).index=0 then t.index else(ctorOf w t c).index)∧(if(ctorOf w t c).index=0 then t.index else(ctorOf w t c).index)≤3:=by
    split
    ·exact⟨ht2,q4⟩
    ·exact⟨hc.2.2.1,hc.2.2.2.1⟩
   exact⟨.inr ⟨p1,p2,by show -1≤(if(ctorOf w t c).index=0 then t.index else(ctorOf w t c).index);omega,hx.2⟩,hx.1⟩
  ·next e=>exact⟨.inr ⟨p1,p2,p3,p4⟩,by omega⟩
def pOwn (w:List Data)(t:Ty)(p:Pattern):Prop:=
 (p.op=1∧p.var=0∧p.n=0∧p.m=0∧p.ctor=0)∨
 (p.op=2∧0≤p.var∧p.var≤5∧p.n=0∧p.m=0∧p.ctor=0)∨
 (p.op=3∧p.var=0∧p.ctor=0∧t.data= -1∧0≤p.n∧p.n≤p.m∧p.m≤9)∨
 (p.op=4∧p.var=0∧p.n=0∧p.m=0∧p.ctor∈ctorList w t)∨
 (p.op=5∧p.var=0∧p.n=0∧p.m=0∧p.ctor=0)∨
 (p.op=6∧0≤p.var∧p.var≤5∧p.n=0∧p.m=0∧p.ctor=0)
noncomputable def pTypes (w:List Data)(t:Ty)(p:Pattern):List Ty:=if p.op=4 then argList w t p.ctor else if p.op=5 then[t,t]else if p.op=6 then[t]else[]
theorem P.spec_l3Own (w:List Data)(hw:worldOk w)(t:Ty)(ht:tOk w t)(p:Pattern):F.f58 w t p=some (dec (pOwn w t p)):=by
 unfold F.f58
 rw[P.spec_l1Ctors w hw t ht]
 simp only[Option.bind_eq_bind,Option.bind_some,P.spec_l1Has]
 have yes:pOwn w t p→some true=some (dec (pOwn w t p)):=fun h=>by rw[dec_of h]
 have no:¬pOwn w t p→some false=some (dec (pOwn w t p)):=fun h=>by rw[dec_not h]
 repeat' split
 all_goals first
  |(refine no fun h=> ?_;unfold pOwn at h;omega)
  |(refine yes ?_;unfold pOwn;omega)
  |skip
 ·rw[←dec_eq];congr 1;refine dec_congr ?_;unfold pOwn;omega
 ·congr 1;refine dec_congr ⟨fun h=>.inr (.inr (.inr (.inl ⟨by assumption,by assumption,by assumption,by assumption,h⟩))),fun h=> ?_⟩
  unfold pOwn at h
  rcases h with h|h|h|h|h|h
  ·omega
  ·omega
  ·omega
  ·exact h.2.2.2.2
  ·omega
  ·omega
theorem P.spec_l3Types (w:List Data)(hw:worldOk w)(t:Ty)(ht:tOk w t)(p:Pattern)(h:pOwn w t p):F.f61 w t p=some (pTypes w t p):=by
 unfold F.f61 pTypes
 by_cases h4:p.op=4
 ·rw[if_pos h4,if_pos h4]
  have hc:p.ctor∈ctorList w t:=by
   unfold pOwn at h
   rcases h with h|h|h|h|h|h
   ·omega
   ·omega
   ·omega
   ·exact h.2.2.2.2
   ·omega
   ·omega
  rw[P.spec_l1Args w hw t ht _ hc];rfl
 ·rw[if_neg h4,if_neg h4]
  have k:F.f59 p.op=some (if p.op=5 then 2 else if p.op=6 then 1 else 0):=by
   unfold F.f59;split
   ·rfl
   ·split
    ·rfl
    ·rfl
  by_cases h5:p.op=5
  ·rw[if_pos h5]
   rw[if_pos h5]at k
   rw[F.f60,k]
   simp only[Option.bind_eq_bind,Option.bind_some]
   rw[if_pos (by omega),if_pos (by simp),if_pos (by omega),F.f60,k]
   simp only[Option.bind_eq_bind,Option.bind_some]
   rw[if_pos (by omega),if_pos (by simp),if_pos (by omega),F.f60,k]
   simp only[Option.bind_eq_bind,Option.bind_some]
   rw[if_neg (by omega)];simp
  ·rw[if_neg h5]
   rw[if_neg h5]at k
   by_cases h6:p.op=6
   ·rw[if_pos h6]
    rw[if_pos h6]at k
    rw[F.f60,k]
    simp only[Option.bind_eq_bind,Option.bind_some]
    rw[if_pos (by omega),if_pos (by simp),if_pos (by omega),F.f60,k]
    simp only[Option.bind_eq_bind,Option.bind_some]
    rw[if_neg (by omega)];simp
   ·rw[if_neg h6]
    rw[if_neg h6]at k
    rw[F.f60,k]
    simp only[Option.bind_eq_bind,Option.bind_some]
    rw[if_neg (by omega)];simp
theorem pTypes_tOk {w:List Data}(hw:worldOk w){t:Ty}(ht:typeOk w t){p:Pattern}(h:pOwn w t p):∀a,a∈pTypes w t p→typeOk w a:=by
 unfold pTypes
 intro a ha
 split at ha
 ·next h4=>
  have hc:p.ctor∈ctorList w t:=by
   unfold pOwn at h
   rcases h with h|h|h|h|h|h
   ·omega
   ·omega
   ·omega
   ·exact h.2.2.2.2
   ·omega
   ·omega
  exact arg_typeOk hw ht hc a ha
 ·split at ha
  ·simp at ha;subst ha;exact ht
  ·split at ha
   ·simp at ha;subst ha;exact ht
   ·cases ha
theorem P.impl_only (p:Pattern)(c n v:Bool)(k:Int):F.f132 p c n v k=some (dec ((c=true∨p.ctor=0)∧(n=true∨(p.n=0∧p.m=0))∧(v=true∨p.var=0)∧(p.kids.length:Int)=k)):=by
 unfold F.f132
 cases c<;>cases n<;>cases v<;>simp only[Bool.false_eq_true,if_true,if_false,false_or,true_or,true_and]
 all_goals(repeat' split)
 all_goals first
  |(rw[←dec_eq];done)
  |(rw[←dec_eq];congr 1;refine dec_congr ?_;omega)
  |(rw[dec_not];omega)
theorem P.impl_shape (w:List Data)(hw:worldOk w)(t:Ty)(ht:tOk w t)(p:Pattern):
  ∃ts,F.f142 w t p=some (ts,dec (pOwn w t p∧p.kids.length=(pTypes w t p).length))∧(pOwn w t p→ts=pTypes w t p):=by
 unfold F.f142
 simp only[P.impl_only,P.isVar,P.impl_ctorsOf w hw t ht,P.slices_Contains_int,Option.bind_eq_bind,Option.bind_some,dec_iff]
 by_cases h1:p.op=1
 ·rw[if_pos h1]
  have e:pTypes w t p=[]:=by unfold pTypes;rw[if_neg (by omega),if_neg (by omega),if_neg (by omega)]
  rw[e]
  refine⟨[],?_,fun _=>rfl⟩
  congr 2;refine dec_congr ?_;unfold pOwn;simp only[Bool.false_eq_true,false_or,List.length_nil];omega
 rw[if_neg h1]
 by_cases h2:p.op=2
 ·rw[if_pos h2]
  have e:pTypes w t p=[]:=by unfold pTypes;rw[if_neg (by omega),if_neg (by omega),if_neg (by omega)]
  rw[e]
  refine⟨[],?_,fun _=>rfl⟩
  split
  ·next hh=>
   simp only[Bool.false_eq_true,false_or,true_or,true_and]at hh
   congr 2;refine dec_congr ?_;unfold pOwn;simp only[List.length_nil,List.length_cons];omega
  ·next hh=>
   simp only[Bool.false_eq_true,false_or,true_or,true_and]at hh
   rw[dec_not];unfold pOwn;simp only[List.length_nil,List.length_cons];omega
 rw[if_neg h2]
 by_cases h3:p.op=3
 ·rw[if_pos h3]
  have e:pTypes w t p=[]:=by unfold pTypes;rw[if_neg (by omega),if_neg (by omega),if_neg (by omega)]
  rw[e]
  refine⟨[],?_,fun _=>rfl⟩
  simp only[Bool.false_eq_true,false_or,true_or,true_and,List.length_nil]
  repeat' split
  all_goals first
   |(rw[←dec_eq];congr 2;refine dec_congr ?_;unfold pOwn;omega)
   |(rw[dec_not];unfold pOwn;omega)
 rw[if_neg h3]
 by_cases h4:p.op=4
 ·rw[if_pos h4]
  have e:pTypes w t p=argList w t p.ctor:=by unfold pTypes;rw[if_pos h4]
  rw[e]
  by_cases hc:p.ctor∈ctorList w t
  ·rw[if_pos hc,P.impl_argTypes w hw t ht _ hc]
   simp only[Option.bind_some]
   refine⟨argList w t p.ctor,?_,fun _=>rfl⟩
   congr 2;refine dec_congr ⟨fun h=>⟨.inr (.inr (.inr (.inl ⟨h4,?_,?_,?_,hc⟩))),?_⟩,fun h=> ?_⟩
   ·simp at h;exact h.2.1
   ·simp at h;exact h.1.1
   ·simp at h;exact h.1.2
   ·simp at h;omega
   ·obtain⟨h,hl⟩:=h
    unfold pOwn at h
    rcases h with h|h|h|h|h|h
    ·omega
    ·omega
    ·omega
    ·exact⟨.inl trivial,.inr ⟨h.2.2.1,h.2.2.2.1⟩,.inr h.2.1,by omega⟩
    ·omega
    ·omega
  ·rw[if_neg hc]
   have hn:¬pOwn w t p:=by
    intro h
    unfold pOwn at h
    rcases h with h|h|h|h|h|h
    ·omega
    ·omega
    ·omega
    ·exact hc h.2.2.2.2
    ·omega
    ·omega
   exact⟨[],by rw[dec_not fun h=>hn h.1],fun h=>absurd h hn⟩
 rw[if_neg h4]
 by_cases h5:p.op=5
 ·rw[if_pos h5]
  have e:pTypes w t p=[t,t]:=by unfold pTypes;rw[if_neg (by omega),if_pos (by omega)]
  rw[e]
  refine⟨[t,t],?_,fun _=>rfl⟩
  congr 2;refine dec_congr ?_;unfold pOwn;simp only[Bool.false_eq_true,false_or,List.length_nil,List.length_cons];omega
 rw[if_neg h5]
 by_cases h6:p.op=6
 ·rw[if_pos h6]
  have e:pTypes w t p=[t]:=by unfold pTypes;rw[if_neg (by omega),if_neg (by omega),if_pos (by omega)]
  rw[e]
  refine⟨[t],?_,fun _=>rfl⟩
  split
  ·next hh=>
   simp only[Bool.false_eq_true,false_or,true_or,true_and]at hh
   congr 2;refine dec_congr ?_;unfold pOwn;simp only[List.length_nil,List.length_cons];omega
  ·next hh=>
   simp only[Bool.false_eq_true,false_or,true_or,true_and]at hh
   rw[dec_not];unfold pOwn;simp only[List.length_nil,List.length_cons];omega
 rw[if_neg h6]
 have hn:¬pOwn w t p:=by unfold pOwn;omega
 exact⟨[],by rw[dec_not fun h=>hn h.1],fun h=>absurd h hn⟩
def pShape (w:List Data):Nat→Ty→Pattern→Prop
 |0,_,_=>False
 |d+1,t,p=>pOwn w t p∧p.kids.length=(pTypes w t p).length∧∀i,0≤i→i<(pTypes w t p).length→∀(h:i<(pTypes w t p).length) (h':i<p.kids.length),pShape w d (pTypes w t p)[i] p.kids[i]
theorem P.spec_l3Shape (w:List Data)(hw:worldOk w):∀(d:Nat) (t:Ty) (p:Pattern),typeOk w t→d≤10→F.f62 w t p d=some (dec (pShape w d t p))
 |0,t,p,ht,hd=>by rw[F.f62,if_pos (by omega),dec_not (by simp[pShape])]
 |d+1,t,p,ht,hd=>by
  rw[F.f62,if_neg (by omega),P.spec_l3Own w hw t (tOk_of ht.1)]
  simp only[Option.bind_eq_bind,Option.bind_some]
  by_cases ho:pOwn w t p
  ·rw[if_pos (dec_of ho),P.spec_l3Types w hw t (tOk_of ht.1) p ho]
   simp only[Option.bind_some]
   have hts:=pTypes_tOk hw ht ho
   by_cases h4:p.kids.length=(pTypes w t p).length
   ·rw[if_pos h4,allN (n:=(pTypes w t p).length) (r:=false) (Q:=fun i=>∀(h:i<(pTypes w t p).length) (h':i<p.kids.length),pShape w d (pTypes w t p)[i] p.kids[i]) (L:=F.f63 w p ((d+1:Nat):Int) (pTypes w t p))
     (fun k hk=>by rw[F.f63,if_neg (by omega)])
     (fun k hk hq=>by
      have hk':k<p.kids.length:=by omega
      rw[F.f63,if_pos hk,List.getElem?_eq_getElem hk,List.getElem?_eq_getElem hk']
      simp only[Option.bind_eq_bind,Option.bind_some]
      rw[wrap_in (by omega) (by omega),show((d+1:Nat):Int) -1=(d:Int)from by omega,P.spec_l3Shape w hw d _ _ (hts _ (List.getElem_mem hk)) (by omega)]
      simp only[Option.bind_some]
      rw[if_pos (dec_of (hq hk hk'))])
     (fun k hk hq=>by
      have hk':k<p.kids.length:=by omega
      rw[F.f63,if_pos hk,List.getElem?_eq_getElem hk,List.getElem?_eq_getElem hk']
      simp only[Option.bind_eq_bind,Option.bind_some]
      rw[wrap_in (by omega) (by omega),show((d+1:Nat):Int) -1=(d:Int)from by omega,P.spec_l3Shape w hw d _ _ (hts _ (List.getElem_mem hk)) (by omega)]
      simp only[Option.bind_some]
      rw[if_neg (by rw[dec_not fun h=>hq fun _ _=>h];simp)]) _ 0 rfl]
    simp only[Option.bind_some]
    by_cases hall:∀i,0≤i→i<(pTypes w t p).length→∀(h:i<(pTypes w t p).length) (h':i<p.kids.length),pShape w d (pTypes w t p)[i] p.kids[i]
    ·rw[if_pos (dec_of hall),dec_of ⟨ho,h4,hall⟩]
    ·rw[if_neg (by rw[dec_not hall];simp),dec_not fun h=>hall h.2.2]
   ·rw[if_neg h4,dec_not fun h=>h4 h.2.1]
  ·rw[if_neg (by rw[dec_not ho];simp),dec_not fun h=>ho h.1]
theorem P.pat_count (v:Pattern)(hv:v.wt≤1048576):∀(most:Nat),most≤60→∃c:Nat,F.f64 v most=some (c:Int)∧1≤c∧c≤1+v.wt∧(1+v.wt≤most→c=1+v.wt)∧(most<1+v.wt→most<c):=by
 induction v using Pattern.ind with
 |_ v ih=>
  intro most hm
  have hw:=v.wt_eq
  have key:∀(m i:Nat) (n:Nat),v.kids.length-i=m→1≤n→n+((v.kids.drop i).map fun k=>1+k.wt).sum≤1+v.wt→
    ∃c:Nat,F.f65 v most n i=some (c:Int)∧n≤c∧c≤n+((v.kids.drop i).map fun k=>1+k.wt).sum∧(n+((v.kids.drop i).map fun k=>1+k.wt).sum≤most→c=n+((v.kids.drop i).map fun k=>1+k.wt).sum)∧(most<n+((v.kids.drop i).map fun k=>1+k.wt).sum→most<c):=by
   intro m
   induction m with
   |zero=>
    intro i n hmi hn hb
    rw[F.f65,if_neg (by omega),List.drop_eq_nil_of_le (by omega)]
    exact⟨n,rfl,by omega,by simp,by simp,by simp⟩
   |succ m ih2=>
    intro i n hmi hn hb
    have hi:i<v.kids.length:=by omega
    rw[List.drop_eq_getElem_cons hi]at hb ⊢
    simp only[List.map_cons,List.sum_cons]at hb ⊢
    rw[F.f65,if_pos hi]
    by_cases hle:n≤most
    ·rw[if_pos (by omega),List.getElem?_eq_getElem hi]
     simp only[Option.bind_eq_bind,Option.bind_some]
     have hk:v.kids[i].wt≤1048576:=by omega
     obtain⟨c,h1,h2,h3,h4,h5⟩:=ih v.kids[i] (List.getElem_mem hi) hk (most-n) (by omega)
     rw[wrap_in (by omega) (by omega),show((most:Int) - (n:Int))=((most-n:Nat):Int)from by omega,h1]
     simp only[Option.bind_some]
     rw[wrap_in (by omega) (by omega),show((n:Int)+(c:Int))=((n+c:Nat):Int)from by omega]
     obtain⟨c',g1,g2,g3,g4,g5⟩:=ih2 (i+1) (n+c) (by omega) (by omega) (by omega)
     refine⟨c',g1,by omega,by omega,fun h=> ?_,fun h=> ?_⟩
     ·have:=h4 (by omega)
      have:=g4 (by omega)
      omega
     ·by_cases hx:1+v.kids[i].wt≤most-n
      ·have:=h4 hx
       exact g5 (by omega)
      ·have:=h5 (by omega)
       omega
    ·rw[if_neg (by omega)]
     exact⟨n,rfl,by omega,by omega,fun h=>by omega,fun h=>by omega⟩
  have hs:((v.kids.drop 0).map fun k=>1+k.wt).sum=v.wt:=by
   rw[List.drop_zero,hw]
   have:∀l:List Pattern,(l.map fun k=>1+k.wt).sum=wtL Pattern.wt l:=by
    intro l
    induction l with
    |nil=>rfl
    |cons a r ih=>simp[ih]
   exact this _
  obtain⟨c,h1,h2,h3,h4,h5⟩:=key _ 0 1 rfl (by omega) (by omega)
  rw[hs]at h3 h4 h5
  unfold F.f64
  have h1':F.f65 v most 1 0=some (c:Int):=h1
  rw[h1']
  exact⟨c,rfl,by omega,h3,h4,h5⟩
theorem wt_pkids (v:Pattern):v.wt=((v.kids.drop 0).map fun k=>1+k.wt).sum:=by
 rw[List.drop_zero,v.wt_eq]
 have:∀l:List Pattern,(l.map fun k=>1+k.wt).sum=wtL Pattern.wt l:=by
  intro l
  induction l with
  |nil=>rfl
  |cons a r ih=>simp[ih]
 exact(this _).symm
noncomputable def pVars (w:List Data):Nat→Ty→Pattern→List VarType
 |0,_,_=>[]
 |d+1,t,p=>(if p.op=2∨p.op=6 then[⟨p.var,t⟩]else[])++(((pTypes w t p).zip p.kids).take (if p.op=5 then 1 else p.kids.length)).flatMap fun x=>pVars w d x.1 x.2
theorem flatV_len {f:Ty×Pattern→List VarType}(hf:∀x,(f x).length≤1+x.2.wt):∀(ts:List Ty) (ks:List Pattern) (n:Nat),(((ts.zip ks).take n).flatMap f).length≤wtL Pattern.wt ks
 | [],ks,n=>by simp
 |t::ts,[],n=>by simp
 |t::ts,k::ks,0=>by simp
 |t::ts,k::ks,n+1=>by
  have h1:=flatV_len hf ts ks n
  have h2:=hf (t,k)
  simp only[List.zip_cons_cons,List.take_succ_cons,List.flatMap_cons,List.length_append,wtL_cons]at h1 h2 ⊢
  omega
theorem pVars_len (w:List Data):∀(d:Nat) (t:Ty) (p:Pattern),(pVars w d t p).length≤1+p.wt
 |0,t,p=>by simp[pVars]
 |d+1,t,p=>by
  have:=flatV_len (f:=fun x=>pVars w d x.1 x.2) (fun x=>pVars_len w d x.1 x.2) (pTypes w t p) p.kids (if p.op=5 then 1 else p.kids.length)
  rw[pVars,List.length_append,p.wt_eq]
  have h1:(if p.op=2∨p.op=6 then[(⟨p.var,t⟩:VarType)]else[]).length≤1:=by split<;>simp
  omega
theorem vars_loop {w:List Data}{p:Pattern}{ts:List Ty}(hl:p.kids.length=ts.length)(h5:p.op≠5){f:Ty×Pattern→List VarType}{L:List VarType→Nat→Option (List VarType)}
  (hL:∀out i,L out i=if i<ts.length then(if i=0 then ts[i]? >>=fun x=>p.kids[i]? >>=fun y=>F.f66 out w x y>>=fun v=>L v (i+1)else(if p.op=5 then some out else ts[i]? >>=fun x=>p.kids[i]? >>=fun y=>F.f66 out w x y>>=fun v=>L v (i+1)))else some out)
  (hf:∀x:Ty×Pattern,(f x).length≤1+x.2.wt)
  (ih:∀i (h:i<ts.length) (h':i<p.kids.length) (out:List VarType),out.length+(1+p.kids[i].wt)≤67108864→F.f66 out w ts[i] p.kids[i]=some (out++f (ts[i],p.kids[i]))):
  ∀(m i:Nat) (out:List VarType),ts.length-i=m→out.length+((p.kids.drop i).map fun k=>1+k.wt).sum≤67108864→L out i=some (out++((ts.zip p.kids).drop i).flatMap f):=by
 intro m
 induction m with
 |zero=>
  intro i out hm hb
  rw[hL,if_neg (by omega),List.drop_eq_nil_of_le (by simp;omega)];simp
 |succ m ihm=>
  intro i out hm hb
  have hi:i<ts.length:=by omega
  have hi':i<p.kids.length:=by omega
  rw[List.drop_eq_getElem_cons hi']at hb
  simp only[List.map_cons,List.sum_cons]at hb
  have e:(ts[i]? >>=fun x=>p.kids[i]? >>=fun y=>F.f66 out w x y>>=fun v=>L v (i+1))=some (out++((ts.zip p.kids).drop i).flatMap f):=by
   rw[List.getElem?_eq_getElem hi,List.getElem?_eq_getElem hi']
   simp only[Option.bind_eq_bind,Option.bind_some]
   rw[ih i hi hi' out (by omega)]
   simp only[Option.bind_some]
   have:=hf (ts[i],p.kids[i])
   simp only at this
   rw[ihm (i+1) _ (by omega) (by rw[List.length_append];omega),List.drop_eq_getElem_cons (l:=ts.zip p.kids) (i:=i) (by simp;omega)]
   simp
  rw[hL,if_pos hi,if_neg h5,e]
  split<;>rfl
theorem pOwn_types {w:List Data}{t:Ty}{p:Pattern}(h:pOwn w t p)(h5:p.op=5):pTypes w t p=[t,t]:=by unfold pTypes;rw[if_neg (by omega),if_pos h5]
theorem P.spec_l3Vars (w:List Data)(hw:worldOk w):∀(d:Nat) (t:Ty) (p:Pattern) (out:List VarType),typeOk w t→pShape w d t p→out.length+(1+p.wt)≤67108864→F.f66 out w t p=some (out++pVars w d t p)
 |0,t,p,out,ht,hs,hb=>hs.elim
 |d+1,t,p,out,ht,hs,hb=>by
  obtain⟨ho,hl,hk⟩:=hs
  have hts:=pTypes_tOk hw ht ho
  have hsum:=wt_pkids p
  have ih:∀i (h:i<(pTypes w t p).length) (h':i<p.kids.length) (out:List VarType),out.length+(1+p.kids[i].wt)≤67108864→F.f66 out w (pTypes w t p)[i] p.kids[i]=some (out++(fun x:Ty×Pattern=>pVars w d x.1 x.2) ((pTypes w t p)[i],p.kids[i])):=
   fun i h h' out hb=>P.spec_l3Vars w hw d _ _ out (hts _ (List.getElem_mem h)) (hk i (by omega) h h h') hb
  have hf:∀x:Ty×Pattern,((fun x:Ty×Pattern=>pVars w d x.1 x.2) x).length≤1+x.2.wt:=fun x=>pVars_len w d x.1 x.2
  have full:∀n,p.kids.length≤n→((pTypes w t p).zip p.kids).take n=(pTypes w t p).zip p.kids:=fun n hn=>List.take_of_length_le (by simp;omega)
  rw[F.f66,P.spec_l3Types w hw t (tOk_of ht.1) p ho]
  simp only[Option.bind_eq_bind,Option.bind_some]
  by_cases h2:p.op=2
  ·rw[if_pos h2,if_pos (by omega),vars_loop (f:=fun x=>pVars w d x.1 x.2) (L:=F.f69 w p (pTypes w t p)) hl (by omega) (fun out i=>by rw[F.f69]) hf ih _ 0 _ rfl (by simp at hsum ⊢;omega)]
   simp only[Option.bind_some]
   rw[pVars,if_pos (.inl h2),if_neg (by omega),full _ (Nat.le_refl _)];simp
  ·rw[if_neg h2]
   by_cases h6:p.op=6
   ·rw[if_pos h6,if_pos (by omega),vars_loop (f:=fun x=>pVars w d x.1 x.2) (L:=F.f67 w p (pTypes w t p)) hl (by omega) (fun out i=>by rw[F.f67]) hf ih _ 0 _ rfl (by simp at hsum ⊢;omega)]
    simp only[Option.bind_some]
    rw[pVars,if_pos (.inr h6),if_neg (by omega),full _ (Nat.le_refl _)];simp
   ·rw[if_neg h6]
    by_cases h5:p.op=5
    ·have et:=pOwn_types ho h5
     rw[et]at hl
     have h0:0<p.kids.length:=by rw[hl];simp
     have h0':0<(pTypes w t p).length:=by rw[et];simp
     have hw0:1+p.kids[0].wt≤p.wt:=by
      rw[hsum,List.drop_zero]
      obtain⟨a,r,e⟩:=List.exists_cons_of_length_pos h0
      simp[e]
     have e0:=ih 0 h0' h0 out (by omega)
     rw[F.f68,if_pos h0',if_pos rfl,List.getElem?_eq_getElem h0',List.getElem?_eq_getElem h0]
     simp only[Option.bind_eq_bind,Option.bind_some]
     rw[e0]
     simp only[Option.bind_some]
     rw[F.f68,if_pos (by rw[et];simp),if_neg (by omega),if_pos h5]
     simp only[Option.bind_some]
     rw[pVars,if_neg (by omega),if_pos h5]
     have e1:((pTypes w t p).zip p.kids).take 1=[((pTypes w t p)[0],p.kids[0])]:=by
      obtain⟨a,r,e⟩:=List.exists_cons_of_length_pos h0
      obtain⟨b,r',e'⟩:=List.exists_cons_of_length_pos h0'
      simp[e,e']
     rw[e1];simp
    ·rw[vars_loop (f:=fun x=>pVars w d x.1 x.2) (L:=F.f68 w p (pTypes w t p)) hl h5 (fun out i=>by rw[F.f68]) hf ih _ 0 _ rfl (by simp at hsum ⊢;omega)]
     simp only[Option.bind_some]
     rw[pVars,if_neg (by omega),if_neg h5,full _ (Nat.le_refl _)];simp
def nodV (l:List VarType):Prop:=(l.map VarType.var).Nodup
def sameV (a b:List VarType):Prop:=a.length=b.length∧∀x,x∈a→x∈b
theorem nodV_iff (l:List VarType):nodV l↔∀i j (hi:i<l.length) (hj:j<l.length),i<j→l[i].var≠l[j].var:=by
 unfold nodV List.Nodup
 rw[List.pairwise_map,List.pairwise_iff_getElem]
theorem findV_none {l:List VarType}{n:Int}(h:findV l n= -1):∀x,x∈l→x.var≠n:=by
 unfold findV at h
 cases hf:fixN (fun x:VarType=>x.var=n) 0 l with
 |none=>exact fixN_none hf
 |some j=>rw[hf]at h;simp only at h;omega
theorem vt_eq {a b:VarType}(h:a.var=b.var)(h2:eq2 (a.type.data,a.type.index) (b.type.data,b.type.index)):a=b:=by
 obtain⟨v,d,i⟩:=a
 obtain⟨v',d',i'⟩:=b
 simp only[eq2]at h h2
 obtain⟨rfl,rfl⟩:=h2
 subst h;rfl
theorem P.spec_l3Linear_l2 (l:List VarType):F.f74 l 0=some (if dec (nodV l)=true then .go ()else .ret false):=by
 rw[allN (n:=l.length) (r:=false) (Q:=fun j=>∀h:j<l.length,findV l l[j].var=(j:Int)) (L:=F.f74 l) (fun k hk=>by rw[F.f74,if_neg (by omega)])
  (fun k hk hq=>by
   rw[F.f74,if_pos hk,List.getElem?_eq_getElem hk]
   simp only[Option.bind_eq_bind,Option.bind_some,P.spec_l3Find]
   rw[if_pos (hq hk)])
  (fun k hk hq=>by
   rw[F.f74,if_pos hk,List.getElem?_eq_getElem hk]
   simp only[Option.bind_eq_bind,Option.bind_some,P.spec_l3Find]
   rw[if_neg fun h=>hq fun _=>h]) _ 0 rfl]
 congr 2
 rw[dec_congr]
 rw[nodV_iff]
 constructor
 ·intro h i j hi hj hij
  exact(findV_self l j hj).1 (h j (by omega) hj hj) i hi hij
 ·intro h j _ _ hj
  exact(findV_self l j hj).2 fun i hi hij=>h i j hi hj hij
theorem P.spec_l3Alike (a b:List VarType)(hb:nodV b):F.f73 a b=some (dec (sameV a b)):=by
 unfold F.f73
 have step:∀k (hk:k<a.length),F.f72 a b k=if dec (a[k]∈b)=true then F.f72 a b (k+1)else some (.ret false):=by
  intro k hk
  rw[F.f72,if_pos hk,List.getElem?_eq_getElem hk]
  simp only[Option.bind_eq_bind,Option.bind_some,P.spec_l3Find]
  rcases findV_cases b a[k].var with h|⟨j,hj,h1,h2,h3⟩
  ·rw[if_pos (by omega),if_neg]
   rw[dec_not fun hm=>findV_none h _ hm rfl];simp
  ·rw[if_neg (by omega),h1,at_nat,List.getElem?_eq_getElem hj]
   simp only[Option.bind_some]
   by_cases he:eq2 (b[j].type.data,b[j].type.index) (a[k].type.data,a[k].type.index)
   ·rw[if_pos (dec_of he),if_pos (dec_of (by rw[←vt_eq h2 he];exact List.getElem_mem hj))]
   ·rw[if_neg (by rw[dec_not he];simp),if_neg]
    rw[dec_not fun hm=> ?_];· simp
    obtain⟨i,hi,e⟩:=List.getElem_of_mem hm
    have hij:i=j:=by
     rw[nodV_iff]at hb
     rcases Nat.lt_trichotomy i j with hlt|heq|hlt
     ·exact absurd (by rw[e,h2]) (hb i j hi hj hlt)
     ·exact heq
     ·exact absurd (by rw[e,h2]) (hb j i hj hi hlt)
    subst hij
    exact he (by rw[e];exact⟨rfl,rfl⟩)
 rw[allN (n:=a.length) (r:=false) (Q:=fun j=>∀h:j<a.length,a[j]∈b) (L:=F.f72 a b) (fun k hk=>by rw[F.f72,if_neg (by omega)])
  (fun k hk hq=>by rw[step k hk,if_pos (dec_of (hq hk))])
  (fun k hk hq=>by rw[step k hk,if_neg (by rw[dec_not fun h=>hq fun _=>h];simp)]) _ 0 rfl]
 simp only[Option.bind_eq_bind,Option.bind_some]
 by_cases h:∀j,0≤j→j<a.length→∀h:j<a.length,a[j]∈b
 ·rw[if_pos (dec_of h),←dec_eq]
  have hx:∀x,x∈a→x∈b:=fun x hx=>by obtain⟨j,hj,e⟩:=List.getElem_of_mem hx;rw[←e];exact h j (by omega) hj hj
  show some (dec (a.length=b.length))=some (dec (sameV a b))
  congr 1;exact dec_congr ⟨fun hl=>⟨hl,hx⟩,fun hs=>hs.1⟩
 ·rw[if_neg (by rw[dec_not h];simp),dec_not fun hs=>h fun j _ hj _=>hs.2 _ (List.getElem_mem hj)]
theorem vt_eq3 {a b:VarType}:eq3 (a.var,a.type.data,a.type.index) (b.var,b.type.data,b.type.index)↔a=b:=by
 obtain⟨v,d,i⟩:=a
 obtain⟨v',d',i'⟩:=b
 simp[eq3]
theorem P.slices_Contains_VarType (l:List VarType)(n:VarType):F.f145 l n=some (dec (n∈l)):=by
 unfold F.f145 F.f144
 rw[findG (a:=l) (p:=fun x=>n=x) (L:=F.f143 l n) (fun k hk=>by rw[F.f143,if_neg (by omega)])
  (fun k hk hp=>by
   rw[F.f143,if_pos hk,List.getElem?_eq_getElem hk]
   simp only[Option.bind_eq_bind,Option.bind_some]
   rw[if_neg (by rw[dec_not fun h=>hp (vt_eq3.1 h)];simp)])
  (fun k hk hp=>by
   rw[F.f143,if_pos hk,List.getElem?_eq_getElem hk]
   simp only[Option.bind_eq_bind,Option.bind_some]
   rw[if_pos (dec_of (vt_eq3.2 hp))]) _ 0 rfl,List.drop_zero]
 cases h:fixN (fun x:VarType=>n=x) 0 l with
 |none=>
  simp only[Option.bind_eq_bind,Option.bind_some]
  rw[dec_not fun hm=>fixN_none h _ hm rfl];simp
 |some j=>
  obtain⟨_,h2,h3,_⟩:=fixN_some h
  simp only[Option.bind_eq_bind,Option.bind_some]
  rw[dec_of (by rw[h3];exact List.getElem_mem h2)];simp
theorem P.impl_sameVars (a b:List VarType):F.f150 a b=some (dec (sameV a b)):=by
 unfold F.f150
 by_cases hl:a.length=b.length
 ·rw[if_pos hl]
  unfold F.f149 F.f148
  have one:∀q,F.f146 q b=some (!dec (q∈b)):=by
   intro q;unfold F.f146;rw[P.slices_Contains_VarType];rfl
  rw[findG (a:=a) (p:=fun x=>¬x∈b) (L:=F.f147 a b) (fun k hk=>by rw[F.f147,if_neg (by omega)])
   (fun k hk hp=>by
    rw[F.f147,if_pos hk,List.getElem?_eq_getElem hk]
    simp only[Option.bind_eq_bind,Option.bind_some,one]
    rw[if_neg (by rw[dec_of (Classical.byContradiction hp)];simp)])
   (fun k hk hp=>by
    rw[F.f147,if_pos hk,List.getElem?_eq_getElem hk]
    simp only[Option.bind_eq_bind,Option.bind_some,one]
    rw[if_pos (by rw[dec_not hp];simp)]) _ 0 rfl,List.drop_zero]
  cases h:fixN (fun x:VarType=>¬x∈b) 0 a with
  |none=>
   simp only[Option.bind_eq_bind,Option.bind_some]
   rw[dec_of ⟨hl,fun x hx=>Classical.byContradiction (fixN_none h x hx)⟩];simp
  |some j=>
   obtain⟨_,h2,h3,_⟩:=fixN_some h
   simp only[Option.bind_eq_bind,Option.bind_some]
   rw[dec_not fun hs=>h3 (hs.2 _ (List.getElem_mem h2))];simp
 ·rw[if_neg hl,dec_not fun h=>hl h.1]
def pLin (w:List Data):Nat→Ty→Pattern→Prop
 |0,_,_=>False
 |d+1,t,p=>(∀i,0≤i→i<(pTypes w t p).length→∀(h:i<(pTypes w t p).length) (h':i<p.kids.length),pLin w d (pTypes w t p)[i] p.kids[i])∧
   if p.op=5 then(∀(h0:0<p.kids.length) (h1:1<p.kids.length),sameV (pVars w d t p.kids[0]) (pVars w d t p.kids[1]))else nodV (pVars w (d+1) t p)
theorem pVars_or {w:List Data}{d:Nat}{t:Ty}{p:Pattern}(ho:pOwn w t p)(h5:p.op=5)(h0:0<p.kids.length):pVars w (d+1) t p=pVars w d t p.kids[0]:=by
 have et:=pOwn_types ho h5
 rw[pVars,if_neg (by omega),if_pos h5,et]
 obtain⟨a,r,e⟩:=List.exists_cons_of_length_pos h0
 simp[e]
theorem pLin_nod {w:List Data}:∀{d:Nat} {t:Ty} {p:Pattern},pShape w d t p→pLin w d t p→nodV (pVars w d t p)
 |0,t,p,hs,hl=>hs.elim
 |d+1,t,p,hs,hl=>by
  obtain⟨ho,hlen,hk⟩:=hs
  obtain⟨h1,h2⟩:=hl
  by_cases h5:p.op=5
  ·have et:=pOwn_types ho h5
   have h0:0<p.kids.length:=by rw[hlen,et];simp
   have h0':0<(pTypes w t p).length:=by rw[et];simp
   rw[pVars_or ho h5 h0]
   have e0:(pTypes w t p)[0]=t:=by simp[et]
   have a:=hk 0 (Nat.le_refl _) h0' h0' h0
   have b:=h1 0 (Nat.le_refl _) h0' h0' h0
   rw[e0]at a b
   exact pLin_nod a b
  ·rw[if_neg h5]at h2;exact h2
theorem P.spec_l3Linear (w:List Data)(hw:worldOk w):∀(d:Nat) (t:Ty) (p:Pattern),typeOk w t→pShape w d t p→p.wt≤1048576→F.f75 w t p=some (dec (pLin w d t p))
 |0,t,p,ht,hs,hb=>hs.elim
 |d+1,t,p,ht,hs,hb=>by
  have hs':=hs
  obtain⟨ho,hl,hk⟩:=hs
  have hts:=pTypes_tOk hw ht ho
  have hsum:=p.wt_eq
  have hkw:∀k (h:k<p.kids.length),1+p.kids[k].wt≤p.wt:=fun k h=>by have:=wtL_mem Pattern.wt (List.getElem_mem h);omega
  have ih:∀k (h:k<(pTypes w t p).length) (h':k<p.kids.length),F.f75 w (pTypes w t p)[k] p.kids[k]=some (dec (pLin w d (pTypes w t p)[k] p.kids[k])):=
   fun k h h'=>P.spec_l3Linear w hw d _ _ (hts _ (List.getElem_mem h)) (hk k (by omega) h h h') (by have:=hkw k h';omega)
  rw[F.f75,P.spec_l3Types w hw t (tOk_of ht.1) p ho]
  simp only[Option.bind_eq_bind,Option.bind_some]
  rw[allN (n:=(pTypes w t p).length) (r:=false) (Q:=fun i=>∀(h:i<(pTypes w t p).length) (h':i<p.kids.length),pLin w d (pTypes w t p)[i] p.kids[i]) (L:=F.f76 w t p (pTypes w t p))
   (fun k hk=>by rw[F.f76,if_neg (by omega)])
   (fun k hk hq=>by
    have hk':k<p.kids.length:=by omega
    rw[F.f76,if_pos hk,List.getElem?_eq_getElem hk,List.getElem?_eq_getElem hk']
    simp only[Option.bind_eq_bind,Option.bind_some]
    rw[ih k hk hk']
    simp only[Option.bind_some]
    rw[if_pos (dec_of (hq hk hk'))])
   (fun k hk hq=>by
    have hk':k<p.kids.length:=by omega
    rw[F.f76,if_pos hk,List.getElem?_eq_getElem hk,List.getElem?_eq_getElem hk']
    simp only[Option.bind_eq_bind,Option.bind_some]
    rw[ih k hk hk']
    simp only[Option.bind_some]
    rw[if_neg (by rw[dec_not fun h=>hq fun _ _=>h];simp)]) _ 0 rfl]
  simp only[Option.bind_some]
  by_cases hall:∀i,0≤i→i<(pTypes w t p).length→∀(h:i<(pTypes w t p).length) (h':i<p.kids.length),pLin w d (pTypes w t p)[i] p.kids[i]
  ·rw[if_pos (dec_of hall)]
   simp only
   by_cases h5:p.op=5
   ·have et:=pOwn_types ho h5
    have h0:0<p.kids.length:=by rw[hl,et];simp
    have h1:1<p.kids.length:=by rw[hl,et];simp
    have h0':0<(pTypes w t p).length:=by rw[et];simp
    have h1':1<(pTypes w t p).length:=by rw[et];simp
    have e0:(pTypes w t p)[0]=t:=by simp[et]
    have e1:(pTypes w t p)[1]=t:=by simp[et]
    have a0:=hk 0 (Nat.le_refl _) h0' h0' h0
    have a1:=hk 1 (by omega) h1' h1' h1
    have b1:=hall 1 (by omega) h1' h1' h1
    rw[e0]at a0
    rw[e1]at a1 b1
    rw[if_pos h5,List.getElem?_eq_getElem h0,List.getElem?_eq_getElem h1]
    simp only[Option.bind_some]
    rw[P.spec_l3Vars w hw d t _ [] ht a0 (by have:=hkw 0 h0;simp;omega),P.spec_l3Vars w hw d t _ [] ht a1 (by have:=hkw 1 h1;simp;omega)]
    simp only[Option.bind_some,List.nil_append]
    rw[P.spec_l3Alike _ _ (pLin_nod a1 b1)]
    simp only[Option.bind_some]
    congr 1
    refine dec_congr ⟨fun h=>⟨hall,?_⟩,fun h=> ?_⟩
    ·rw[if_pos h5];exact fun _ _=>h
    ·have:=h.2;rw[if_pos h5]at this;exact this h0 h1
   ·rw[if_neg h5,P.spec_l3Vars w hw (d+1) t p [] ht hs' (by simp;omega)]
    simp only[Option.bind_some,List.nil_append]
    rw[P.spec_l3Linear_l2]
    simp only[Option.bind_some]
    by_cases hn:nodV (pVars w (d+1) t p)
    ·rw[if_pos (dec_of hn),dec_of ⟨hall,by rw[if_neg h5];exact hn⟩]
    ·rw[if_neg (by rw[dec_not hn];simp),dec_not fun h=>hn (by have:=h.2;rwa[if_neg h5]at this)]
  ·rw[if_neg (by rw[dec_not hall];simp),dec_not fun h=>hall h.1]
theorem zip_flat {f:Ty×Pattern→List VarType}{x:VarType}:∀{ts:List Ty} {ks:List Pattern} {n:Nat},x∈(((ts.zip ks).take n).flatMap f)→∃i,∃(h:i<ts.length) (h':i<ks.length),x∈f (ts[i],ks[i])
 | [],ks,n,h=>by simp at h
 |t::ts,[],n,h=>by simp at h
 |t::ts,k::ks,0,h=>by simp at h
 |t::ts,k::ks,n+1,h=>by
  simp only[List.zip_cons_cons,List.take_succ_cons,List.flatMap_cons,List.mem_append]at h
  rcases h with h|h
  ·exact⟨0,by simp,by simp,by simpa using h⟩
  ·obtain⟨i,h1,h2,h3⟩:=zip_flat h
   exact⟨i+1,by simpa using h1,by simpa using h2,by simpa using h3⟩
theorem pVars_ok {w:List Data}(hw:worldOk w):∀{d:Nat} {t:Ty} {p:Pattern},typeOk w t→pShape w d t p→∀x,x∈pVars w d t p→0≤x.var∧x.var≤5∧typeOk w x.type
 |0,t,p,ht,hs=>hs.elim
 |d+1,t,p,ht,hs=>by
  obtain⟨ho,hl,hk⟩:=hs
  intro x hx
  rw[pVars,List.mem_append]at hx
  rcases hx with hx|hx
  ·split at hx
   ·next h=>
    simp at hx;subst hx
    unfold pOwn at ho
    refine⟨?_,?_,ht⟩<;>simp only<;>omega
   ·cases hx
  ·obtain⟨i,h,h',hm⟩:=zip_flat hx
   exact pVars_ok hw (pTypes_tOk hw ht ho _ (List.getElem_mem h)) (hk i (by omega) h h h') x hm
theorem metG {R:Type}{vs:List VarType}{r:R}{M:(Nat→Bool)→Nat→Option (Lo R Unit)}(hv:∀x,x∈vs→0≤x.var∧x.var≤5)
  (hM:∀s i,M s i=if i<vs.length then vs[i]? >>=fun x=>if 0≤x.var∧x.var.toNat<6 then(if s x.var.toNat=true then some (.ret r)else M (updF s x.var.toNat true) (i+1))else none else some (.go ())):
  ∀(m i:Nat) (s:Nat→Bool),vs.length-i=m→M s i=some (if dec (nodV (vs.drop i)∧∀x,x∈vs.drop i→s x.var.toNat=false)=true then .go ()else .ret r):=by
 intro m
 induction m with
 |zero=>
  intro i s hm
  rw[hM,if_neg (by omega),List.drop_eq_nil_of_le (by omega),if_pos (dec_of ⟨by simp[nodV],by simp⟩)]
 |succ m ih=>
  intro i s hm
  have hi:i<vs.length:=by omega
  have hr:=hv _ (List.getElem_mem hi)
  rw[hM,if_pos hi,List.getElem?_eq_getElem hi]
  simp only[Option.bind_eq_bind,Option.bind_some]
  rw[if_pos (by omega),List.drop_eq_getElem_cons hi]
  by_cases h:s vs[i].var.toNat=true
  ·rw[if_pos h,if_neg]
   rw[dec_not fun hh=> ?_];· simp
   have:=hh.2 vs[i] (List.mem_cons_self ..)
   rw[h]at this;cases this
  ·rw[if_neg h,ih (i+1) _ (by omega)]
   congr 2
   rw[dec_congr]
   have hs:s vs[i].var.toNat=false:=by simpa using h
   constructor
   ·rintro⟨h1,h2⟩
    refine⟨?_,fun x hx=> ?_⟩
    ·unfold nodV at h1 ⊢
     rw[List.map_cons,List.nodup_cons]
     refine⟨fun hm=> ?_,h1⟩
     obtain⟨y,hy,e⟩:=List.mem_map.1 hm
     have:=h2 y hy
     rw[e]at this
     simp[updF]at this
    ·rcases List.mem_cons.1 hx with rfl|hx
     ·exact hs
     ·have:=h2 x hx
      unfold updF at this
      split at this
      ·cases this
      ·exact this
   ·rintro⟨h1,h2⟩
    unfold nodV at h1 ⊢
    rw[List.map_cons,List.nodup_cons]at h1
    refine⟨h1.2,fun x hx=> ?_⟩
    unfold updF
    have hx':=hv x (List.mem_of_mem_drop hx)
    rw[if_neg fun e=>h1.1 (List.mem_map.2 ⟨x,hx,by omega⟩)]
    exact h2 x (List.mem_cons_of_mem _ hx)
abbrev pKid (w:List Data)(d:Nat)(ts:List Ty)(ks:List Pattern)(i:Nat):Prop:=∀j,i≤j→j<ts.length→∀(h:j<ts.length) (h':j<ks.length),pShape w d ts[j] ks[j]∧pLin w d ts[j] ks[j]
def pscanned (w:List Data)(d:Nat)(t:Ty)(p:Pattern)(count:Nat)(vs:List VarType)(b:Bool)(c:Nat):Prop:=
 (b=true↔pShape w d t p∧pLin w d t p∧count+(1+p.wt)≤60)∧(b=true→c=count+(1+p.wt)∧vs=pVars w d t p)
theorem P.scan_kids (w:List Data)(d:Nat)(hd:d+1≤10)(p:Pattern)(hp:p.wt≤1048576)(ts:List Ty)(hl:ts.length=p.kids.length)(hts:∀a,a∈ts→typeOk w a)(h5:p.op≠5)
  (L:Int→List VarType→Nat→Option (Lo ((List VarType)×Bool×Int) (Int×(List VarType))))
  (hL:∀z vars i,L z vars i=if i<p.kids.length then p.kids[i]? >>=fun x=>ts[i]? >>=fun y=>F.f154 w y x (IntKind.i64.wrap (((11- (d+1):Nat):Int)+1)) z>>=fun r=>if r.2.1=true then(if p.op=5 then(if i=1 then F.f150 vars r.1>>=fun b=>if b=true then L r.2.2 vars (i+1)else some (.ret ([],false,r.2.2))else(if vars.length+r.1.length≤67108864 then L r.2.2 (vars++r.1) (i+1)else none))else(if vars.length+r.1.length≤67108864 then L r.2.2 (vars++r.1) (i+1)else none))else some (.ret ([],false,r.2.2))else some (.go (z,vars)))
  (ih:∀(t:Ty) (x:Pattern) (count:Nat),typeOk w t→x.wt≤1048576→count≤60→∃vs b c,F.f154 w t x ((11-d:Nat):Int) (count:Int)=some (vs,b,((c:Nat):Int))∧pscanned w d t x count vs b c):
  ∀(m i z:Nat) (vars:List VarType),p.kids.length-i=m→z≤60→vars.length+((p.kids.drop i).map fun k=>1+k.wt).sum≤67108864→∃o,L z vars i=some o∧
   match o with
   | .ret (vs,b,c)=>b=false∧∃c':Nat,c=(c':Int)∧¬(pKid w d ts p.kids i∧z+((p.kids.drop i).map fun k=>1+k.wt).sum≤60)
   | .go (c,vs)=>c=((z+((p.kids.drop i).map fun k=>1+k.wt).sum:Nat):Int)∧vs=vars++((ts.zip p.kids).drop i).flatMap (fun x=>pVars w d x.1 x.2)∧pKid w d ts p.kids i∧z+((p.kids.drop i).map fun k=>1+k.wt).sum≤60:=by
 intro m
 induction m with
 |zero=>
  intro i z vars hm hz hb
  rw[hL,if_neg (by omega)]
  refine⟨_,rfl,?_⟩
  rw[List.drop_eq_nil_of_le (by omega),List.drop_eq_nil_of_le (by simp;omega)]
  exact⟨by simp,by simp,fun j h1 h2=>by omega,by simpa using hz⟩
 |succ m ihm=>
  intro i z vars hm hz hb
  have hi:i<p.kids.length:=by omega
  have hi':i<ts.length:=by omega
  have hkw:=wtL_mem Pattern.wt (List.getElem_mem hi)
  have hpw:=p.wt_eq
  rw[List.drop_eq_getElem_cons hi]at hb ⊢
  simp only[List.map_cons,List.sum_cons]at hb ⊢
  rw[hL,if_pos hi,List.getElem?_eq_getElem hi,List.getElem?_eq_getElem hi']
  simp only[Option.bind_eq_bind,Option.bind_some]
  rw[wrap_in (by omega) (by omega),show(((11- (d+1):Nat):Int)+1)=((11-d:Nat):Int)from by omega]
  obtain⟨vs,b,c,h1,h2,h3⟩:=ih ts[i] p.kids[i] z (hts _ (List.getElem_mem hi')) (by omega) hz
  rw[h1]
  simp only[Option.bind_some]
  cases b with
  |true=>
   rw[if_pos rfl,if_neg h5]
   obtain⟨hc,hv⟩:=h3 rfl
   obtain⟨hp1,hp2,hle⟩:=h2.1 rfl
   have hvl:=pVars_len w d ts[i] p.kids[i]
   rw[←hv]at hvl
   rw[if_pos (by omega)]
   obtain⟨o,g1,g2⟩:=ihm (i+1) c (vars++vs) (by omega) (by omega) (by rw[List.length_append];omega)
   refine⟨o,g1,?_⟩
   cases o with
   |ret r=>
    obtain⟨vs',b',c'⟩:=r
    obtain⟨q1,c2,q2,q3⟩:=g2
    exact⟨q1,c2,q2,fun hh=>q3 ⟨fun j a b e f=>hh.1 j (by omega) b e f,by omega⟩⟩
   |go r=>
    obtain⟨c2,vs2⟩:=r
    obtain⟨q1,q2,q3,q4⟩:=g2
    refine⟨by rw[q1];congr 1;omega,?_,fun j a b e f=> ?_,by omega⟩
    ·rw[q2,List.drop_eq_getElem_cons (l:=ts.zip p.kids) (i:=i) (by simp;omega),hv];simp
    ·by_cases hj:i=j
     ·subst hj;exact⟨hp1,hp2⟩
     ·exact q3 j (by omega) b e f
  |false=>
   rw[if_neg (by simp)]
   refine⟨_,rfl,rfl,c,rfl,fun hh=> ?_⟩
   have hk:=hh.1 i (Nat.le_refl _) hi' hi' hi
   have:=h2.2 ⟨hk.1,hk.2,by omega⟩
   cases this
theorem P.patternScan (w:List Data)(hw:worldOk w):∀(d:Nat) (t:Ty) (p:Pattern) (count:Nat),d≤10→typeOk w t→p.wt≤1048576→count≤60→
  ∃vs b c,F.f154 w t p ((11-d:Nat):Int) (count:Int)=some (vs,b,((c:Nat):Int))∧pscanned w d t p count vs b c
 |d,t,p,count,hd,ht,hp,hc=>by
  have e1:IntKind.i64.wrap ((count:Int)+1)=((count+1:Nat):Int):=by rw[wrap_in (by omega) (by omega)];omega
  have no:∀(h:¬(pShape w d t p∧pLin w d t p∧count+(1+p.wt)≤60)) (c:Nat),∃vs b c',(some (([]:List VarType),false,(c:Int)):Option (List VarType×Bool×Int))=some (vs,b,((c':Nat):Int))∧pscanned w d t p count vs b c':=
   fun h c=>⟨[],false,c,rfl,⟨fun h=>(by cases h),fun hh=>absurd hh h⟩,fun h=>by cases h⟩
  rw[F.f154,e1]
  by_cases h60:60<((count+1:Nat):Int)
  ·rw[if_pos h60];exact no (fun h=>by omega) _
  rw[if_neg h60]
  match d,hd with
  |0,_=>
   rw[if_pos (by omega)]
   exact no (fun h=>h.1.elim) _
  |d+1,hd=>
   rw[if_neg (by omega)]
   obtain⟨ts,h1,h2⟩:=P.impl_shape w hw t (tOk_of ht.1) p
   rw[h1]
   simp only[Option.bind_eq_bind,Option.bind_some]
   by_cases hs:pOwn w t p∧p.kids.length=(pTypes w t p).length
   ·rw[if_pos (dec_of hs)]
    obtain⟨ho,hl⟩:=hs
    obtain rfl:=h2 ho
    have hts:=pTypes_tOk hw ht ho
    have hwt:=wt_pkids p
    have ihx:∀(t:Ty) (x:Pattern) (count:Nat),typeOk w t→x.wt≤1048576→count≤60→∃vs b c,F.f154 w t x ((11-d:Nat):Int) (count:Int)=some (vs,b,((c:Nat):Int))∧pscanned w d t x count vs b c:=
     fun t x c ht hx hc=>P.patternScan w hw d t x c (by omega) ht hx hc
    have shape_of:∀{i:Nat},pKid w d (pTypes w t p) p.kids 0→pShape w (d+1) t p:=fun h=>⟨ho,hl,fun i _ hi h1 h2=>(h i (by omega) hi h1 h2).1⟩
    by_cases h5:p.op=5
    ·rw[if_neg (by omega),if_neg (by omega)]
     have et:=pOwn_types ho h5
     have h0:0<p.kids.length:=by rw[hl,et];simp
     have h1':1<p.kids.length:=by rw[hl,et];simp
     have hl2:p.kids.length=2:=by rw[hl,et];rfl
     have e0:(pTypes w t p)[0]? =some t:=by rw[et];rfl
     have e1:(pTypes w t p)[1]? =some t:=by rw[et];rfl
     have hsum:p.wt=(1+p.kids[0].wt)+(1+p.kids[1].wt):=by
      have e:p.kids=[p.kids[0],p.kids[1]]:=List.ext_getElem (by simp[hl2]) (fun i h1 h2=>by
       have:i=0∨i=1:=by omega
       rcases this with rfl|rfl<;>rfl)
      rw[hwt,List.drop_zero]
      conv=>lhs;rw[e]
      simp
     have ed:IntKind.i64.wrap (((11- (d+1):Nat):Int)+1)=((11-d:Nat):Int):=by rw[wrap_in (by omega) (by omega)];omega
     obtain⟨v0,b0,c0,a1,a2,a3⟩:=ihx t p.kids[0] (count+1) ht (by omega) (by omega)
     have kid0:pShape w (d+1) t p→pLin w (d+1) t p→(pShape w d t p.kids[0]∧pLin w d t p.kids[0])∧(pShape w d t p.kids[1]∧pLin w d t p.kids[1])∧sameV (pVars w d t p.kids[0]) (pVars w d t p.kids[1]):=by
      rintro⟨_,_,hk⟩ ⟨q1,q2⟩
      rw[if_pos h5]at q2
      have x0':0<(pTypes w t p).length:=by rw[et];simp
      have x1':1<(pTypes w t p).length:=by rw[et];simp
      have y0:(pTypes w t p)[0]=t:=by simp[et]
      have y1:(pTypes w t p)[1]=t:=by simp[et]
      have k0:=hk 0 (Nat.le_refl _) x0' x0' h0
      have k1:=hk 1 (by omega) x1' x1' h1'
      have l0:=q1 0 (Nat.le_refl _) x0' x0' h0
      have l1:=q1 1 (by omega) x1' x1' h1'
      rw[y0]at k0 l0
      rw[y1]at k1 l1
      exact⟨⟨k0,l0⟩,⟨k1,l1⟩,q2 h0 h1'⟩
     rw[F.f156,if_pos h0,List.getElem?_eq_getElem h0,e0]
     simp only[Option.bind_eq_bind,Option.bind_some]
     rw[ed,a1]
     simp only[Option.bind_some]
     cases b0 with
     |false=>
      rw[if_neg (by simp)]
      simp only[Option.bind_some]
      exact no (fun h=>by
       have:=a2.2 ⟨(kid0 h.1 h.2.1).1.1,(kid0 h.1 h.2.1).1.2,by omega⟩
       cases this) _
     |true=>
      obtain⟨hc0,rfl⟩:=a3 rfl
      obtain⟨s0,l0,z0⟩:=a2.1 rfl
      have hv0:=pVars_len w d t p.kids[0]
      rw[if_pos rfl,if_pos h5,if_neg (by omega),if_pos (by simp;omega),F.f156,if_pos h1',List.getElem?_eq_getElem h1',e1]
      simp only[Option.bind_eq_bind,Option.bind_some]
      obtain⟨v1,b1,c1,g1,g2,g3⟩:=ihx t p.kids[1] c0 ht (by omega) (by omega)
      rw[ed,g1]
      simp only[Option.bind_some]
      cases b1 with
      |false=>
       rw[if_neg (by simp)]
       simp only[Option.bind_some]
       exact no (fun h=>by
        have:=g2.2 ⟨(kid0 h.1 h.2.1).2.1.1,(kid0 h.1 h.2.1).2.1.2,by omega⟩
        cases this) _
      |true=>
       obtain⟨hc1,rfl⟩:=g3 rfl
       obtain⟨s1,l1,z1⟩:=g2.1 rfl
       rw[if_pos rfl,if_pos h5,if_pos trivial,P.impl_sameVars]
       simp only[Option.bind_some,List.nil_append]
       by_cases hsv:sameV (pVars w d t p.kids[0]) (pVars w d t p.kids[1])
       ·rw[if_pos (dec_of hsv),F.f156,if_neg (by omega)]
        simp only[Option.bind_some]
        have kk:∀i,0≤i→i<(pTypes w t p).length→∀(h:i<(pTypes w t p).length) (h':i<p.kids.length),pShape w d (pTypes w t p)[i] p.kids[i]∧pLin w d (pTypes w t p)[i] p.kids[i]:=by
         intro i _ _ h h'
         have ei:(pTypes w t p)[i]=t:=by
          have:i=0∨i=1:=by omega
          rcases this with rfl|rfl<;>simp[et]
         rw[ei]
         have:i=0∨i=1:=by omega
         rcases this with rfl|rfl
         ·exact⟨s0,l0⟩
         ·exact⟨s1,l1⟩
        have sh:pShape w (d+1) t p:=⟨ho,hl,fun i a b c e=>(kk i a b c e).1⟩
        have li:pLin w (d+1) t p:=⟨fun i a b c e=>(kk i a b c e).2,by rw[if_pos h5];exact fun _ _=>hsv⟩
        have hnd:=pLin_nod sh li
        have hvk:=pVars_ok hw ht sh
        rw[pVars_or ho h5 h0]at hnd hvk
        rw[metG (vs:=pVars w d t p.kids[0]) (M:=F.f152 ((c1:Int),pVars w d t p.kids[0])) (r:=([],false,(c1:Int))) (fun x hx=>⟨(hvk x hx).1,(hvk x hx).2.1⟩) (fun s i=>by rw[F.f152]) _ 0 _ rfl,List.drop_zero,if_pos (dec_of ⟨hnd,fun _ _=>rfl⟩)]
        exact⟨_,true,c1,rfl,⟨fun _=>⟨sh,li,by omega⟩,fun _=>rfl⟩,fun _=>⟨by omega,(pVars_or ho h5 h0).symm⟩⟩
       ·rw[if_neg (by rw[dec_not hsv];simp)]
        simp only[Option.bind_some]
        exact no (fun h=>hsv (kid0 h.1 h.2.1).2.2) _
    ·have kidx:pShape w (d+1) t p→pLin w (d+1) t p→pKid w d (pTypes w t p) p.kids 0:=fun a b i hi hlt h h'=>⟨a.2.2 i hi hlt h h',b.1 i hi hlt h h'⟩
     have fin:∀(v00:List VarType) (hv00:v00.length≤1) (hv:v00=if p.op=2∨p.op=6 then[(⟨p.var,t⟩:VarType)]else[])
       (L:Int→List VarType→Nat→Option (Lo ((List VarType)×Bool×Int) (Int×(List VarType))))
       (hL:∀z vars i,L z vars i=if i<p.kids.length then p.kids[i]? >>=fun x=>(pTypes w t p)[i]? >>=fun y=>F.f154 w y x (IntKind.i64.wrap (((11- (d+1):Nat):Int)+1)) z>>=fun r=>if r.2.1=true then(if p.op=5 then(if i=1 then F.f150 vars r.1>>=fun b=>if b=true then L r.2.2 vars (i+1)else some (.ret ([],false,r.2.2))else(if vars.length+r.1.length≤67108864 then L r.2.2 (vars++r.1) (i+1)else none))else(if vars.length+r.1.length≤67108864 then L r.2.2 (vars++r.1) (i+1)else none))else some (.ret ([],false,r.2.2))else some (.go (z,vars)))
       (M:Int×List VarType→(Nat→Bool)→Nat→Option (Lo ((List VarType)×Bool×Int) Unit))
       (hM:∀q s i,M q s i=if i<q.2.length then q.2[i]? >>=fun x=>if 0≤x.var∧x.var.toNat<6 then(if s x.var.toNat=true then some (.ret ([],false,q.1))else M q (updF s x.var.toNat true) (i+1))else none else some (.go ())),
       ∃vs b c,((L ((count+1:Nat):Int) v00 0).bind fun o=>match o with
        | .ret r0=>some r0
        | .go s=>(M s (fun _=>false) 0).bind fun o=>match o with
         | .ret r0=>some r0
         | .go _=>some (s.2,true,s.1))=some (vs,b,((c:Nat):Int))∧pscanned w (d+1) t p count vs b c:=by
      intro v00 hv00 hv L hL M hM
      obtain⟨o,g1,g2⟩:=P.scan_kids w d hd p hp (pTypes w t p) hl.symm hts h5 L hL ihx _ 0 (count+1) v00 rfl (by omega) (by rw[←hwt];omega)
      rw[g1]
      simp only[Option.bind_some]
      rw[←hwt]at g2
      cases o with
      |ret r=>
       obtain⟨vs,b,c⟩:=r
       obtain⟨rfl,c',rfl,q3⟩:=g2
       exact⟨vs,false,c',rfl,⟨fun h=>(by cases h),fun hh=>absurd ⟨kidx hh.1 hh.2.1,by have:=hh.2.2;omega⟩ q3⟩,fun h=>by cases h⟩
      |go s=>
       obtain⟨c,vs⟩:=s
       obtain⟨rfl,q2,q3,q4⟩:=g2
       have hvs:vs=pVars w (d+1) t p:=by
        rw[q2,pVars,hv,if_neg h5,List.take_of_length_le (by simp;omega)];simp
       have sh:pShape w (d+1) t p:=⟨ho,hl,fun i a b c e=>(q3 i a b c e).1⟩
       have hvk:=pVars_ok hw ht sh
       rw[←hvs]at hvk
       dsimp only
       rw[metG (vs:=vs) (M:=M (((count+1+p.wt:Nat):Int),vs)) (r:=([],false,((count+1+p.wt:Nat):Int))) (fun x hx=>⟨(hvk x hx).1,(hvk x hx).2.1⟩) (fun s i=>by rw[hM]) _ 0 _ rfl,List.drop_zero]
       simp only[Option.bind_some]
       by_cases hn:nodV vs
       ·rw[if_pos (dec_of ⟨hn,fun _ _=>by first|rfl|trivial⟩)]
        exact⟨vs,true,count+1+p.wt,rfl,⟨fun _=>⟨sh,⟨fun i a b c e=>(q3 i a b c e).2,by rw[if_neg h5,←hvs];exact hn⟩,by omega⟩,fun _=>rfl⟩,fun _=>⟨by omega,hvs⟩⟩
       ·rw[if_neg (by rw[dec_not fun h=>hn h.1];simp)]
        exact no (fun h=>hn (by have:=h.2.1.2;rw[if_neg h5,←hvs]at this;exact this)) _
     by_cases h2:p.op=2
     ·rw[if_pos h2]
      exact fin [⟨p.var,t⟩] (by simp) (by rw[if_pos (.inl h2)]) (F.f157 w p ((11- (d+1):Nat):Int) (pTypes w t p,dec (pOwn w t p∧p.kids.length=(pTypes w t p).length))) (fun z vars i=>by rw[F.f157]) F.f153 (fun q s i=>by rw[F.f153])
     ·rw[if_neg h2]
      by_cases h6:p.op=6
      ·rw[if_pos h6]
       exact fin [⟨p.var,t⟩] (by simp) (by rw[if_pos (.inr h6)]) (F.f155 w p ((11- (d+1):Nat):Int) (pTypes w t p,dec (pOwn w t p∧p.kids.length=(pTypes w t p).length))) (fun z vars i=>by rw[F.f155]) F.f151 (fun q s i=>by rw[F.f151])
      ·rw[if_neg h6]
       exact fin [] (by simp) (by rw[if_neg (by omega)]) (F.f156 w p ((11- (d+1):Nat):Int) (pTypes w t p,dec (pOwn w t p∧p.kids.length=(pTypes w t p).length))) (fun z vars i=>by rw[F.f156]) F.f152 (fun q s i=>by rw[F.f152])
   ·rw[if_neg (by rw[dec_not hs];simp)]
    exact no (fun h=>hs ⟨h.1.1,h.1.2.1⟩) _
termination_by d=>d
def patOk (w:List Data)(t:Ty)(p:Pattern):Prop:=pShape w 10 t p∧pLin w 10 t p∧1+p.wt≤60
theorem P.spec_l3Is (w:List Data)(hw:worldOk w)(t:Ty)(ht:typeOk w t)(p:Pattern)(hp:p.wt≤1048576):F.f77 w t p=some (dec (patOk w t p)):=by
 unfold F.f77
 have e10:F.f62 w t p 10=some (dec (pShape w 10 t p)):=P.spec_l3Shape w hw 10 t p ht (by omega)
 rw[e10]
 simp only[Option.bind_eq_bind,Option.bind_some]
 by_cases h1:pShape w 10 t p
 ·rw[if_pos (dec_of h1)]
  obtain⟨c,g1,g2,g3,g4,g5⟩:=P.pat_count p hp 60 (by omega)
  have g1':F.f64 p 60=some (c:Int):=g1
  rw[g1']
  simp only[Option.bind_some]
  by_cases hc:1+p.wt≤60
  ·rw[if_pos (by have:=g4 hc;omega),P.spec_l3Linear w hw 10 t p ht h1 hp]
   simp only[Option.bind_some]
   congr 1;exact dec_congr ⟨fun h=>⟨h1,h,hc⟩,fun h=>h.2.1⟩
  ·rw[if_neg (by have:=g5 (by omega);omega),dec_not fun h=>hc h.2.2]
 ·rw[if_neg (by rw[dec_not h1];simp),dec_not fun h=>h1 h.1]
theorem P.impl_patternVars (w:List Data)(hw:worldOk w)(t:Ty)(ht:typeOk w t)(p:Pattern)(hp:p.wt≤1048576):∃vs,F.f158 w t p=some (vs,dec (patOk w t p))∧(patOk w t p→vs=pVars w 10 t p):=by
 unfold F.f158
 obtain⟨vs,b,c,g1,g2,g3⟩:=P.patternScan w hw 10 t p 0 (by omega) ht hp (by omega)
 have g1':F.f154 w t p 1 0=some (vs,b,(c:Int)):=g1
 rw[g1']
 simp only[Option.bind_eq_bind,Option.bind_some]
 have hb:b=dec (patOk w t p):=by
  cases b with
  |true=>rw[dec_of];obtain⟨a,b,c⟩:=g2.1 rfl;exact⟨a,b,by omega⟩
  |false=>rw[dec_not];intro h;have:=g2.2 ⟨h.1,h.2.1,by have:=h.2.2;omega⟩;cases this
 subst hb
 exact⟨vs,rfl,fun h=>(g3 (dec_of h)).2⟩
def gOk (g:Guard)(vs:List VarType):Prop:=(g.op=0∧g.var=0∧g.n=0)∨((g.op=1∨g.op=2)∧0≤g.n∧g.n≤9∧(⟨g.var,⟨-1,0⟩⟩:VarType)∈vs)
theorem P.impl_guardOk (g:Guard)(vs:List VarType):F.f159 g vs=some (dec (gOk g vs)):=by
 unfold F.f159
 simp only[P.within,P.slices_Contains_VarType,Option.bind_eq_bind,Option.bind_some]
 by_cases h0:g.op=0
 ·rw[if_pos h0];congr 1;refine dec_congr ?_;unfold gOk eq3;simp only;omega
 ·rw[if_neg h0]
  by_cases h1:1≤g.op∧g.op≤2
  ·rw[if_pos (dec_of h1)]
   by_cases h2:0≤g.n∧g.n≤9
   ·rw[if_pos (dec_of h2)];congr 1
    refine dec_congr ⟨fun h=>.inr ⟨by omega,h2.1,h2.2,h⟩,fun h=> ?_⟩
    rcases h with h|h
    ·omega
    ·exact h.2.2.2
   ·rw[if_neg (by rw[dec_not h2];simp),dec_not]
    rintro(h|h)
    ·omega
    ·exact h2 ⟨h.2.1,h.2.2.1⟩
  ·rw[if_neg (by rw[dec_not h1];simp),dec_not]
   rintro(h|h)
   ·omega
   ·omega
theorem P.spec_l4Guard (w:List Data)(g:Guard)(vs:List VarType)(hn:nodV vs)(ht:∀x,x∈vs→typeOk w x.type):F.f78 g vs=some (dec (gOk g vs)):=by
 unfold F.f78
 have key:g.op=1∨g.op=2→(if g.n<0 then some false else if 9<g.n then some false else(F.f71 vs g.var)>>=fun v21=>if 0≤v21 then(at? vs v21)>>=fun x25=>some (decide (x25.type.data=(-1)))else some false)=some (dec (gOk g vs)):=by
  intro hop
  by_cases a1:g.n<0
  ·rw[if_pos a1,dec_not];rintro(h|h)<;>omega
  rw[if_neg a1]
  by_cases a2:9<g.n
  ·rw[if_pos a2,dec_not];rintro(h|h)<;>omega
  rw[if_neg a2,P.spec_l3Find]
  simp only[Option.bind_eq_bind,Option.bind_some]
  rcases findV_cases vs g.var with h|⟨j,hj,h1,h2,h3⟩
  ·rw[if_neg (by omega),dec_not]
   rintro(h'|h')
   ·omega
   ·exact findV_none h _ h'.2.2.2 rfl
  ·rw[if_pos (by omega),h1,at_nat,List.getElem?_eq_getElem hj]
   simp only[Option.bind_some]
   rw[←dec_eq];congr 1
   refine dec_congr ⟨fun h=>.inr ⟨hop,by omega,by omega,?_⟩,fun h=> ?_⟩
   ·have hty:=ht _ (List.getElem_mem hj)
    have hi:vs[j].type.index=0:=by unfold typeOk argOk at hty;omega
    have:(⟨g.var,⟨-1,0⟩⟩:VarType)=vs[j]:=vt_eq (by simp[h2]) ⟨by simp[h],by simp[hi]⟩
    rw[this];exact List.getElem_mem hj
   ·rcases h with h|h
    ·omega
    ·obtain⟨i,hi,e⟩:=List.getElem_of_mem h.2.2.2
     have hij:i=j:=by
      rw[nodV_iff]at hn
      rcases Nat.lt_trichotomy i j with hlt|heq|hlt
      ·exact absurd (by rw[e,h2]) (hn i j hi hj hlt)
      ·exact heq
      ·exact absurd (by rw[e,h2]) (hn j i hj hi hlt)
     subst hij
     rw[e]
 by_cases h0:g.op=0
 ·rw[if_pos h0]
  by_cases h1:g.var=0
  ·rw[if_pos h1,←dec_eq];congr 1;refine dec_congr ⟨fun h=>.inl ⟨h0,h1,h⟩,fun h=> ?_⟩
   rcases h with h|h
   ·exact h.2.2
   ·omega
  ·rw[if_neg h1,dec_not];rintro(h|h)<;>omega
 ·rw[if_neg h0]
  by_cases h1:g.op=1
  ·rw[if_pos h1];exact key (.inl h1)
  ·rw[if_neg h1]
   by_cases h2:g.op=2
   ·rw[if_pos h2];exact key (.inr h2)
   ·rw[if_neg h2,dec_not];rintro(h|h)<;>omega
def clOk (w:List Data)(t:Ty)(c:Clause):Prop:=patOk w t c.pat∧gOk c.guard (pVars w 10 t c.pat)
theorem P.spec_l4Is (w:List Data)(hw:worldOk w)(t:Ty)(ht:typeOk w t)(c:Clause)(hp:c.pat.wt≤1048576):F.f79 w t c=some (dec (clOk w t c)):=by
 unfold F.f79
 rw[P.spec_l3Is w hw t ht _ hp]
 simp only[Option.bind_eq_bind,Option.bind_some]
 by_cases h:patOk w t c.pat
 ·rw[if_pos (dec_of h),P.spec_l3Vars w hw 10 t c.pat [] ht h.1 (by simp;omega)]
  simp only[Option.bind_some,List.nil_append]
  rw[P.spec_l4Guard w _ _ (pLin_nod h.1 h.2.1) (fun x hx=>(pVars_ok hw ht h.1 x hx).2.2)]
  simp only[Option.bind_some]
  congr 1;exact dec_congr ⟨fun g=>⟨h,g⟩,fun g=>g.2⟩
 ·rw[if_neg (by rw[dec_not h];simp),dec_not fun g=>h g.1]
theorem P.impl_clauseOk (w:List Data)(hw:worldOk w)(t:Ty)(ht:typeOk w t)(c:Clause)(hp:c.pat.wt≤1048576):F.f160 w t c=some (dec (clOk w t c)):=by
 unfold F.f160
 obtain⟨vs,h1,h2⟩:=P.impl_patternVars w hw t ht c.pat hp
 rw[h1]
 simp only[Option.bind_eq_bind,Option.bind_some]
 by_cases h:patOk w t c.pat
 ·rw[if_pos (dec_of h),P.impl_guardOk,h2 h]
  simp only[Option.bind_some]
  congr 1;exact dec_congr ⟨fun g=>⟨h,g⟩,fun g=>g.2⟩
 ·rw[if_neg (by rw[dec_not h];simp),dec_not fun g=>h g.1]
def clValid (w:List Data)(t:Ty)(c:Clause):Prop:=typeValid w t∧clOk w t c
theorem P.spec_ClauseValid (w:List Data)(hw:smallW w)(t:Ty)(c:Clause)(hp:c.pat.wt≤1048576):F.f173 w t c=some (dec (clValid w t c)):=by
 unfold F.f173
 rw[P.spec_TypeValid w t hw]
 simp only[Option.bind_eq_bind,Option.bind_some]
 by_cases h:typeValid w t
 ·rw[if_pos (dec_of h),P.spec_l4Is w h.1 t h.2 c hp]
  simp only[Option.bind_some]
  congr 1;exact dec_congr ⟨fun g=>⟨h,g⟩,fun g=>g.2⟩
 ·rw[if_neg (by rw[dec_not h];simp),dec_not fun g=>h g.1]
theorem P.impl_ClauseValid (w:List Data)(hw:smallW w)(t:Ty)(c:Clause)(hp:c.pat.wt≤1048576):F.f161 w t c=some (dec (clValid w t c)):=by
 unfold F.f161
 rw[P.impl_TypeValid w t hw]
 simp only[Option.bind_eq_bind,Option.bind_some]
 by_cases h:typeValid w t
 ·rw[if_pos (dec_of h),P.impl_clauseOk w h.1 t h.2 c hp]
  simp only[Option.bind_some]
  congr 1;exact dec_congr ⟨fun g=>⟨h,g⟩,fun g=>g.2⟩
 ·rw[if_neg (by rw[dec_not h];simp),dec_not fun g=>h g.1]
def hasV (v:Int):Nat→Pattern→Prop
 |0,_=>False
 |d+1,p=>(∃i,∃h:i<p.kids.length,hasV v d p.kids[i])∨((p.op=2∨p.op=6)∧p.var=v)
def underV (v:Int):Nat→Pattern→Prop
 |0,_=>False
 |d+1,p=>∃i,∃h:i<p.kids.length,(p.op=5∧hasV v d p.kids[i])∨underV v d p.kids[i]
def topV (v:Int):Nat→Pattern→Prop
 |0,_=>False
 |d+1,p=>((p.op=2∨p.op=6)∧p.var=v)∨(p.op≠5∧∃i,∃h:i<p.kids.length,topV v d p.kids[i])
theorem existsLoop {R:Type}{n:Nat}{Q:Nat→Prop}{r:R}{L:Nat→Option (Lo R Unit)}(h0:∀k,n≤k→L k=some (.go ()))(h1:∀k,k<n→¬Q k→L k=L (k+1))
  (h2:∀k,k<n→Q k→L k=some (.ret r)):L 0=some (if dec (∃k,k<n∧Q k)=true then .ret r else .go ()):=by
 rw[allN (n:=n) (Q:=fun k=>¬Q k) (r:=r) h0 h1 (fun k hk hq=>h2 k hk (Classical.byContradiction hq)) n 0 rfl]
 by_cases h:∃k,k<n∧Q k
 ·rw[if_pos (dec_of h),if_neg]
  rw[dec_not fun hh=> ?_];· simp
  obtain⟨k,hk,hq⟩:=h
  exact hh k (Nat.zero_le _) hk hq
 ·have ha:∀k,0≤k→k<n→¬Q k:=fun k _ hk hq=>h ⟨k,hk,hq⟩
  rw[if_pos (dec_of ha),if_neg (by rw[dec_not h];simp)]
theorem P.spec_l11Has (w:List Data)(v:Int):∀(d:Nat) (t:Ty) (p:Pattern),pShape w d t p→F.f174 p v=some (dec (hasV v d p))
 |0,t,p,hs=>hs.elim
 |d+1,t,p,hs=>by
  obtain⟨ho,hl,hk⟩:=hs
  have ih:∀i (h:i<p.kids.length),F.f174 p.kids[i] v=some (dec (hasV v d p.kids[i])):=fun i h=>P.spec_l11Has w v d _ _ (hk i (by omega) (by omega) (by omega) h)
  rw[F.f174,existsLoop (n:=p.kids.length) (Q:=fun i=>∃h:i<p.kids.length,hasV v d p.kids[i]) (r:=true) (L:=F.f175 p v)
   (fun k hk=>by rw[F.f175,if_neg (by omega)])
   (fun k hk hq=>by
    rw[F.f175,if_pos hk,List.getElem?_eq_getElem hk]
    simp only[Option.bind_eq_bind,Option.bind_some,ih k hk]
    rw[if_neg (by rw[dec_not fun h=>hq ⟨hk,h⟩];simp)])
   (fun k hk hq=>by
    rw[F.f175,if_pos hk,List.getElem?_eq_getElem hk]
    simp only[Option.bind_eq_bind,Option.bind_some,ih k hk]
    rw[if_pos (dec_of hq.2)])]
  simp only[Option.bind_eq_bind,Option.bind_some]
  by_cases h:∃i,i<p.kids.length∧∃h:i<p.kids.length,hasV v d p.kids[i]
  ·rw[if_pos (dec_of h),dec_of]
   obtain⟨i,_,h1,h2⟩:=h
   exact .inl ⟨i,h1,h2⟩
  ·rw[if_neg (by rw[dec_not h];simp)]
   have e:hasV v (d+1) p↔(p.op=2∨p.op=6)∧p.var=v:=⟨fun hh=>hh.elim (fun⟨i,h1,h2⟩=>absurd ⟨i,h1,h1,h2⟩ h) id,.inr⟩
   rw[dec_congr e]
   dsimp only
   by_cases a:p.op=2
   ·rw[if_pos a,←dec_eq];congr 1;exact dec_congr ⟨fun h=>⟨.inl a,h⟩,fun h=>h.2⟩
   ·rw[if_neg a]
    by_cases b:p.op=6
    ·rw[if_pos b,←dec_eq];congr 1;exact dec_congr ⟨fun h=>⟨.inr b,h⟩,fun h=>h.2⟩
    ·rw[if_neg b,dec_not];omega
theorem P.spec_l11Under (w:List Data)(v:Int):∀(d:Nat) (t:Ty) (p:Pattern),pShape w d t p→F.f176 p v=some (dec (underV v d p))
 |0,t,p,hs=>hs.elim
 |d+1,t,p,hs=>by
  obtain⟨ho,hl,hk⟩:=hs
  have sh:∀i (h:i<p.kids.length),pShape w d ((pTypes w t p)[i]'(by omega)) p.kids[i]:=fun i h=>hk i (by omega) (by omega) (by omega) h
  have ih:∀i (h:i<p.kids.length),F.f176 p.kids[i] v=some (dec (underV v d p.kids[i])):=fun i h=>P.spec_l11Under w v d _ _ (sh i h)
  have ihh:∀i (h:i<p.kids.length),F.f174 p.kids[i] v=some (dec (hasV v d p.kids[i])):=fun i h=>P.spec_l11Has w v d _ _ (sh i h)
  rw[F.f176,existsLoop (n:=p.kids.length) (Q:=fun i=>∃h:i<p.kids.length,(p.op=5∧hasV v d p.kids[i])∨underV v d p.kids[i]) (r:=true) (L:=F.f177 p v)
   (fun k hk=>by rw[F.f177,if_neg (by omega)])
   (fun k hk hq=>by
    rw[F.f177,if_pos hk,List.getElem?_eq_getElem hk]
    simp only[Option.bind_eq_bind,Option.bind_some,ih k hk,ihh k hk]
    by_cases h5:p.op=5
    ·rw[if_pos h5,if_neg (by rw[dec_not fun h=>hq ⟨hk,.inl ⟨h5,h⟩⟩];simp),if_neg (by rw[dec_not fun h=>hq ⟨hk,.inr h⟩];simp)]
    ·rw[if_neg h5,if_neg (by rw[dec_not fun h=>hq ⟨hk,.inr h⟩];simp)])
   (fun k hk hq=>by
    rw[F.f177,if_pos hk,List.getElem?_eq_getElem hk]
    simp only[Option.bind_eq_bind,Option.bind_some,ih k hk,ihh k hk]
    obtain⟨_,hq⟩:=hq
    by_cases h5:p.op=5
    ·rw[if_pos h5]
     by_cases hh:hasV v d p.kids[k]
     ·rw[if_pos (dec_of hh)]
     ·rw[if_neg (by rw[dec_not hh];simp),if_pos (dec_of (hq.elim (fun h=>absurd h.2 hh) id))]
    ·rw[if_neg h5,if_pos (dec_of (hq.elim (fun h=>absurd h.1 h5) id))])]
  simp only[Option.bind_eq_bind,Option.bind_some]
  by_cases h:∃i,i<p.kids.length∧∃h:i<p.kids.length,(p.op=5∧hasV v d p.kids[i])∨underV v d p.kids[i]
  ·rw[if_pos (dec_of h),dec_of]
   obtain⟨i,_,h1,h2⟩:=h
   exact⟨i,h1,h2⟩
  ·rw[if_neg (by rw[dec_not h];simp),dec_not fun⟨i,h1,h2⟩=>h ⟨i,h1,h1,h2⟩]
theorem P.spec_l3Copy (p:Pattern)(hp:p.wt≤67108864):F.f178 p=some p:=by
 induction p using Pattern.ind with
 |_ p ih=>
  have hw:=p.wt_eq
  rw[F.f178,appLoop (a:=p.kids) (g:=id) (f:=F.f178) (L:=F.f179 p) (fun out i=>by rw[F.f179]) (fun x hx=>ih x hx (by have:=wtL_mem Pattern.wt hx;omega)) _ 0 [] rfl (by have:=wtL_len Pattern.wt p.kids;simp;omega)]
  simp
  cases p;rfl
theorem under_has {v:Int}:∀{d:Nat} {p:Pattern},underV v d p→hasV v d p
 |0,p,h=>h.elim
 |d+1,p,⟨i,h,hh⟩=>.inl ⟨i,h,hh.elim (fun a=>a.2) under_has⟩
theorem top_has {v:Int}:∀{d:Nat} {p:Pattern},topV v d p→hasV v d p
 |0,p,h=>h.elim
 |d+1,p,.inl h=>.inr h
 |d+1,p,.inr ⟨_,i,h,hh⟩=>.inl ⟨i,h,top_has hh⟩
theorem has_top {v:Int}:∀{d:Nat} {p:Pattern},hasV v d p→underV v d p∨topV v d p
 |0,p,h=>h.elim
 |d+1,p,.inr h=>.inr (.inl h)
 |d+1,p,.inl ⟨i,h,hh⟩=>by
  by_cases h5:p.op=5
  ·exact .inl ⟨i,h,.inl ⟨h5,hh⟩⟩
  ·exact(has_top hh).elim (fun a=>.inl ⟨i,h,.inr a⟩) fun a=>.inr (.inr ⟨h5,i,h,a⟩)
theorem sub_back :∀{a b:List Int},a.Nodup→(∀x,x∈a→x∈b)→b.length≤a.length→∀x,x∈b→x∈a
 | [],b,_,_,hl=>fun x hx=>by
  have:b=[]:=List.length_eq_zero_iff.1 (by simpa using hl)
  rw[this]at hx;cases hx
 |y::a,b,hn,hs,hl=>fun x hx=>by
  rw[List.nodup_cons]at hn
  have hy:=hs y (List.mem_cons_self ..)
  by_cases e:x=y
  ·rw[e];exact List.mem_cons_self ..
  ·refine List.mem_cons_of_mem _ (sub_back (a:=a) (b:=b.erase y) hn.2 (fun z hz=> ?_) ?_ x ((List.mem_erase_of_ne e).2 hx))
   ·exact(List.mem_erase_of_ne fun(e:z=y)=>hn.1 (by rw[←e];exact hz)).2 (hs z (List.mem_cons_of_mem _ hz))
   ·rw[List.length_erase_of_mem hy];simp at hl;omega
theorem sameV_back {a b:List VarType}(hn:nodV a)(h:sameV a b){v:Int}(hv:∃x,x∈b∧x.var=v):∃x,x∈a∧x.var=v:=by
 obtain⟨x,hx,e⟩:=hv
 have:=sub_back (a:=a.map VarType.var) (b:=b.map VarType.var) hn (fun y hy=>by obtain⟨z,hz,e⟩:=List.mem_map.1 hy;exact List.mem_map.2 ⟨z,h.2 z hz,e⟩) (by simp[h.1]) v (List.mem_map.2 ⟨x,hx,e⟩)
 obtain⟨z,hz,e⟩:=List.mem_map.1 this
 exact⟨z,hz,e⟩
theorem kid_vars {w:List Data}{d:Nat}{t:Ty}{p:Pattern}(h5:p.op≠5){i:Nat}(h:i<(pTypes w t p).length)(h':i<p.kids.length){x:VarType}(hx:x∈pVars w d (pTypes w t p)[i] p.kids[i]):x∈pVars w (d+1) t p:=by
 rw[pVars,if_neg h5,List.take_of_length_le (by simp;omega),List.mem_append]
 refine .inr (List.mem_flatMap.2 ⟨((pTypes w t p)[i],p.kids[i]),?_,hx⟩)
 have:((pTypes w t p)[i],p.kids[i])=((pTypes w t p).zip p.kids)[i]'(by simp;omega):=by simp
 rw[this];exact List.getElem_mem _
theorem has_vars {w:List Data}{v:Int}:∀{d:Nat} {t:Ty} {p:Pattern},pShape w d t p→pLin w d t p→hasV v d p→∃x,x∈pVars w d t p∧x.var=v
 |0,t,p,hs,_,_=>hs.elim
 |d+1,t,p,hs,hl,hh=>by
  obtain⟨ho,hlen,hk⟩:=hs
  obtain⟨l1,l2⟩:=hl
  rcases hh with⟨i,h',hh⟩|⟨h1,h2⟩
  ·have h:i<(pTypes w t p).length:=by omega
   obtain⟨x,hx,e⟩:=has_vars (hk i (by omega) h h h') (l1 i (by omega) h h h') hh
   by_cases h5:p.op=5
   ·have et:=pOwn_types ho h5
    have h0:0<p.kids.length:=by rw[hlen,et];simp
    have h1:1<p.kids.length:=by rw[hlen,et];simp
    have hl2:p.kids.length=2:=by rw[hlen,et];rfl
    rw[pVars_or ho h5 h0]
    rw[if_pos h5]at l2
    have x0':0<(pTypes w t p).length:=by rw[et];simp
    have y0:(pTypes w t p)[0]=t:=by simp[et]
    have k0:=hk 0 (Nat.le_refl _) x0' x0' h0
    have l0:=l1 0 (Nat.le_refl _) x0' x0' h0
    rw[y0]at k0 l0
    have:i=0∨i=1:=by omega
    rcases this with rfl|rfl
    ·have ei:(pTypes w t p)[0]=t:=by simp[et]
     rw[ei]at hx;exact⟨x,hx,e⟩
    ·have ei:(pTypes w t p)[1]=t:=by simp[et]
     rw[ei]at hx
     exact sameV_back (pLin_nod k0 l0) (l2 h0 h1) ⟨x,hx,e⟩
   ·exact⟨x,kid_vars h5 h h' hx,e⟩
  ·refine⟨⟨p.var,t⟩,?_,h2⟩
   rw[pVars,if_pos h1];simp
theorem vars_has {w:List Data}:∀{d:Nat} {t:Ty} {p:Pattern} {x:VarType},x∈pVars w d t p→hasV x.var d p
 |0,t,p,x,hx=>by simp[pVars]at hx
 |d+1,t,p,x,hx=>by
  rw[pVars,List.mem_append]at hx
  rcases hx with hx|hx
  ·split at hx
   ·next h=>simp at hx;subst hx;exact .inr ⟨h,rfl⟩
   ·cases hx
  ·obtain⟨i,h,h',hm⟩:=zip_flat hx
   exact .inl ⟨i,h',vars_has hm⟩
theorem nod_flat {f:Ty×Pattern→List VarType}:∀{L:List (Ty×Pattern)} {i j:Nat} (hi:i<L.length) (hj:j<L.length) {x y:VarType},nodV (L.flatMap f)→i<j→x∈f L[i]→y∈f L[j]→x.var≠y.var
 |a::L,i,0,_,_,x,y,_,h,_,_=>by omega
 |a::L,0,j+1,hi,hj,x,y,hn,_,hx,hy=>by
  unfold nodV at hn
  rw[List.flatMap_cons,List.map_append,List.nodup_append]at hn
  refine hn.2.2 _ (List.mem_map.2 ⟨x,by simpa using hx,rfl⟩) _ (List.mem_map.2 ⟨y,?_,rfl⟩)
  refine List.mem_flatMap.2 ⟨L[j]'(by simpa using hj),List.getElem_mem _,by simpa using hy⟩
 |a::L,i+1,j+1,hi,hj,x,y,hn,hij,hx,hy=>by
  unfold nodV at hn
  rw[List.flatMap_cons,List.map_append,List.nodup_append]at hn
  exact nod_flat (L:=L) (by simpa using hi) (by simpa using hj) hn.2.1 (by omega) (by simpa using hx) (by simpa using hy)
theorem kid_once {w:List Data}{v:Int}{d:Nat}{t:Ty}{p:Pattern}(hs:pShape w (d+1) t p)(hl:pLin w (d+1) t p)(h5:p.op≠5){i:Nat}(hi:i<p.kids.length)(a:hasV v d p.kids[i]):
  ¬((p.op=2∨p.op=6)∧p.var=v)∧∀j (hj:j<p.kids.length),hasV v d p.kids[j]→j=i:=by
 obtain⟨ho,hlen,hk⟩:=hs
 obtain⟨l1,l2⟩:=hl
 rw[if_neg h5,pVars,if_neg h5,List.take_of_length_le (by simp;omega)]at l2
 have get:∀j (hj:j<p.kids.length),hasV v d p.kids[j]→∃x,x∈(fun x:Ty×Pattern=>pVars w d x.1 x.2) (((pTypes w t p).zip p.kids)[j]'(by simp;omega))∧x.var=v:=by
  intro j hj hh
  obtain⟨x,hx,e⟩:=has_vars (hk j (by omega) (by omega) (by omega) hj) (l1 j (by omega) (by omega) (by omega) hj) hh
  exact⟨x,by simpa using hx,e⟩
 unfold nodV at l2
 rw[List.map_append,List.nodup_append]at l2
 obtain⟨x,hx,ex⟩:=get i hi a
 refine⟨fun⟨h1,h2⟩=> ?_,fun j hj hh=> ?_⟩
 ·rw[if_pos h1]at l2
  exact l2.2.2 p.var (by simp) v (List.mem_map.2 ⟨x,List.mem_flatMap.2 ⟨_,List.getElem_mem _,hx⟩,ex⟩) h2
 ·obtain⟨y,hy,ey⟩:=get j hj hh
  rcases Nat.lt_trichotomy j i with hlt|heq|hlt
  ·exact absurd (ey.trans ex.symm) (nod_flat _ _ l2.2.1 hlt hy hx)
  ·exact heq
  ·exact absurd (ex.trans ey.symm) (nod_flat _ _ l2.2.1 hlt hx hy)
theorem top_under {w:List Data}{v:Int}:∀{d:Nat} {t:Ty} {p:Pattern},pShape w d t p→pLin w d t p→topV v d p→¬underV v d p
 |0,t,p,hs,_,_=>hs.elim
 |d+1,t,p,hs,hl,ht=>by
  rintro⟨j,hj,hu⟩
  have h5:p.op≠5:=ht.elim (fun h=>by omega) (fun h=>h.1)
  have hu:underV v d p.kids[j]:=hu.elim (fun h=>absurd h.1 h5) id
  rcases ht with h|⟨_,i,hi,h⟩
  ·exact(kid_once hs hl h5 hj (under_has hu)).1 h
  ·have e:=(kid_once hs hl h5 hi (top_has h)).2 j hj (under_has hu)
   subst e
   exact top_under (hs.2.2 j (by omega) (by have:=hs.2.1;omega) (by have:=hs.2.1;omega) hj) (hl.1 j (by omega) (by have:=hs.2.1;omega) (by have:=hs.2.1;omega) hj) h hu
def narrows (p:Pattern)(n m:Int)(q:Pattern)(b:Bool)(q':Pattern)(b':Bool):Prop:=(n≤m→b=b'∧(b=true→q=q'))∧(m<n→b=false)∧q.wt≤2*p.wt+1
theorem wt_nil (a b c d e:Int):(⟨a,b,c,d,e,[]⟩:Pattern).wt=0:=by rw[Pattern.wt_eq];rfl
theorem wt_one (a b c d e:Int)(k:Pattern):(⟨a,b,c,d,e,[k]⟩:Pattern).wt=1+k.wt:=by rw[Pattern.wt_eq];simp
theorem wt_two (a b c d e:Int)(k l:Pattern):(⟨a,b,c,d,e,[k,l]⟩:Pattern).wt=2+k.wt+l.wt:=by rw[Pattern.wt_eq];simp;omega
theorem P.narrow (w:List Data)(n m:Int):∀(d:Nat) (t:Ty) (p:Pattern),t.data= -1→pShape w d t p→∃q b q' b',F.f183 p n m=some (q,b)∧F.f164 p n m=some (q',b')∧narrows p n m q b q' b'
 |0,t,p,ht,hs=>hs.elim
 |d+1,t,p,ht,hs=>by
  obtain⟨ho,hlen,hk⟩:=hs
  have h4:p.op≠4:=by
   intro h4
   unfold pOwn at ho
   rcases ho with h|h|h|h|h|h
   ·omega
   ·omega
   ·omega
   ·have:=h.2.2.2.2
    rw[ctorList,if_pos ht]at this;cases this
   ·omega
   ·omega
  have hops:p.op=1∨p.op=2∨p.op=3∨p.op=5∨p.op=6:=by unfold pOwn at ho;omega
  rw[F.f183,F.f164]
  rcases hops with h|h|h|h|h
  ·rw[if_pos h,if_pos h]
   refine⟨_,_,_,_,rfl,rfl,fun hnm=>⟨by simpa using hnm,fun _=>rfl⟩,fun hnm=>by simp;omega,?_⟩
   rw[wt_nil];omega
  ·rw[if_neg (by omega),if_pos h,if_neg (by omega),if_pos h]
   refine⟨_,_,_,_,rfl,rfl,fun hnm=>⟨by simpa using hnm,fun _=>rfl⟩,fun hnm=>by simp;omega,?_⟩
   rw[wt_one,wt_nil];omega
  ·rw[if_neg (by omega),if_neg (by omega),if_neg (by omega),if_neg (by omega),if_neg (by omega),if_neg (by omega),if_pos h,F.f181,if_neg (by omega),if_neg (by simp),if_pos h]
   simp only
   by_cases a1:p.n<n<;>by_cases a2:m<p.m
   ·rw[if_pos a1,if_pos a2,if_pos (show n>p.n from a1),if_pos a2]
    exact⟨_,_,_,_,rfl,rfl,fun _=>⟨rfl,fun _=>rfl⟩,fun hnm=>by simp;omega,by simp only;rw[wt_nil];omega⟩
   ·rw[if_pos a1,if_neg a2,if_pos (show n>p.n from a1),if_neg a2]
    exact⟨_,_,_,_,rfl,rfl,fun _=>⟨rfl,fun _=>rfl⟩,fun hnm=>by simp;omega,by simp only;rw[wt_nil];omega⟩
   ·rw[if_neg a1,if_pos a2,if_neg (show ¬n>p.n from a1),if_pos a2]
    exact⟨_,_,_,_,rfl,rfl,fun _=>⟨rfl,fun _=>rfl⟩,fun hnm=>by simp;omega,by simp only;rw[wt_nil];omega⟩
   ·rw[if_neg a1,if_neg a2,if_neg (show ¬n>p.n from a1),if_neg a2]
    exact⟨_,_,_,_,rfl,rfl,fun _=>⟨rfl,fun _=>rfl⟩,fun hnm=>by simp;omega,by simp only;rw[wt_nil];omega⟩
  ·have et:=pOwn_types ho h
   have h0:0<p.kids.length:=by rw[hlen,et];simp
   have h1:1<p.kids.length:=by rw[hlen,et];simp
   have hl2:p.kids.length=2:=by rw[hlen,et];rfl
   have x0':0<(pTypes w t p).length:=by rw[et];simp
   have x1':1<(pTypes w t p).length:=by rw[et];simp
   have y0:(pTypes w t p)[0]=t:=by simp[et]
   have y1:(pTypes w t p)[1]=t:=by simp[et]
   have k0:=hk 0 (Nat.le_refl _) x0' x0' h0
   have k1:=hk 1 (by omega) x1' x1' h1
   rw[y0]at k0
   rw[y1]at k1
   have hsum:p.wt=(1+p.kids[0].wt)+(1+p.kids[1].wt):=by
    have e:p.kids=[p.kids[0],p.kids[1]]:=List.ext_getElem (by simp[hl2]) (fun i h1 h2=>by
     have:i=0∨i=1:=by omega
     rcases this with rfl|rfl<;>rfl)
    rw[p.wt_eq]
    conv=>lhs;rw[e]
    simp
   obtain⟨q0,b0,r0,c0,a1,a2,a3,a4,a5⟩:=P.narrow w n m d t _ ht k0
   obtain⟨q1,b1,r1,c1,e1,e2,e3,e4,e5⟩:=P.narrow w n m d t _ ht k1
   rw[if_neg (by omega),if_neg (by omega),if_neg (by omega),if_pos h,if_neg (by omega),if_neg (by omega),if_neg (by omega),if_neg (by omega),List.getElem?_eq_getElem h0,List.getElem?_eq_getElem h1]
   simp only[Option.bind_eq_bind,Option.bind_some,a1,a2,e1,e2]
   by_cases hnm:n≤m
   ·obtain⟨z0,z1⟩:=a3 hnm
    obtain⟨z2,z3⟩:=e3 hnm
    subst z0;subst z2
    cases b0 with
    |true=>
     obtain rfl:=z1 rfl
     cases b1 with
     |true=>
      obtain rfl:=z3 rfl
      exact⟨_,_,_,_,rfl,rfl,fun _=>⟨rfl,fun _=>rfl⟩,fun h=>by omega,by rw[wt_two];omega⟩
     |false=>exact⟨_,_,_,_,rfl,rfl,fun _=>⟨rfl,fun _=>rfl⟩,fun h=>by omega,by omega⟩
    |false=>exact⟨_,_,_,_,rfl,rfl,fun _=>⟨rfl,z3⟩,fun h=>by omega,by omega⟩
   ·obtain rfl:=a4 (by omega)
    obtain rfl:=e4 (by omega)
    have:∀(c:Prop) [Decidable c] (x y z:Pattern×Bool) (e:Prop) [Decidable e],∃q b,(if c then if e then some x else some y else some z)=some (q,b):=by
     intro c _ x y z e _
     split
     ·split
      ·exact⟨_,_,rfl⟩
      ·exact⟨_,_,rfl⟩
     ·exact⟨_,_,rfl⟩
    obtain⟨q',b',hq⟩:=this (c0=true) (⟨5,0,0,0,0,[r0,r1]⟩,true) (r0,true) (r1,c1) (c1=true)
    exact⟨_,_,q',b',rfl,hq,fun h=>absurd h hnm,fun _=>rfl,by omega⟩
  ·have e:pTypes w t p=[t]:=by unfold pTypes;rw[if_neg (by omega),if_neg (by omega),if_pos (by omega)]
   have h0:0<p.kids.length:=by rw[hlen,e];simp
   have x0':0<(pTypes w t p).length:=by rw[e];simp
   have y0:(pTypes w t p)[0]=t:=by simp[e]
   have k0:=hk 0 (Nat.le_refl _) x0' x0' h0
   rw[y0]at k0
   have hw0:=wtL_mem Pattern.wt (List.getElem_mem h0)
   have hwt:=p.wt_eq
   obtain⟨q0,b0,r0,c0,a1,a2,a3,a4,a5⟩:=P.narrow w n m d t _ ht k0
   rw[if_neg (by omega),if_neg (by omega),if_pos h,if_neg (by omega),if_neg (by omega),if_neg (by omega),if_pos h,List.getElem?_eq_getElem h0]
   simp only[Option.bind_eq_bind,Option.bind_some,a1,a2]
   refine⟨_,_,_,_,rfl,rfl,fun hnm=>⟨(a3 hnm).1,fun hb=>by rw[(a3 hnm).2 hb]⟩,fun hnm=>a4 hnm,?_⟩
   rw[wt_one];omega
theorem wtL_set {α:Type}(f:α→Nat):∀(l:List α) (i:Nat) (h:i<l.length) (x:α),wtL f (l.set i x)+f l[i]=wtL f l+f x
 |a::l,0,h,x=>by simp;omega
 |a::l,i+1,h,x=>by
  have:=wtL_set f l i (by simpa using h) x
  simp;omega
theorem putLoop {p:Pattern}{v n m:Int}{qs:List Pattern}(hl:qs.length=p.kids.length)(h26:p.kids.length≤67108864){i0:Nat}{b:Bool}{L:List Pattern→Nat→Option (Lo (Pattern×Bool) (List Pattern))}{z:Pattern×Bool}
  (hL:∀out i,L out i=if i<p.kids.length then p.kids[i]? >>=fun x=>F.f184 x v n m>>=fun r=>if r.2=true then(if out.length+1≤67108864 then L (out++[r.1]) (i+1)else none)else some (.ret z)else some (.go out))
  (hk:∀i (h:i<p.kids.length),∃q,F.f184 p.kids[i] v n m=some (q,if i=i0 then b else true)∧((if i=i0 then b else true)=true→q=qs[i]'(by omega))):
  ∀(k i:Nat) (out:List Pattern),p.kids.length-i=k→out.length=i→L out i=some (if b=true∨i0<i∨p.kids.length≤i0 then .go (out++qs.drop i)else .ret z):=by
 intro k
 induction k with
 |zero=>
  intro i out hk ho
  rw[hL,if_neg (by omega),List.drop_eq_nil_of_le (by omega)]
  by_cases h:i0<i
  ·rw[if_pos (.inr (.inl h))];simp
  ·rw[if_pos (.inr (.inr (by omega)))];simp
 |succ k ih=>
  intro i out hki ho
  have hi:i<p.kids.length:=by omega
  obtain⟨q,h1,h2⟩:=hk i hi
  rw[hL,if_pos hi,List.getElem?_eq_getElem hi]
  simp only[Option.bind_eq_bind,Option.bind_some,h1]
  by_cases hb:(if i=i0 then b else true)=true
  ·rw[if_pos hb,if_pos (by omega),ih (i+1) _ (by omega) (by simp[ho]),h2 hb]
   have e:out++[qs[i]'(by omega)]++qs.drop (i+1)=out++qs.drop i:=by rw[List.drop_eq_getElem_cons (l:=qs) (i:=i) (by omega)];simp
   rw[e]
   congr 1
   by_cases hbt:b=true
   ·rw[if_pos (.inl hbt),if_pos (.inl hbt)]
   ·have hne:i≠i0:=fun e=>hbt (by rw[if_pos e]at hb;exact hb)
    by_cases hc:i0<i∨p.kids.length≤i0
    ·rw[if_pos (.inr (hc.imp (fun h=>by omega) id)),if_pos (.inr hc)]
    ·rw[if_neg (by rintro(h|h|h)<;>first|exact hbt h|omega),if_neg (by rintro(h|h|h)<;>first|exact hbt h|omega)]
  ·rw[if_neg hb]
   have hi0:i=i0:=Classical.byContradiction fun h=>hb (by rw[if_neg h])
   rw[if_pos hi0]at hb
   rw[if_neg (by rintro(h|h|h)<;>first|exact hb h|omega)]
theorem P.put_none (w:List Data)(v n m:Int):∀(d:Nat) (t:Ty) (p:Pattern),pShape w d t p→p.wt≤1048576→¬hasV v d p→F.f184 p v n m=some (p,true)
 |0,t,p,hs,_,_=>hs.elim
 |d+1,t,p,hs,hw,hn=>by
  obtain⟨ho,hlen,hk⟩:=hs
  have hwt:=p.wt_eq
  have hlw:=wtL_len Pattern.wt p.kids
  have hkid:∀i (h:i<p.kids.length),∃q,F.f184 p.kids[i] v n m=some (q,if i=p.kids.length then true else true)∧((if i=p.kids.length then true else true)=true→q=p.kids[i]):=fun i h=>
   ⟨_,by rw[P.put_none w v n m d _ _ (hk i (by omega) (by omega) (by omega) h) (by have:=wtL_mem Pattern.wt (List.getElem_mem h);omega) fun hh=>hn (.inl ⟨i,h,hh⟩)];simp,fun _=>rfl⟩
  have self:(⟨p.op,p.ctor,p.n,p.m,p.var,p.kids⟩:Pattern)=p:=by cases p;rfl
  have hv:∀(a:p.op=2∨p.op=6),¬p.var=v:=fun a e=>hn (.inr ⟨a,e⟩)
  rw[F.f184]
  by_cases h2:p.op=2
  ·rw[if_pos h2,if_neg (hv (.inl h2)),putLoop (p:=p) (qs:=p.kids) rfl (by omega) (L:=F.f187 p v n m) (fun out i=>by rw[F.f187]) hkid _ 0 [] rfl rfl,if_pos (.inl rfl)]
   simp only[Option.bind_eq_bind,Option.bind_some,List.nil_append,List.drop_zero,self]
  ·rw[if_neg h2]
   by_cases h6:p.op=6
   ·rw[if_pos h6,if_neg (hv (.inr h6)),putLoop (p:=p) (qs:=p.kids) rfl (by omega) (L:=F.f185 p v n m) (fun out i=>by rw[F.f185]) hkid _ 0 [] rfl rfl,if_pos (.inl rfl)]
    simp only[Option.bind_eq_bind,Option.bind_some,List.nil_append,List.drop_zero,self]
   ·rw[if_neg h6,putLoop (p:=p) (qs:=p.kids) rfl (by omega) (L:=F.f186 p v n m) (fun out i=>by rw[F.f186]) hkid _ 0 [] rfl rfl,if_pos (.inl rfl)]
    simp only[Option.bind_eq_bind,Option.bind_some,List.nil_append,List.drop_zero,self]
theorem P.narrowed_none (w:List Data)(v n m:Int):∀(d:Nat) (t:Ty) (p:Pattern),pShape w d t p→¬topV v d p→∃q b,F.f166 p v n m=some (q,false,b)
 |0,t,p,hs,_=>hs.elim
 |d+1,t,p,hs,hn=>by
  obtain⟨ho,hlen,hk⟩:=hs
  have hv:∀(a:p.op=2∨p.op=6),¬p.var=v:=fun a e=>hn (.inl ⟨a,e⟩)
  rw[F.f166]
  have run:∀(L:Nat→Option (Lo (Pattern×Bool×Bool) Unit)) (h5:p.op≠5)
    (hL:∀i,L i=if i<p.kids.length then p.kids[i]? >>=fun x=>F.f166 x v n m>>=fun r=>if r.2.1=true then F.f165 p.kids>>=fun c=>c[i]? >>=fun _=>some (.ret ((⟨p.op,p.ctor,p.n,p.m,p.var,c.set i r.1⟩:Pattern),true,r.2.2))else L (i+1)else some (.go ())),
    ∀k i,p.kids.length-i=k→L i=some (.go ()):=by
   intro L h5 hL k
   induction k with
   |zero=>intro i hki;rw[hL,if_neg (by omega)]
   |succ k ih=>
    intro i hki
    have hi:i<p.kids.length:=by omega
    obtain⟨q,b,h1⟩:=P.narrowed_none w v n m d _ _ (hk i (by omega) (by omega) (by omega) hi) fun hh=>hn (.inr ⟨h5,i,hi,hh⟩)
    rw[hL,if_pos hi,List.getElem?_eq_getElem hi]
    simp only[Option.bind_eq_bind,Option.bind_some,h1]
    rw[if_neg (by simp)]
    exact ih (i+1) (by omega)
  by_cases h2:p.op=2
  ·rw[if_pos h2,if_neg (hv (.inl h2)),run (F.f169 p v n m) (by omega) (fun i=>by rw[F.f169]) _ 0 rfl]
   exact⟨_,_,rfl⟩
  ·rw[if_neg h2]
   by_cases h6:p.op=6
   ·rw[if_pos h6,if_neg (hv (.inr h6)),run (F.f167 p v n m) (by omega) (fun i=>by rw[F.f167]) _ 0 rfl]
    exact⟨_,_,rfl⟩
   ·rw[if_neg h6]
    by_cases h5:p.op=5
    ·rw[if_pos h5];exact⟨_,_,rfl⟩
    ·rw[if_neg h5,run (F.f168 p v n m) h5 (fun i=>by rw[F.f168]) _ 0 rfl]
     exact⟨_,_,rfl⟩
theorem P.put_top (w:List Data)(v n m:Int):∀(d:Nat) (t:Ty) (p:Pattern),pShape w d t p→pLin w d t p→p.wt≤1048576→(∀x,x∈pVars w d t p→x.var=v→x.type.data= -1)→topV v d p→
  ∃q b q' b',F.f184 p v n m=some (q,b)∧F.f166 p v n m=some (q',true,b')∧narrows p n m q b q' b'
 |0,t,p,hs,_,_,_,_=>hs.elim
 |d+1,t,p,hs,hl,hw,hx,ht=>by
  have hs':=hs
  obtain⟨ho,hlen,hk⟩:=hs
  have hwt:=p.wt_eq
  have hlw:=wtL_len Pattern.wt p.kids
  by_cases own:(p.op=2∨p.op=6)∧p.var=v
  ·have htd:t.data= -1:=hx ⟨p.var,t⟩ (by rw[pVars,if_pos own.1];simp) own.2
   obtain⟨q,b,q',b',h1,h2,h3⟩:=P.narrow w n m (d+1) t p htd hs'
   refine⟨q,b,q',b',?_,?_,h3⟩
   ·rw[F.f184,h1]
    by_cases a:p.op=2
    ·rw[if_pos a,if_pos own.2];rfl
    ·rw[if_neg a,if_pos (own.1.resolve_left a),if_pos own.2];rfl
   ·rw[F.f166,h2]
    by_cases a:p.op=2
    ·rw[if_pos a,if_pos own.2];rfl
    ·rw[if_neg a,if_pos (own.1.resolve_left a),if_pos own.2];rfl
  ·obtain⟨h5,i0,hi0,hti⟩:=ht.resolve_left own
   have hv:∀(a:p.op=2∨p.op=6),¬p.var=v:=fun a e=>own ⟨a,e⟩
   have hw0:=wtL_mem Pattern.wt (List.getElem_mem hi0)
   obtain⟨q,b,q',b',h1,h2,h3⟩:=P.put_top w v n m d _ _ (hk i0 (by omega) (by omega) (by omega) hi0) (hl.1 i0 (by omega) (by omega) (by omega) hi0) (by omega) (fun x hx'=>hx x (kid_vars h5 (by omega) hi0 hx')) hti
   have others:∀j (hj:j<p.kids.length),j≠i0→¬hasV v d p.kids[j]:=fun j hj hne hh=>hne ((kid_once hs' hl h5 hi0 (top_has hti)).2 j hj hh)
   have hkid:∀i (h:i<p.kids.length),∃r,F.f184 p.kids[i] v n m=some (r,if i=i0 then b else true)∧((if i=i0 then b else true)=true→r=(p.kids.set i0 q)[i]'(by simpa using h)):=by
    intro i h
    by_cases e:i=i0
    ·subst e
     exact⟨q,by rw[h1,if_pos rfl],fun _=>by simp⟩
    ·refine⟨_,by rw[P.put_none w v n m d _ _ (hk i (by omega) (by omega) (by omega) h) (by have:=wtL_mem Pattern.wt (List.getElem_mem h);omega) (others i h e),if_neg e],fun _=> ?_⟩
     rw[List.getElem_set_ne (Ne.symm e)]
   have clone:F.f165 p.kids=some p.kids:=by unfold F.f165;rw[if_pos (by omega)]
   have run:∀(L:Nat→Option (Lo (Pattern×Bool×Bool) Unit))
     (hL:∀i,L i=if i<p.kids.length then p.kids[i]? >>=fun x=>F.f166 x v n m>>=fun r=>if r.2.1=true then F.f165 p.kids>>=fun c=>c[i]? >>=fun _=>some (.ret ((⟨p.op,p.ctor,p.n,p.m,p.var,c.set i r.1⟩:Pattern),true,r.2.2))else L (i+1)else some (.go ())),
     ∀k i,i0-i=k→i≤i0→L i=some (.ret ((⟨p.op,p.ctor,p.n,p.m,p.var,p.kids.set i0 q'⟩:Pattern),true,b')):=by
    intro L hL k
    induction k with
    |zero=>
     intro i hki hle
     obtain rfl:i=i0:=by omega
     rw[hL,if_pos hi0,List.getElem?_eq_getElem hi0]
     simp only[Option.bind_eq_bind,Option.bind_some,h2,clone]
     rw[if_pos trivial,List.getElem?_eq_getElem hi0];rfl
    |succ k ih=>
     intro i hki hle
     have hi:i<p.kids.length:=by omega
     obtain⟨q2,b2,g1⟩:=P.narrowed_none w v n m d _ _ (hk i (by omega) (by omega) (by omega) hi) fun hh=>others i hi (by omega) (top_has hh)
     rw[hL,if_pos hi,List.getElem?_eq_getElem hi]
     simp only[Option.bind_eq_bind,Option.bind_some,g1]
     rw[if_neg (by simp)]
     exact ih (i+1) (by omega) (by omega)
   have nw:∀(b:Bool) (hb:¬(b=true)→(⟨0,0,0,0,0,[]⟩:Pattern).wt≤2*p.wt+1),True:=fun _ _=>trivial
   have wset:=wtL_set Pattern.wt p.kids i0 hi0 q
   have fin:∃q2 b2 q2' b2',(some (if b=true∨i0<0∨p.kids.length≤i0 then Lo.go ([]++(p.kids.set i0 q).drop 0)else .ret ((⟨0,0,0,0,0,[]⟩:Pattern),false))>>=fun o=>match o with
     | .ret r=>some r
     | .go sx=>some ((⟨p.op,p.ctor,p.n,p.m,p.var,sx⟩:Pattern),true))=some (q2,b2)∧
     (some (Lo.ret ((⟨p.op,p.ctor,p.n,p.m,p.var,p.kids.set i0 q'⟩:Pattern),true,b'))>>=fun(o:Lo (Pattern×Bool×Bool) Unit)=>match o with
     | .ret r=>some r
     | .go sx=>some (p,false,false))=some (q2',true,b2')∧narrows p n m q2 b2 q2' b2':=by
    obtain⟨n1,n2,n3⟩:=h3
    cases b with
    |true=>
     rw[if_pos (.inl rfl)]
     simp only[Option.bind_eq_bind,Option.bind_some,List.nil_append,List.drop_zero]
     refine⟨_,_,_,_,rfl,rfl,fun hnm=>⟨(n1 hnm).1,fun _=>by rw[(n1 hnm).2 rfl]⟩,fun hnm=>(by have:=n2 hnm;cases this),?_⟩
     rw[Pattern.wt_eq];simp only;omega
    |false=>
     rw[if_neg (by rintro(h|h|h)<;>first|(cases h;done)|omega)]
     simp only[Option.bind_eq_bind,Option.bind_some]
     refine⟨_,_,_,_,rfl,rfl,fun hnm=>⟨(n1 hnm).1,fun h=>by cases h⟩,fun _=>rfl,?_⟩
     rw[wt_nil];omega
   rw[F.f184,F.f166]
   by_cases a2:p.op=2
   ·rw[if_pos a2,if_neg (hv (.inl a2)),if_pos a2,if_neg (hv (.inl a2)),putLoop (p:=p) (qs:=p.kids.set i0 q) (by simp) (by omega) (L:=F.f187 p v n m) (fun out i=>by rw[F.f187]) hkid _ 0 [] rfl rfl,
     run (F.f169 p v n m) (fun i=>by rw[F.f169]) _ 0 rfl (Nat.zero_le _)]
    exact fin
   ·rw[if_neg a2,if_neg a2]
    by_cases a6:p.op=6
    ·rw[if_pos a6,if_neg (hv (.inr a6)),if_pos a6,if_neg (hv (.inr a6)),putLoop (p:=p) (qs:=p.kids.set i0 q) (by simp) (by omega) (L:=F.f185 p v n m) (fun out i=>by rw[F.f185]) hkid _ 0 [] rfl rfl,
      run (F.f167 p v n m) (fun i=>by rw[F.f167]) _ 0 rfl (Nat.zero_le _)]
     exact fin
    ·rw[if_neg a6,if_neg a6,if_neg h5,putLoop (p:=p) (qs:=p.kids.set i0 q) (by simp) (by omega) (L:=F.f186 p v n m) (fun out i=>by rw[F.f186]) hkid _ 0 [] rfl rfl,
      run (F.f168 p v n m) (fun i=>by rw[F.f168]) _ 0 rfl (Nat.zero_le _)]
     exact fin
theorem P.impl_ownPattern (p:Pattern)(hp:p.wt≤67108864):F.f162 p=some p:=by
 induction p using Pattern.ind with
 |_ p ih=>
  have hw:=p.wt_eq
  rw[F.f162,appLoop (a:=p.kids) (g:=id) (f:=F.f162) (L:=F.f163 p) (fun out i=>by rw[F.f163]) (fun x hx=>ih x hx (by have:=wtL_mem Pattern.wt hx;omega)) _ 0 [] rfl (by have:=wtL_len Pattern.wt p.kids;simp;omega)]
  simp
  cases p;rfl
theorem P.impl_patternOk (w:List Data)(hw:worldOk w)(t:Ty)(ht:typeOk w t)(p:Pattern)(hp:p.wt≤1048576):F.f171 w t p=some (dec (patOk w t p)):=by
 unfold F.f171
 obtain⟨vs,h1,_⟩:=P.impl_patternVars w hw t ht p hp
 rw[h1];rfl
theorem zero_pwt :Pattern.wt ⟨0,0,0,0,0,[]⟩=0:=by rw[Pattern.wt_eq];rfl
theorem P.GuardPattern_same (w:List Data)(hw:smallW w)(t:Ty)(c:Clause)(hp:c.pat.wt≤1048576):
  ∃out:Clause×Bool,F.f189 w t c=some out∧F.f172 w t c=some out∧out.1.pat.wt≤200∧(out.2=true→clValid w t out.1∧out.1.guard=⟨0,0,0⟩):=by
 have bad:((⟨⟨0,0,0,0,0,[]⟩,⟨0,0,0⟩⟩:Clause),false).1.pat.wt≤200∧(((⟨⟨0,0,0,0,0,[]⟩,⟨0,0,0⟩⟩:Clause),false).2=true→clValid w t ((⟨⟨0,0,0,0,0,[]⟩,⟨0,0,0⟩⟩:Clause),false).1∧((⟨⟨0,0,0,0,0,[]⟩,⟨0,0,0⟩⟩:Clause),false).1.guard=⟨0,0,0⟩):=
  ⟨by show Pattern.wt ⟨0,0,0,0,0,[]⟩≤200;rw[zero_pwt];omega,fun h=>by cases h⟩
 unfold F.f189 F.f172
 rw[P.spec_ClauseValid w hw t c hp,P.impl_ClauseValid w hw t c hp]
 simp only[Option.bind_eq_bind,Option.bind_some]
 by_cases hv:clValid w t c
 ·rw[if_pos (dec_of hv),if_pos (dec_of hv)]
  obtain⟨⟨hwo,hto⟩,⟨hs,hl,hc⟩,hg⟩:=hv
  have key:∀q:Pattern,q.wt≤200→F.f79 w t ⟨q,⟨0,0,0⟩⟩=some (dec (patOk w t q))∧F.f171 w t q=some (dec (patOk w t q))∧F.f162 q=some q∧F.f178 q=some q:=by
   intro q hq
   refine⟨?_,P.impl_patternOk w hwo t hto q (by omega),P.impl_ownPattern q (by omega),P.spec_l3Copy q (by omega)⟩
   rw[P.spec_l4Is w hwo t hto ⟨q,⟨0,0,0⟩⟩ (by show q.wt≤_;omega)]
   congr 1;exact dec_congr ⟨fun h=>h.1,fun h=>⟨h,.inl ⟨rfl,rfl,rfl⟩⟩⟩
  have good:∀q:Pattern,q.wt≤200→patOk w t q→((⟨q,⟨0,0,0⟩⟩:Clause),true).1.pat.wt≤200∧(((⟨q,⟨0,0,0⟩⟩:Clause),true).2=true→clValid w t ((⟨q,⟨0,0,0⟩⟩:Clause),true).1∧((⟨q,⟨0,0,0⟩⟩:Clause),true).1.guard=⟨0,0,0⟩):=
   fun q hq h=>⟨hq,fun _=>⟨⟨⟨hwo,hto⟩,h,.inl ⟨rfl,rfl,rfl⟩⟩,rfl⟩⟩
  by_cases h0:c.guard.op=0
  ·rw[if_pos h0,if_pos h0]
   obtain⟨k1,k2,k3,k4⟩:=key c.pat (by omega)
   have hpk:patOk w t c.pat:=⟨hs,hl,hc⟩
   unfold F.f188
   rw[if_pos h0,k4,k3]
   simp only[Option.bind_eq_bind,Option.bind_some]
   rw[if_pos trivial,k1]
   simp only[Option.bind_some]
   rw[if_pos (dec_of hpk)]
   exact⟨_,rfl,rfl,good _ (by omega) hpk⟩
  ·rw[if_neg h0,if_neg h0]
   have hg:(c.guard.op=1∨c.guard.op=2)∧0≤c.guard.n∧c.guard.n≤9∧(⟨c.guard.var,⟨-1,0⟩⟩:VarType)∈pVars w 10 t c.pat:=hg.resolve_left fun h=>h0 h.1
   have nfalse:∀n m,¬topV c.guard.var 10 c.pat→∃q b,F.f166 c.pat c.guard.var n m=some (q,false,b):=fun n m h=>P.narrowed_none w _ n m 10 t c.pat hs h
   rw[P.spec_l11Under w _ 10 t c.pat hs]
   simp only[Option.bind_some]
   by_cases hu:underV c.guard.var 10 c.pat
   ·rw[if_pos (dec_of hu)]
    have hnt:¬topV c.guard.var 10 c.pat:=fun h=>top_under hs hl h hu
    refine⟨_,rfl,?_,bad⟩
    unfold F.f170
    by_cases h2:c.guard.op=2
    ·obtain⟨q,b,e⟩:=nfalse c.guard.n c.guard.n hnt
     rw[if_pos h2,e]
     simp only[Option.bind_eq_bind,Option.bind_some]
     cases b<;>simp
    ·obtain⟨q,b,e⟩:=nfalse 0 (IntKind.i64.wrap (c.guard.n-1)) hnt
     rw[if_neg h2,e]
     simp only[Option.bind_eq_bind,Option.bind_some]
     cases b<;>simp
   ·rw[if_neg (by rw[dec_not hu];simp)]
    have hh:=vars_has hg.2.2.2
    have htop:topV c.guard.var 10 c.pat:=(has_top hh).resolve_left hu
    have hx:∀x,x∈pVars w 10 t c.pat→x.var=c.guard.var→x.type.data= -1:=by
     intro x hx e
     have hn:=pLin_nod hs hl
     rw[nodV_iff]at hn
     obtain⟨i,hi,ei⟩:=List.getElem_of_mem hx
     obtain⟨j,hj,ej⟩:=List.getElem_of_mem hg.2.2.2
     have hij:i=j:=by
      rcases Nat.lt_trichotomy i j with hlt|heq|hlt
      ·exact absurd (by rw[ei,ej,e]) (hn i j hi hj hlt)
      ·exact heq
      ·exact absurd (by rw[ei,ej,e]) (hn j i hj hi hlt)
     subst hij
     rw[←ei,ej]
    have get:=fun n m=>P.put_top w c.guard.var n m 10 t c.pat hs hl hp hx htop
    unfold F.f188 F.f180 F.f170
    rw[if_neg h0]
    have fin:∀(n m:Int) (b2:Bool),(b2=true↔n≤m)→∀q b q' b',narrows c.pat n m q b q' b'→∃out:Clause×Bool,
      (if b=true then F.f79 w t ⟨q,⟨0,0,0⟩⟩>>=fun v14=>if v14=true then some ((⟨q,⟨0,0,0⟩⟩:Clause),true)else some ((⟨⟨0,0,0,0,0,[]⟩,⟨0,0,0⟩⟩:Clause),false)else some ((⟨⟨0,0,0,0,0,[]⟩,⟨0,0,0⟩⟩:Clause),false))=some out∧
      ((if b'=true then some (q',true,b2)else some (q',true,false))>>=fun v8=>if v8.2.1=true then if v8.2.2=true then F.f171 w t v8.1>>=fun v14=>if v14=true then F.f162 v8.1>>=fun v18=>some ((⟨v18,⟨0,0,0⟩⟩:Clause),true)else some ((⟨⟨0,0,0,0,0,[]⟩,⟨0,0,0⟩⟩:Clause),false)else some ((⟨⟨0,0,0,0,0,[]⟩,⟨0,0,0⟩⟩:Clause),false)else some ((⟨⟨0,0,0,0,0,[]⟩,⟨0,0,0⟩⟩:Clause),false))=some out∧
      out.1.pat.wt≤200∧(out.2=true→clValid w t out.1∧out.1.guard=⟨0,0,0⟩):=by
     intro n m b2 hb2 q b q' b' hn
     obtain⟨n1,n2,n3⟩:=hn
     by_cases hnm:n≤m
     ·obtain⟨hbb,hqq⟩:=n1 hnm
      subst hbb
      cases b with
      |false=>exact⟨_,rfl,rfl,bad⟩
      |true=>
       obtain rfl:=hqq rfl
       obtain⟨k1,k2,k3,k4⟩:=key q (by omega)
       have e2:b2=true:=hb2.2 hnm
       subst e2
       simp only[if_true,k1,k2,k3,Option.bind_eq_bind,Option.bind_some]
       by_cases hpk:patOk w t q
       ·rw[if_pos (dec_of hpk)];exact⟨_,rfl,rfl,good q (by omega) hpk⟩
       ·rw[if_neg (by rw[dec_not hpk];simp)];exact⟨_,rfl,rfl,bad⟩
     ·have e2:b2=false:=by
       cases b2 with
       |false=>rfl
       |true=>exact absurd (hb2.1 rfl) hnm
      subst e2
      obtain rfl:=n2 (by omega)
      cases b'<;>exact⟨_,rfl,rfl,bad⟩
    have copy:∀{n m q b q' b'},narrows c.pat n m q b q' b'→F.f178 q=some q:=fun h=>P.spec_l3Copy _ (by have:=h.2.2;omega)
    rcases hg.1 with h1|h2
    ·have hwr:IntKind.i64.wrap (c.guard.n-1)=c.guard.n-1:=wrap_in (by omega) (by omega)
     rw[if_pos h1,if_neg (by omega),hwr]
     obtain⟨q,b,q',b',e1,e2,e3⟩:=get 0 (c.guard.n-1)
     simp only[Option.bind_eq_bind,Option.bind_some,e1,e2,copy e3]
     exact fin 0 (c.guard.n-1) (decide (0≤c.guard.n-1)) (by simp) q b q' b' e3
    ·rw[if_neg (by omega),if_pos h2]
     obtain⟨q,b,q',b',e1,e2,e3⟩:=get c.guard.n c.guard.n
     simp only[Option.bind_eq_bind,Option.bind_some,e1,e2,copy e3]
     exact fin c.guard.n c.guard.n (decide (c.guard.n≤c.guard.n)) (by simp) q b q' b' e3
 ·rw[if_neg (by rw[dec_not hv];simp),if_neg (by rw[dec_not hv];simp)];exact⟨_,rfl,rfl,bad⟩
def hv (d:Nat)(p:Pattern):Prop:=∃v,hasV v d p
theorem P.l3DrawKids {w:List Data}{d e:Nat}{as:List Ty}{depth x:Int}(hd:IntKind.i64.wrap (depth-1)=(d:Int))
  (ih:∀a,a∈as→∀K r,rok K r→K+e≤1099511627776→∃p r',F.f105 r w a (d:Int)=some (p,r')∧rok (K+e) r'∧p.wt+1≤e):
  ∀(k K:Nat) (z:List Int) (z32:Int) (out:List Pattern),k≤as.length→rok K ⟨z,z32⟩→K+k*e≤1099511627776→out.length+k≤67108864→
   ∃z' z32' out',F.f106 w depth x as z z32 out (as.length-k)=some (z',z32',out')∧rok (K+k*e) ⟨z',z32'⟩∧wtL Pattern.wt out'≤wtL Pattern.wt out+k*e
 |0,K,z,z32,out,hk,hr,hK,ho=>by
  rw[F.f106,if_neg (by omega)]
  exact⟨z,z32,out,rfl,hr.mono (by omega),by omega⟩
 |k+1,K,z,z32,out,hk,hr,hK,ho=>by
  have hi:as.length- (k+1)<as.length:=by omega
  rw[Nat.add_mul,Nat.one_mul]at hK
  obtain⟨p,r1,e1,h1,h2⟩:=ih _ (List.getElem_mem hi) K ⟨z,z32⟩ hr (by omega)
  obtain⟨z',z32',out',f1,f2,f3⟩:=P.l3DrawKids hd ih k (K+e) r1.f0 r1.f1 (out++[p]) (by omega) h1 (by omega) (by simp;omega)
  rw[F.f106,if_pos hi,List.getElem?_eq_getElem hi]
  simp only[Option.bind_eq_bind,Option.bind_some]
  rw[hd,e1]
  simp only[Option.bind_some]
  rw[if_pos (by omega)]
  have ei:as.length- (k+1)+1=as.length-k:=by omega
  rw[ei]
  refine⟨z',z32',out',f1,f2.mono (by rw[Nat.add_mul];omega),?_⟩
  have:wtL Pattern.wt (out++[p])=wtL Pattern.wt out+(1+p.wt):=by simp[wtL];omega
  rw[Nat.add_mul];omega
end Go.Vl
