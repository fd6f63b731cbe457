import Derived.Test.YtodkbabdaoeooaaGreatDoorCompileStepsE
set_option linter.all false
set_option maxRecDepth 100000
open Nat renaming le_refl->zA,zero_le->zB,mul_le_mul_right->zC,sub_self->zD,add_mul->zE,le_trans->zF,mul_le_mul_left->zG,pow_succ->zH,one_mul->zI,min_eq_left->zJ,mul_le_mul->zK,zero_add->zL,min_eq_right->zM,mul_assoc->zN,mul_add->zO,eq_zero_or_pos->zP,lt_trichotomy->zQ,le_add_right->zR,succ_mul->zS,sub_zero->zT,lt_trans->zU,mul_one->zV
open List renaming drop_eq_getElem_cons->zW,drop_eq_nil_of_le->zX,drop_zero->zY,length_append->zZ,map_cons->yA,mem_append->yB,take_of_length_le->yC,mem_map->yD,mem_cons_of_mem->yE,flatMap_cons->yF,getElem_of_mem->yG,length_map->yH,append_assoc->yI,mem_cons_self->yJ,length_nil->yK,length_cons->yL,nil_append->yM,map_append->yN,mem_singleton->yO,getD_eq_getElem?_getD->yP,mem_take_iff_getElem->yQ,take_append->yR,length_take->yS,exists_cons_of_length_pos->yT,mem_flatMap->yU,sum_cons->yV,mem_cons->yW,nodup_cons->yX,foldl_cons->yY,zip_cons_cons->yZ,map_map->xA,getElem_map->xB,mem_filter->xC,mem_iff_getElem->xD,take_succ_cons->xE,take_succ_eq_append_getElem->xF,map_nil->xG,all_eq_true->xH,take_take->xI,take_left->xJ,drop_left->xK,getElem_append_right->xL,getElem_append_left->xM,sizeOf_lt_of_mem->xN,mem_append_right->xO,mem_of_mem_take->xP,mem_of_mem_drop->xQ,mem_append_left->xR,length_pos_iff->xS,range->xT,append_of_mem->xU,range'_succ->xV,perm_middle->xW,not_mem_nil->xX,length_zip->xY,append_nil->xZ,map_take->vA,length->vB
open Classical renaming byContradiction->vC
open Int renaming eq_ofNat_of_zero_le->vD,toNat_of_nonneg->vE,le_refl->vF,tmod_lt_of_pos->vG,tdiv_le_self->vH,tmod_nonneg->vI,tdiv_nonneg->vJ
open ByteArray renaming empty->vK,size->vL,data_append->vM
open Bool renaming false_eq_true->vN,and_eq_true->vO,or_eq_true->vP
open UInt8 renaming ofNat->vQ
namespace Go.Vl
open Go Go.RowKit
open F renaming f53->vR,f109->vS,f108->vT,f135->vU,f74->vV,f38->vW,f137->vX,f100->vY,f68->vZ,f95->uA,f82->uB,f80->uC,f59->uD,f55->uE,f22->uF,f20->uG,f19->uH,f18->uI,f16->uJ,f149->uK,f148->uL,f143->uM,f133->uN,f131->uO,f13->uP,f128->uQ,f124->uR,f115->uS,f1->uT,f84->uU,f78->uV,f76->uW,f73->uX,f71->uY,f70->uZ,f64->kA,f61->kB,f56->kC,f180->kD,f174->kE,f151->kF,f121->kG,f120->kH,f117->kI,f104->kJ,f94->kK,f91->kL,f89->kM,f87->kN,f86->kO,f83->kP,f79->kQ,f72->kR,f60->kS,f57->kT,f48->kU,f41->kV,f24->kW,f23->kX
open E renaming f53_le->kY,f38_le->kZ
open Go.IntKind (i64)
theorem oS {α β:Type}{a:α}{f:α->Option β}:(some a).bind f=f a:=rfl
theorem oE {α β:Type}:(bind:Option α->(α->Option β)->Option β)=Option.bind:=rfl
theorem gQ {α:Type}{l:List α}{i:Nat}(h:i<l.length):l[i]? =some l[i]:=List.getElem?_eq_getElem h
theorem gM {α:Type}{l:List α}{n:Nat}(h:n<l.length):l[n]∈l:=List.getElem_mem h
noncomputable def ZG7 {α:Type}(p:α->Prop):Nat->List α->Option Nat
 |_,[]=>none
 |k,x::r=>if dec (p x)=true then some k else ZG7 p (k+1) r
theorem ZA1 {α:Type}{p:α->Prop}:∀{l:List α} {k j:Nat},ZG7 p k l=some j->k<=j/\∃h:j-k<l.length,p l[j-k]/\∀i (hi:i<l.length),i<j-k->¬p l[i]
 |x::r,k,j,h=>by
  simp only[ZG7]at h
  split at h
  ·next hp=>
   obtain rfl:=Option.some.inj h
   refine⟨zA _,by simp,?_,fun i _ hi=>by omega⟩
   simpa using ZD1.1 hp
  ·next hp=>
   obtain⟨h1,h2,h3,h4⟩:=ZA1 h
   have e:j-k=(j- (k+1))+1:=by omega
   refine⟨by omega,by simp;omega,?_,fun i hi hlt=> ?_⟩
   ·simp only[e,List.getElem_cons_succ];exact h3
   ·cases i with
    |zero=>exact fun hq=>hp (ZG hq)
    |succ i=>exact h4 i (by simpa using hi) (by omega)
theorem ZA2 {α:Type}{p:α->Prop}:∀{l:List α} {k:Nat},ZG7 p k l=none->∀x,x∈l->¬p x
 | [],_,_=>fun x hx=>by cases hx
 |x::r,k,h=>by
  simp only[ZG7]at h
  split at h
  ·cases h
  ·next hp=>
   intro y hy
   rcases yW.1 hy with rfl|hy
   ·exact fun hq=>hp (ZG hq)
   ·exact ZA2 h y hy
theorem ZMm {α:Type}{a:List α}{p:α->Prop}{L:Nat->Option (Lo Int Unit)}(h0:∀k,a.length<=k->L k=some (.go ()))(h1:∀k (h:k<a.length),¬p a[k]->L k=L (k+1))
  (h2:∀k (h:k<a.length),p a[k]->L k=some (.ret (k:Int))):∀(m k:Nat),a.length-k=m->L k=some (match ZG7 p k (a.drop k)with|some j=>.ret (j:Int)|none=>.go ()):=by
 intro m
 induction m with
 |zero=>intro k hm;rw[h0 k (by omega),zX (by omega)];rfl
 |succ m ih=>
  intro k hm
  have hk:k<a.length:=by omega
  rw[zW hk]
  by_cases hp:p a[k]
  ·rw[h2 k hk hp];simp only[ZG7];rw[iP (ZG hp)]
  ·rw[h1 k hk hp,ih (k+1) (by omega)];simp only[ZG7];rw[iN (by rw[ZE hp];simp)]
def ZPa (c:Nat):Prop:=65<=c/\c<=90
def ZFe (s:ByteArray):Prop:=s.size=1/\ZPa (byteAt s 0)/\s≠⟨#[73]⟩
def ZGL (s:ByteArray):Prop:=1<=s.size/\s.size<=5/\ZPa (byteAt s 0)/\∀i,1<=i->i<s.size->97<=byteAt s i/\byteAt s i<=122
def ZBq (n:Nat)(t:Ty):Prop:=(t.data= -1/\t.index=0)∨(0<=t.data/\t.data<n/\-1<=t.index/\t.index<=3)
def ZEz (n:Nat)(c:Ctor):Prop:=ZGL c.name/\c.args.length<=3/\0<=c.index/\c.index<=3/\∀j,0<=j->(h:j<c.args.length)->ZBq n c.args[j]
theorem P.Yp (c:Nat):F.f11 c=some (dec (ZPa c)):=by
 unfold F.f11
 by_cases h:65<=(c:Int)
 ·rw[iP h];congr 1;rw[←ZAL];exact ZL ⟨fun h'=>⟨by omega,by omega⟩,fun h'=>by have:=h'.2;omega⟩
 ·rw[iN h,ZE fun h'=>h (by have:=h'.1;omega)]
theorem P.YAZ (s:ByteArray):F.f12 s=some (dec (ZFe s)):=by
 unfold F.f12
 by_cases h:s.size=1
 ·rw[iP h,iP (by omega),P.Yp]
  simp only[oE,oS]
  by_cases hb:ZPa (byteAt s 0)
  ·rw[iP (ZG hb)];congr 1;rw[←ZAL];exact ZL ⟨fun h'=>⟨h,hb,fun e=>h' (by rw[e])⟩,fun h' e=>h'.2.2 (ZAZ.1 e)⟩
  ·rw[iN (by rw[ZE hb];simp),ZE fun h'=>hb h'.2.1]
 ·rw[iN h,ZE fun h'=>h h'.1]
theorem P.YAN (s:ByteArray)(hs:s.size<=1048576):uP s 1=some (if dec (∀i,1<=i->i<s.size->97<=byteAt s i/\byteAt s i<=122)=true then .go ()else .ret false):=by
 refine ZKA (L:=uP s) (fun k hk=> ?_) (fun k hk hq=> ?_) (fun k hk hq=> ?_) _ 1 rfl
 ·rw[uP,iN (by omega)]
 ·rw[uP,iP hk,iN (by omega),iN (by omega),iP (by omega)]
 ·rw[uP,iP hk]
  by_cases h:byteAt s k<97
  ·rw[iP h]
  ·rw[iN h,iP (by omega)]
theorem P.YAQ (s:ByteArray)(hs:s.size<=1048576):vY s 1=some (if dec (∀i,1<=i->i<s.size->97<=byteAt s i/\byteAt s i<=122)=true then .go ()else .ret false):=by
 refine ZKA (L:=vY s) (fun k hk=> ?_) (fun k hk hq=> ?_) (fun k hk hq=> ?_) _ 1 rfl
 ·rw[vY,iN (by omega)]
 ·rw[vY,iP hk,iN (by omega),iN (by omega),iP (by omega)]
 ·rw[vY,iP hk]
  by_cases h:byteAt s k<97
  ·rw[iP h]
  ·rw[iN h,iP (by omega)]
theorem P.Yr (s:ByteArray)(hs:s.size<=1048576):F.f14 s=some (dec (ZGL s)):=by
 unfold F.f14
 by_cases h0:s.size=0
 ·rw[iP h0,ZE fun h=>by have:=h.1;omega]
 by_cases h5:5<s.size
 ·rw[iN h0,iP h5,ZE fun h=>by have:=h.2.1;omega]
 rw[iN h0,iN h5,iP (by omega),P.Yp]
 simp only[oE,oS]
 by_cases hb:ZPa (byteAt s 0)
 ·rw[iP (ZG hb),P.YAN s hs]
  simp only[oS]
  by_cases hall:∀i,1<=i->i<s.size->97<=byteAt s i/\byteAt s i<=122
  ·rw[iP (ZG hall),ZG ⟨by omega,by omega,hb,hall⟩]
  ·rw[iN (by rw[ZE hall];simp),ZE fun h=>hall h.2.2.2]
 ·rw[iN (by rw[ZE hb];simp),ZE fun h=>hb h.2.2.1]
theorem P.YI (n low high:Int):F.f99 n low high=some (dec (low<=n/\n<=high)):=by
 unfold F.f99
 by_cases h:low<=n
 ·rw[iP h];congr 1;rw[←ZAL];exact ZL ⟨fun h'=>⟨h,h'⟩,fun h'=>h'.2⟩
 ·rw[iN h,ZE fun h'=>h h'.1]
theorem P.Yx (s:ByteArray)(hs:s.size<=1048576):F.f101 s=some (dec (ZGL s)):=by
 unfold F.f101
 rw[P.YI]
 simp only[oE,oS]
 by_cases h0:1<=(s.size:Int)/\(s.size:Int)<=5
 ·rw[iP (ZG h0),iP (by omega)]
  by_cases a1:byteAt s 0<65
  ·rw[iP a1,ZE fun h=>by have:=h.2.2.1.1;omega]
  by_cases a2:90<byteAt s 0
  ·rw[iN a1,iP a2,ZE fun h=>by have:=h.2.2.1.2;omega]
  rw[iN a1,iN a2,P.YAQ s hs]
  simp only[oS]
  by_cases hall:∀i,1<=i->i<s.size->97<=byteAt s i/\byteAt s i<=122
  ·rw[iP (ZG hall),ZG ⟨by omega,by omega,⟨by omega,by omega⟩,hall⟩]
  ·rw[iN (by rw[ZE hall];simp),ZE fun h=>hall h.2.2.2]
 ·rw[iN (by rw[ZE h0];simp),ZE fun h=>h0 ⟨by have:=h.1;omega,by have:=h.2.1;omega⟩]
theorem P.YX (n:Nat)(t:Ty):F.f15 n t=some (dec (ZBq n t)):=by
 unfold F.f15
 by_cases h:t.data= -1
 ·rw[iP h];congr 1;rw[←ZAL];exact ZL ⟨fun h'=>.inl ⟨h,h'⟩,fun h'=>h'.elim (·.2) (fun h'=>by have:=h'.1;omega)⟩
 rw[iN h]
 by_cases h1:0<=t.data
 ·by_cases h2:t.data<n
  ·by_cases h3: -1<=t.index
   ·rw[iP h1,iP h2,iP h3];congr 1;rw[←ZAL];exact ZL ⟨fun h'=>.inr ⟨h1,h2,h3,h'⟩,fun h'=>h'.elim (fun h'=>absurd h'.1 h) (fun h'=>h'.2.2.2)⟩
   ·rw[iP h1,iP h2,iN h3,ZE fun h'=>h'.elim (fun h'=>h h'.1) (fun h'=>h3 h'.2.2.1)]
  ·rw[iP h1,iN h2,ZE fun h'=>h'.elim (fun h'=>h h'.1) (fun h'=>h2 h'.2.1)]
 ·rw[iN h1,ZE fun h'=>h'.elim (fun h'=>h h'.1) (fun h'=>h1 h'.1)]
theorem P.YAl (w:List Data)(t:Ty)(hw:w.length<=1048576):F.f102 w t=some (dec (ZBq w.length t)):=by
 unfold F.f102
 by_cases h:eq2 (t.data,t.index) (-1,0)
 ·rw[iP (ZG h),ZG (.inl h)]
 rw[iN (by rw[ZE h];simp),P.YI,ZD (by omega) (by omega)]
 simp only[oE,oS]
 by_cases h1:0<=t.data/\t.data<=(w.length:Int) -1
 ·rw[iP (ZG h1),P.YI]
  simp only[oS]
  congr 1;exact ZL ⟨fun h'=>.inr ⟨h1.1,by omega,h'.1,h'.2⟩,fun h'=>h'.elim (fun h'=>absurd h' h) (fun h'=>h'.2.2)⟩
 ·rw[iN (by rw[ZE h1];simp),ZE fun h'=>h'.elim (fun h'=>h h') (fun h'=>h1 ⟨h'.1,by have:=h'.2.1;omega⟩)]
theorem P.Yj (n:Nat)(c:Ctor)(hs:c.name.size<=1048576):F.f17 n c=some (dec (ZEz n c)):=by
 unfold F.f17
 rw[P.Yr _ hs]
 simp only[oE,oS]
 by_cases h1:ZGL c.name
 ·rw[iP (ZG h1)]
  by_cases h2:3<c.args.length
  ·rw[iP h2,ZE fun h=>by have:=h.2.1;omega]
  by_cases h3:c.index<0
  ·rw[iN h2,iP h3,ZE fun h=>by have:=h.2.2.1;omega]
  by_cases h4:3<c.index
  ·rw[iN h2,iN h3,iP h4,ZE fun h=>by have:=h.2.2.2.1;omega]
  rw[iN h2,iN h3,iN h4]
  have key:uJ n c 0=some (if dec (∀j,0<=j->j<c.args.length->∀h:j<c.args.length,ZBq n c.args[j])=true then .go ()else .ret false):=by
   refine ZKA (n:=c.args.length) (Q:=fun j=>∀h:j<c.args.length,ZBq n c.args[j]) (L:=uJ n c) (fun k hk=> ?_) (fun k hk hq=> ?_) (fun k hk hq=> ?_) _ 0 rfl
   ·rw[uJ,iN (by omega)]
   ·rw[uJ,iP hk,gQ hk]
    simp only[oE,oS]
    rw[P.YX]
    simp only[oS]
    rw[iP (ZG (hq hk))]
   ·rw[uJ,iP hk,gQ hk]
    simp only[oE,oS]
    rw[P.YX]
    simp only[oS]
    rw[iN (by rw[ZE fun h=>hq fun _=>h];simp)]
  rw[key]
  simp only[oS]
  by_cases hall:∀j,0<=j->j<c.args.length->∀h:j<c.args.length,ZBq n c.args[j]
  ·rw[iP (ZG hall),ZG ⟨h1,by omega,by omega,by omega,fun j h0 hj=>hall j h0 hj hj⟩]
  ·rw[iN (by rw[ZE hall];simp),ZE fun h=>hall fun j h0 _ hj=>h.2.2.2.2 j h0 hj]
 ·rw[iN (by rw[ZE h1];simp),ZE fun h=>h1 h.1]
theorem P.YAF (t:Ty)(w:List Data)(hw:w.length<=1048576):F.f103 t w=some (!dec (ZBq w.length t)):=by
 unfold F.f103
 rw[P.YAl w t hw];rfl
theorem P.YAn (w:List Data)(hw:w.length<=1048576)(s:List Ty):∃v,F.f105 s w=some v/\(0<=v↔¬∀j,0<=j->(h:j<s.length)->ZBq w.length s[j]):=by
 unfold F.f105
 have key:∀(m k:Nat),s.length-k=m->∃r,kJ s w k=some r/\
   match r with| .ret j=>0<=j/\¬∀j,k<=j->(h:j<s.length)->ZBq w.length s[j]| .go _=>∀j,k<=j->(h:j<s.length)->ZBq w.length s[j]:=by
  intro m
  induction m with
  |zero=>
   intro k hm
   rw[kJ,iN (by omega)]
   exact⟨_,rfl,fun j hj h=>by omega⟩
  |succ m ih=>
   intro k hm
   have hk:k<s.length:=by omega
   rw[kJ,iP hk,gQ hk]
   simp only[oE,oS]
   rw[P.YAF _ _ hw]
   simp only[oS]
   by_cases h:ZBq w.length s[k]
   ·rw[iN (by rw[ZG h];simp)]
    obtain⟨r,hr,hx⟩:=ih (k+1) (by omega)
    refine⟨r,hr,?_⟩
    cases r with
    |ret j=>exact⟨hx.1,fun hh=>hx.2 fun j hj hl=>hh j (by omega) hl⟩
    |go _=>
     intro j hj hl
     by_cases e:k=j
     ·subst e;exact h
     ·exact hx j (by omega) hl
   ·rw[iP (by rw[ZE h];simp)]
    exact⟨_,rfl,by omega,fun hh=>h (hh k (zA _) hk)⟩
 obtain⟨r,hr,hx⟩:=key _ 0 rfl
 rw[hr]
 cases r with
 |ret j=>exact⟨j,rfl,fun _=>hx.2,fun _=>hx.1⟩
 |go _=>exact⟨-1,rfl,fun h=>by omega,fun h=>absurd hx h⟩
theorem P.Yl (w:List Data)(c:Ctor)(hw:w.length<=1048576)(hs:c.name.size<=1048576):F.f107 w c=some (dec (ZEz w.length c)):=by
 unfold F.f107
 rw[P.Yx _ hs]
 simp only[oE,oS]
 by_cases h1:ZGL c.name
 ·rw[iP (ZG h1)]
  by_cases h2:c.args.length<=3
  ·rw[iP h2,P.YI]
   simp only[oS]
   by_cases h3:0<=c.index/\c.index<=3
   ·rw[iP (ZG h3)]
    unfold F.f106
    obtain⟨v,hv,hx⟩:=P.YAn w hw c.args
    rw[hv]
    simp only[oE,oS]
    by_cases hall:∀j,0<=j->(h:j<c.args.length)->ZBq w.length c.args[j]
    ·have:¬0<=v:=fun h=>(hx.1 h) hall
     rw[ZG ⟨h1,h2,h3.1,h3.2,hall⟩];simp[this]
    ·have:0<=v:=hx.2 hall
     rw[ZE fun h=>hall h.2.2.2.2];simp[this]
   ·rw[iN (by rw[ZE h3];simp),ZE fun h=>h3 ⟨h.2.2.1,h.2.2.2.1⟩]
  ·rw[iN h2,ZE fun h=>h2 h.2.1]
 ·rw[iN (by rw[ZE h1];simp),ZE fun h=>h1 h.1]
abbrev ZAI (d:Data):List ByteArray:=d.ctors.map (·.name)
structure ctorAt (w:List Data)(i:Nat)(d:Data)(k:Nat)(c:Ctor):Prop where
 ok:ZEz w.length c
 new:c.name∉(w.take i).flatMap ZAI++(d.ctors.take k).map (·.name)
structure dataAt (w:List Data)(i:Nat)(d:Data):Prop where
 name:ZFe d.name
 new:d.name∉(w.take i).map (·.name)
 some:1<=d.ctors.length
 few:d.ctors.length<=4
 ctors:∀k,0<=k->k<d.ctors.length->∀h:k<d.ctors.length,ctorAt w i d k d.ctors[k]
def ZN (w:List Data):Prop:=w.length<=4/\∀i,0<=i->i<w.length->∀h:i<w.length,dataAt w i w[i]
def ZAU (w:List Data):Prop:=w.length<=1048576/\∀d,d∈w->∀c,c∈d.ctors->c.name.size<=1048576
theorem P.YV (w:List Data)(hw:ZAU w)(met4:List ByteArray)(i:Nat)(hi:i<w.length):vT w met4 i w[i] ((w.take i).flatMap ZAI) 0=
  some (if dec (∀k,0<=k->k<w[i].ctors.length->∀h:k<w[i].ctors.length,ctorAt w i w[i] k w[i].ctors[k])=true then .go ((w.take i).flatMap ZAI++ZAI w[i])else .ret false):=by
 have key:=ZR7 (n:=w[i].ctors.length) (r:=false) (p:=(w.take i).flatMap ZAI++ZAI w[i]) (Q:=fun k=>∀h:k<w[i].ctors.length,ctorAt w i w[i] k w[i].ctors[k]) (L:=fun k=>vT w met4 i w[i] ((w.take i).flatMap ZAI++(w[i].ctors.take k).map (·.name)) k)
  (fun k hk=>by
   show vT w met4 i w[i] ((w.take i).flatMap ZAI++(w[i].ctors.take k).map (·.name)) k=_
   rw[vT,iN (by omega),yC hk])
  (fun k hk hq=>by
   show vT w met4 i w[i] ((w.take i).flatMap ZAI++(w[i].ctors.take k).map (·.name)) k=vT w met4 i w[i] ((w.take i).flatMap ZAI++(w[i].ctors.take (k+1)).map (·.name)) (k+1)
   have hc:=hq hk
   rw[vT,iP hk,gQ hk]
   simp only[oE,oS]
   rw[P.Yl w _ hw.1 (hw.2 _ (gM hi) _ (gM hk))]
   simp only[oS]
   rw[iP (ZG hc.ok),iN (by rw[ZE hc.new];simp),ZCT,iN (by rw[ZE hc.new];simp),ZCD hk,yI])
  (fun k hk hq=>by
   show vT w met4 i w[i] ((w.take i).flatMap ZAI++(w[i].ctors.take k).map (·.name)) k=_
   rw[vT,iP hk,gQ hk]
   simp only[oE,oS]
   rw[P.Yl w _ hw.1 (hw.2 _ (gM hi) _ (gM hk))]
   simp only[oS]
   by_cases h1:ZEz w.length w[i].ctors[k]
   ·rw[iP (ZG h1),iP (ZG ?_)]
    apply vC
    intro h2
    exact hq fun _=>⟨h1,h2⟩
   ·rw[iN (by rw[ZE h1];simp)]) _ 0 rfl
 simpa using key
theorem P.YAC (w:List Data)(hw:ZAU w):vS w [] [] 0=some (if dec (∀i,0<=i->i<w.length->∀h:i<w.length,dataAt w i w[i])=true then .go (w.flatMap ZAI,w.map (·.name))else .ret false):=by
 have key:=ZR7 (n:=w.length) (r:=false) (p:=(w.flatMap ZAI,w.map (·.name))) (Q:=fun i=>∀h:i<w.length,dataAt w i w[i]) (L:=fun i=>vS w ((w.take i).flatMap ZAI) ((w.take i).map (·.name)) i)
  (fun i hi=>by
   show vS w ((w.take i).flatMap ZAI) ((w.take i).map (·.name)) i=_
   rw[vS,iN (by omega),yC hi])
  (fun i hi hq=>by
   show vS w ((w.take i).flatMap ZAI) ((w.take i).map (·.name)) i=vS w ((w.take (i+1)).flatMap ZAI) ((w.take (i+1)).map (·.name)) (i+1)
   have hd:=hq hi
   have hn:=hd.name
   have hbig:=hn.2.1
   unfold ZPa at hbig
   have:=hw.1
   rw[vS,iP hi,gQ hi]
   simp only[oE,oS]
   have:=hd.some;have:=hd.few
   rw[iP hn.1,iP (by have:=hn.1;omega),iN (by omega),iN (by omega),iN (fun h=>hn.2.2 (ZAZ.1 h)),iN (by rw[ZE hd.new];simp),P.YI]
   simp only[oS]
   rw[iP (ZG (by omega)),P.YV w hw _ i hi,iP (ZG hd.ctors)]
   simp only[oS]
   rw[iP (by omega),ZCT,iN (by rw[ZE hd.new];simp),ZCD hi,ZCi hi])
  (fun i hi hq=>by
   show vS w ((w.take i).flatMap ZAI) ((w.take i).map (·.name)) i=_
   have:=hw.1
   rw[vS,iP hi,gQ hi]
   simp only[oE,oS]
   by_cases h1:w[i].name.size=1
   ·rw[iP h1,iP (by omega)]
    by_cases h2:byteAt w[i].name 0<65
    ·rw[iP h2]
    by_cases h3:90<byteAt w[i].name 0
    ·rw[iN h2,iP h3]
    by_cases h4:w[i].name.toList=(⟨#[73]⟩:ByteArray).toList
    ·rw[iN h2,iN h3,iP h4]
    by_cases h5:w[i].name∈(w.take i).map (·.name)
    ·rw[iN h2,iN h3,iN h4,iP (ZG h5)]
    rw[iN h2,iN h3,iN h4,iN (by rw[ZE h5];simp),P.YI]
    simp only[oS]
    by_cases h6:1<=(w[i].ctors.length:Int)/\(w[i].ctors.length:Int)<=4
    ·rw[iP (ZG h6),P.YV w hw _ i hi,iN (by
      rw[ZE fun hh=>hq fun _=>⟨⟨h1,⟨by omega,by omega⟩,fun e=>h4 (by rw[e])⟩,h5,by omega,by omega,hh⟩];simp)]
     rfl
    ·rw[iN (by rw[ZE h6];simp)]
   ·rw[iN h1]) _ 0 rfl
 simpa using key
theorem P.Ym (w:List Data)(hw:ZAU w):F.f110 w=some (dec (ZN w)):=by
 unfold F.f110
 by_cases h:4<w.length
 ·rw[iP h,ZE fun hh=>by have:=hh.1;omega]
 rw[iN h,P.YAC w hw]
 simp only[oE,oS]
 by_cases hall:∀i,0<=i->i<w.length->∀h:i<w.length,dataAt w i w[i]
 ·rw[iP (ZG hall),ZG ⟨by omega,hall⟩]
 ·rw[iN (by rw[ZE hall];simp),ZE fun hh=>hall hh.2]
theorem P.YAV (w:List Data)(hw:ZAU w)(d k i:Nat)(hd:d<w.length)(hk:k<w[d].ctors.length)(hi:i<d)(hl:w[d].ctors.length<=4)(hli:w[i].ctors.length<=4):uI w d k i 0=
  some (if dec (∀j,0<=j->j<w[i].ctors.length->∀h:j<w[i].ctors.length,w[i].ctors[j].name≠w[d].ctors[k].name)=true then .go ()else .ret true):=by
 have hi':i<w.length:=by omega
 refine ZKA (n:=w[i].ctors.length) (r:=true) (Q:=fun j=>∀h:j<w[i].ctors.length,w[i].ctors[j].name≠w[d].ctors[k].name) (L:=uI w d k i) (fun j hj=> ?_) (fun j hj hq=> ?_) (fun j hj hq=> ?_) _ 0 rfl
 ·rw[uI,gQ hi']
  simp only[oE,oS]
  rw[iN (by omega)]
 ·rw[uI,gQ hi']
  simp only[oE,oS]
  rw[iP hj,iP (by omega),ZDO hd]
  simp only[oS]
  rw[iP (by omega),gQ hj,ZDO hk]
  simp only[oS]
  rw[iN (fun h=>hq hj (ZAZ.1 h)),iP (by omega)]
 ·rw[uI,gQ hi']
  simp only[oE,oS]
  rw[iP hj,iP (by omega),ZDO hd]
  simp only[oS]
  rw[iP (by omega),gQ hj,ZDO hk]
  simp only[oS]
  rw[iP (ZAZ.2 (vC fun h=>hq fun _=>h))]
theorem P.YAU (w:List Data)(hw:ZAU w)(d k:Nat)(hd:d<w.length)(hk:k<w[d].ctors.length)(hl:w[d].ctors.length<=4):uH w d k d 0=
  some (if dec (∀j,0<=j->j<k->∀h:j<w[d].ctors.length,w[d].ctors[j].name≠w[d].ctors[k].name)=true then .go ()else .ret true):=by
 refine ZKA (n:=k) (r:=true) (Q:=fun j=>∀h:j<w[d].ctors.length,w[d].ctors[j].name≠w[d].ctors[k].name) (L:=uH w d k d) (fun j hj=> ?_) (fun j hj hq=> ?_) (fun j hj hq=> ?_) _ 0 rfl
 ·rw[uH,gQ hd]
  simp only[oE,oS]
  rcases Nat.lt_or_ge j w[d].ctors.length with h|h
  ·rw[iP h,iN (by omega),iN (by omega)]
  ·rw[iN (by omega)]
 ·have hj':j<w[d].ctors.length:=zU hj hk
  rw[uH,gQ hd]
  simp only[oE,oS]
  rw[iP hj',iN (by omega),iP (by omega),ZDO hd]
  simp only[oS]
  rw[iP (by omega),gQ hj',ZDO hk]
  simp only[oS]
  rw[iN (fun h=>hq hj' (ZAZ.1 h)),iP (by omega)]
 ·have hj':j<w[d].ctors.length:=zU hj hk
  rw[uH,gQ hd]
  simp only[oE,oS]
  rw[iP hj',iN (by omega),iP (by omega),ZDO hd]
  simp only[oS]
  rw[iP (by omega),gQ hj',ZDO hk]
  simp only[oS]
  rw[iP (ZAZ.2 (vC fun h=>hq fun _=>h))]
structure fresh (w:List Data)(d k i:Nat)(hd:d<w.length)(hk:k<w[d].ctors.length):Prop where
 data:i<d->∀h:i<w.length,w[i].name≠w[d].name
 ctor:i<d->∀h:i<w.length,∀j,0<=j->j<w[i].ctors.length->∀h:j<w[i].ctors.length,w[i].ctors[j].name≠w[d].ctors[k].name
 own:i=d->∀j,0<=j->j<k->∀h:j<w[d].ctors.length,w[d].ctors[j].name≠w[d].ctors[k].name
theorem P.Ye (w:List Data)(hw:ZAU w)(d k:Nat)(hd:d<w.length)(hk:k<w[d].ctors.length)(hw4:w.length<=4)(hl:∀i,i<=d->∀h:i<w.length,w[i].ctors.length<=4):F.f21 w d k=some (!dec (∀i,0<=i->i<d+1->fresh w d k i hd hk)):=by
 unfold F.f21
 have key:uG w d k 0=some (if dec (∀i,0<=i->i<d+1->fresh w d k i hd hk)=true then .go ()else .ret true):=by
  refine ZKA (n:=d+1) (r:=true) (Q:=fun i=>fresh w d k i hd hk) (L:=uG w d k) (fun i hi=> ?_) (fun i hi hq=> ?_) (fun i hi hq=> ?_) _ 0 rfl
  ·rw[uG,iN (by omega)]
  ·rw[uG,iP (by omega)]
   by_cases h:i<d
   ·have hi':i<w.length:=by omega
    rw[iP (by omega),gQ hi',ZDO hd]
    simp only[oE,oS]
    rw[iN (fun e=>hq.data h hi' (ZAZ.1 e)),P.YAV w hw d k i hd hk h (hl d (zA _) hd) (hl i (by omega) hi'),iP (ZG (hq.ctor h hi'))]
    simp only[oS]
    rw[iP (by omega)]
   ·obtain rfl:i=d:=by omega
    rw[iN (by omega),P.YAU w hw i k hd hk (hl i (zA _) hd),iP (ZG (hq.own rfl))]
    simp only[oE,oS]
    rw[iP (by omega)]
  ·rw[uG,iP (by omega)]
   by_cases h:i<d
   ·have hi':i<w.length:=by omega
    rw[iP (by omega),gQ hi',ZDO hd]
    simp only[oE,oS]
    by_cases hn:w[i].name=w[d].name
    ·rw[iP (ZAZ.2 hn)]
    ·rw[iN (fun e=>hn (ZAZ.1 e)),P.YAV w hw d k i hd hk h (hl d (zA _) hd) (hl i (by omega) hi'),iN (by rw[ZE fun hh=>hq ⟨fun _ _=>hn,fun _ _=>hh,fun e=>by omega⟩];simp)]
     rfl
   ·obtain rfl:i=d:=by omega
    rw[iN (by omega),P.YAU w hw i k hd hk (hl i (zA _) hd),iN (by rw[ZE fun hh=>hq ⟨fun e=>by omega,fun e=>by omega,fun _=>hh⟩];simp)]
    rfl
 rw[key]
 simp only[oE,oS]
 by_cases hall:∀i,0<=i->i<d+1->fresh w d k i hd hk
 ·rw[iP (ZG hall),ZG hall];rfl
 ·rw[iN (by rw[ZE hall];simp),ZE hall];rfl
theorem ZDy (w:List Data)(d k:Nat)(hd:d<w.length)(hk:k<w[d].ctors.length):(∀i,0<=i->i<d+1->fresh w d k i hd hk)↔w[d].name∉(w.take d).map (·.name)/\w[d].ctors[k].name∉(w.take d).flatMap ZAI++(w[d].ctors.take k).map (·.name):=by
 constructor
 ·intro h
  refine⟨fun hm=> ?_,fun hm=> ?_⟩
  ·obtain⟨x,hx,e⟩:=yD.1 hm
   obtain⟨i,hi,rfl⟩:=yQ.1 hx
   exact(h i (by omega) (by omega)).data (by omega) (by omega) e
  ·rcases yB.1 hm with hm|hm
   ·obtain⟨x,hx,hc⟩:=yU.1 hm
    obtain⟨i,hi,rfl⟩:=yQ.1 hx
    obtain⟨c,hc,e⟩:=yD.1 hc
    obtain⟨j,hj,rfl⟩:=yG hc
    exact(h i (by omega) (by omega)).ctor (by omega) (by omega) j (by omega) hj hj e
   ·obtain⟨c,hc,e⟩:=yD.1 hm
    obtain⟨j,hj,rfl⟩:=yQ.1 hc
    exact(h d (by omega) (by omega)).own rfl j (by omega) (by omega) (by omega) e
 ·rintro⟨h1,h2⟩ i _ hi
  refine⟨fun hid hiw e=>h1 (yD.2 ⟨w[i],yQ.2 ⟨i,by omega,rfl⟩,e⟩),fun hid hiw j _ hj hj' e=>h2 (xR _ (yU.2 ⟨w[i],yQ.2 ⟨i,by omega,rfl⟩,yD.2 ⟨_,gM hj,e⟩⟩)),fun e j _ hj hj' e=>h2 (xO _ (yD.2 ⟨_,yQ.2 ⟨j,by omega,rfl⟩,e⟩))⟩
theorem P.Yz (w:List Data)(hw:ZAU w)(d:Nat)(hd:d<w.length)(hw4:w.length<=4)(hl:∀i,i<=d->∀h:i<w.length,w[i].ctors.length<=4):uF w d 0=
  some (if dec (∀k,0<=k->k<w[d].ctors.length->∀h:k<w[d].ctors.length,w[d].name∉(w.take d).map (·.name)/\ctorAt w d w[d] k w[d].ctors[k])=true then .go ()else .ret false):=by
 have hl0:=hl d (zA _) hd
 refine ZKA (n:=w[d].ctors.length) (r:=false) (Q:=fun k=>∀h:k<w[d].ctors.length,w[d].name∉(w.take d).map (·.name)/\ctorAt w d w[d] k w[d].ctors[k]) (L:=uF w d) (fun k hk=> ?_) (fun k hk hq=> ?_) (fun k hk hq=> ?_) _ 0 rfl
 ·rw[uF,gQ hd]
  simp only[oE,oS]
  rw[iN (by omega)]
 ·obtain⟨h1,h2⟩:=hq hk
  rw[uF,gQ hd]
  simp only[oE,oS]
  rw[iP hk,gQ hk]
  simp only[oS]
  rw[P.Yj _ _ (hw.2 _ (gM hd) _ (gM hk))]
  simp only[oS]
  rw[iP (ZG h2.ok),P.Ye w hw d k hd hk hw4 hl]
  simp only[oS]
  rw[ZG ((ZDy w d k hd hk).2 ⟨h1,h2.new⟩),iN (by simp),iP (by omega)]
 ·rw[uF,gQ hd]
  simp only[oE,oS]
  rw[iP hk,gQ hk]
  simp only[oS]
  rw[P.Yj _ _ (hw.2 _ (gM hd) _ (gM hk))]
  simp only[oS]
  by_cases h1:ZEz w.length w[d].ctors[k]
  ·rw[iP (ZG h1),P.Ye w hw d k hd hk hw4 hl]
   simp only[oS]
   rw[ZE fun hh=>hq fun _=>⟨((ZDy w d k hd hk).1 hh).1,⟨h1,((ZDy w d k hd hk).1 hh).2⟩⟩,iP (by simp)]
  ·rw[iN (by rw[ZE h1];simp)]
theorem P.YQ (w:List Data)(hw:ZAU w):kW w=some (dec (ZN w)):=by
 unfold kW
 by_cases h4:4<w.length
 ·rw[iP h4,ZE fun hh=>by have:=hh.1;omega]
 rw[iN h4]
 -- the loop runs only on over types that are right
 have key:∀(m d:Nat),w.length-d=m->(∀i,i<d->∀h:i<w.length,w[i].ctors.length<=4)->kX w d=some (if dec (∀i,d<=i->i<w.length->∀h:i<w.length,dataAt w i w[i])=true then .go ()else .ret false):=by
  intro m
  induction m with
  |zero=>
   intro d hm hl
   rw[kX,iN (by omega),iP (ZG fun i h1 h2=>by omega)]
  |succ m ih=>
   intro d hm hl
   have hd:d<w.length:=by omega
   rw[kX,iP hd,gQ hd]
   simp only[oE,oS]
   rw[P.YAZ]
   simp only[oS]
   have no:¬dataAt w d w[d]->¬∀i,d<=i->i<w.length->∀h:i<w.length,dataAt w i w[i]:=fun h hh=>h (hh d (zA _) hd hd)
   by_cases h1:ZFe w[d].name
   ·rw[iP (ZG h1)]
    by_cases h2:w[d].ctors.length=0
    ·rw[iP h2,iN (by rw[ZE (no fun h=>by have:=h.some;omega)];simp)]
    by_cases h3:4<w[d].ctors.length
    ·rw[iN h2,iP h3,iN (by rw[ZE (no fun h=>by have:=h.few;omega)];simp)]
    have hl':∀i,i<=d->∀h:i<w.length,w[i].ctors.length<=4:=fun i hi h=>by
     by_cases e:i=d
     ·subst e;omega
     ·exact hl i (by omega) h
    rw[iN h2,iN h3,P.Yz w hw d hd (by omega) hl']
    simp only[oS]
    by_cases hq:∀k,0<=k->k<w[d].ctors.length->∀h:k<w[d].ctors.length,w[d].name∉(w.take d).map (·.name)/\ctorAt w d w[d] k w[d].ctors[k]
    ·have hda:dataAt w d w[d]:=⟨h1,(hq 0 (by omega) (by omega) (by omega)).1,by omega,by omega,fun k a b c=>(hq k a b c).2⟩
     rw[iP (ZG hq)]
     simp only
     rw[iP (by omega),ih (d+1) (by omega) fun i hi h=>hl' i (by omega) h]
     by_cases hall:∀i,d+1<=i->i<w.length->∀h:i<w.length,dataAt w i w[i]
     ·rw[iP (ZG hall),iP (ZG fun i a b c=> ?_)]
      by_cases e:i=d
      ·subst e;exact hda
      ·exact hall i (by omega) b c
     ·rw[iN (by rw[ZE hall];simp),iN (by rw[ZE fun hh=>hall fun i a b c=>hh i (by omega) b c];simp)]
    ·rw[iN (by rw[ZE hq];simp)]
     simp only
     rw[iN (by rw[ZE (no fun h=>hq fun k a b c=>⟨h.new,h.ctors k a b c⟩)];simp)]
   ·rw[iN (by rw[ZE h1];simp),iN (by rw[ZE (no fun h=>h1 h.name)];simp)]
 rw[key _ 0 rfl fun i hi=>by omega]
 simp only[oE,oS]
 by_cases hall:∀i,0<=i->i<w.length->∀h:i<w.length,dataAt w i w[i]
 ·rw[iP (ZG hall),ZG ⟨by omega,hall⟩]
 ·rw[iN (by rw[ZE hall];simp),ZE fun hh=>hall hh.2]
def ZY (w:List Data)(t:Ty):Prop:=ZBq w.length t/\0<=t.index
theorem P.YAu (w:List Data)(t:Ty):F.f170 w t=some (dec (ZY w t)):=by
 unfold F.f170
 rw[P.YX]
 simp only[oE,oS]
 by_cases h:ZBq w.length t
 ·rw[iP (ZG h),←ZAL];congr 1;exact ZL ⟨fun h'=>⟨h,h'⟩,fun h'=>h'.2⟩
 ·rw[iN (by rw[ZE h];simp),ZE fun h'=>h h'.1]
theorem P.YAc (w:List Data)(t:Ty)(hw:w.length<=1048576):F.f111 w t=some (dec (ZY w t)):=by
 unfold F.f111
 by_cases h:eq2 (t.data,t.index) (-1,0)
 ·rw[iP (ZG h),ZG ⟨.inl h,by have:=h.2;simp at this;omega⟩]
 rw[iN (by rw[ZE h];simp),P.YI,ZD (by omega) (by omega)]
 simp only[oE,oS]
 by_cases h1:0<=t.data/\t.data<=(w.length:Int) -1
 ·rw[iP (ZG h1),P.YI]
  simp only[oS]
  congr 1;exact ZL ⟨fun h'=>⟨.inr ⟨h1.1,by omega,by omega,h'.2⟩,h'.1⟩,fun h'=>h'.1.elim (fun h'=>absurd h' h) (fun h2=>⟨h'.2,h2.2.2.2⟩)⟩
 ·rw[iN (by rw[ZE h1];simp),ZE fun h'=>h'.1.elim (fun h'=>h h') (fun h'=>h1 ⟨h'.1,by have:=h'.2.1;omega⟩)]
def ZBO (w:List Data)(t:Ty):Prop:=ZN w/\ZY w t
theorem P.Yq (w:List Data)(t:Ty)(hw:ZAU w):F.f171 w t=some (dec (ZBO w t)):=by
 unfold F.f171
 rw[P.YQ w hw]
 simp only[oE,oS]
 by_cases h:ZN w
 ·rw[iP (ZG h),P.YAu]
  simp only[oS]
  congr 1;exact ZL ⟨fun h'=>⟨h,h'⟩,fun h'=>h'.2⟩
 ·rw[iN (by rw[ZE h];simp),ZE fun h'=>h h'.1]
theorem P.Yw (w:List Data)(t:Ty)(hw:ZAU w):F.f112 w t=some (dec (ZBO w t)):=by
 unfold F.f112
 rw[P.Ym w hw]
 simp only[oE,oS]
 by_cases h:ZN w
 ·rw[iP (ZG h),P.YAc w t hw.1]
  simp only[oS]
  congr 1;exact ZL ⟨fun h'=>⟨h,h'⟩,fun h'=>h'.2⟩
 ·rw[iN (by rw[ZE h];simp),ZE fun h'=>h h'.1]
theorem ZKI {w:List Data}(h:wtL Data.wt w<=1048576):ZAU w:=by
 refine⟨by have:=ZA9 Data.wt w;omega,fun d hd c hc=> ?_⟩
 have h1:=Zt Data.wt hd
 have h2:=Zt Ctor.wt hc
 have e1:d.wt=d.name.size+wtL Ctor.wt d.ctors:=rfl
 have e2:c.wt=c.name.size+wtL Ty.wt c.args:=rfl
 omega
def tOk (w:List Data)(t:Ty):Prop:=t.data= -1∨(0<=t.data/\t.data<w.length)
theorem ZBQ {w:List Data}{t:Ty}(h:ZBq w.length t):tOk w t:=h.elim (fun h=>.inl h.1) (fun h=>.inr ⟨h.1,h.2.1⟩)
def ZMk (i:Int)(c:Ctor):Prop:=i=0∨c.index=0∨c.index=i
noncomputable def ZFt (i:Int):Nat->List Ctor->List Int
 |_,[]=>[]
 |k,c::r=>(if dec (ZMk i c)=true then[(k:Int)]else[])++ZFt i (k+1) r
theorem ZIQ (i:Int):∀(k:Nat) (l:List Ctor),(ZFt i k l).length<=l.length
 |_,[]=>by simp[ZFt]
 |k,c::r=>by
  have:=ZIQ i (k+1) r
  unfold ZFt
  split<;>simp<;>omega
theorem ZIP (i:Int){x:Int}:∀{k:Nat} {l:List Ctor},x∈ZFt i k l->(k:Int)<=x/\x<k+l.length
 |_,[],h=>by simp[ZFt]at h
 |k,c::r,h=>by
  unfold ZFt at h
  rcases yB.1 h with h|h
  ·split at h
   ·simp at h;subst h;simp;omega
   ·simp at h
  ·have:=ZIP i h
   simp;omega
def ZZ (w:List Data)(t:Ty):Data:=w.getD t.data.toNat Data.z
noncomputable def ZT (w:List Data)(t:Ty):List Int:=if t.data= -1 then[]else ZFt t.index 0 (ZZ w t).ctors
def Zf (w:List Data)(t:Ty)(c:Int):Ctor:=(ZZ w t).ctors.getD c.toNat Ctor.z
def ZC4 (t:Ty)(c:Ctor)(a:Ty):Ty:=if a.index= -1 then⟨a.data,if c.index=0 then t.index else c.index⟩else a
def ZQ (w:List Data)(t:Ty)(c:Int):List Ty:=(Zf w t c).args.map (ZC4 t (Zf w t c))
theorem ZC3 {w:List Data}{t:Ty}(h:tOk w t)(hn:t.data≠-1):at? w t.data=some (ZZ w t)/\ZZ w t∈w/\∃h:t.data.toNat<w.length,ZZ w t=w[t.data.toNat]:=by
 obtain⟨h1,h2⟩:=h.resolve_left hn
 have hlt:t.data.toNat<w.length:=by omega
 unfold at? ZZ
 rw[iP h1,gQ hlt,yP,gQ hlt]
 exact⟨rfl,gM hlt,hlt,rfl⟩
theorem Zl {w:List Data}(hw:ZN w){t:Ty}(h:tOk w t)(hn:t.data≠-1):(ZZ w t).ctors.length<=4/\∀c,c∈(ZZ w t).ctors->ZEz w.length c:=by
 obtain⟨_,_,hlt,e⟩:=ZC3 h hn
 have hd:=hw.2 t.data.toNat (by omega) hlt hlt
 rw[e]
 refine⟨hd.few,fun c hc=> ?_⟩
 obtain⟨k,hk,rfl⟩:=yG hc
 exact(hd.ctors k (by omega) hk hk).ok
theorem P.YAA (w:List Data)(hw:ZN w)(t:Ty)(h:tOk w t)(hn:t.data≠-1):∀(m k:Nat) (out:List Int),(ZZ w t).ctors.length-k=m->out.length<=k->k<=(ZZ w t).ctors.length->
  kV w t out k=some (out++ZFt t.index k ((ZZ w t).ctors.drop k)):=by
 have h4:=(Zl hw h hn).1
 intro m
 induction m with
 |zero=>
  intro k out hm ho hk
  rw[kV,(ZC3 h hn).1]
  simp only[oE,oS]
  rw[iN (by omega),zX (by omega)];simp[ZFt]
 |succ m ih=>
  intro k out hm ho hk
  have hlt:k<(ZZ w t).ctors.length:=by omega
  rw[kV,(ZC3 h hn).1]
  simp only[oE,oS]
  rw[iP hlt,gQ hlt,zW hlt]
  simp only[oS,ZFt]
  have hf:F.f40 (ZZ w t).ctors[k] t.index=some (dec (ZMk t.index (ZZ w t).ctors[k])):=by
   unfold F.f40
   by_cases h1:(ZZ w t).ctors[k].index=0
   ·rw[iP h1,ZG (.inr (.inl h1))]
   ·by_cases h2:t.index=0
    ·rw[iN h1,iP h2,ZG (.inl h2)]
    ·rw[iN h1,iN h2,←ZAL];congr 1;exact ZL ⟨fun h=>.inr (.inr h),fun h=>h.elim (fun h=>absurd h h2) (fun h=>h.elim (fun h=>absurd h h1) id)⟩
  rw[hf]
  simp only[oS]
  by_cases hfit:ZMk t.index (ZZ w t).ctors[k]
  ·rw[iP (ZG hfit),iP (by omega),iP (by omega),ih (k+1) _ (by omega) (by simp;omega) (by omega),iP (ZG hfit)];simp
  ·rw[iN (by rw[ZE hfit];simp),iP (by omega),ih (k+1) _ (by omega) (by omega) (by omega),iN (by rw[ZE hfit];simp)];simp
theorem P.YP (w:List Data)(hw:ZN w)(t:Ty)(h:tOk w t):F.f42 w t=some (ZT w t):=by
 unfold F.f42 ZT
 by_cases hn:t.data= -1
 ·rw[iP hn,iP hn]
 ·rw[iN hn,iN hn,P.YAA w hw t h hn _ 0 [] rfl (by simp) (by omega)];simp
theorem P.YAE (w:List Data)(hw:ZN w)(t:Ty)(h:tOk w t)(hn:t.data≠-1):∀(m k:Nat) (out:List Int),(ZZ w t).ctors.length-k=m->out.length<=k->k<=(ZZ w t).ctors.length->
  uS t (ZZ w t) k out=some (out++ZFt t.index k ((ZZ w t).ctors.drop k)):=by
 have h4:=(Zl hw h hn).1
 intro m
 induction m with
 |zero=>
  intro k out hm ho hk
  rw[uS,iN (by omega),zX (by omega)];simp[ZFt]
 |succ m ih=>
  intro k out hm ho hk
  have hlt:k<(ZZ w t).ctors.length:=by omega
  rw[uS,iP hlt,gQ hlt,zW hlt]
  simp only[oE,oS,ZFt]
  have yes:ZMk t.index (ZZ w t).ctors[k]->(if out.length+1<=67108864 then uS t (ZZ w t) (k+1) (out++[(k:Int)])else none)=
    some (out++((if dec (ZMk t.index (ZZ w t).ctors[k])=true then[(k:Int)]else[])++ZFt t.index (k+1) ((ZZ w t).ctors.drop (k+1)))):=by
   intro hfit
   rw[iP (by omega),ih (k+1) _ (by omega) (by simp;omega) (by omega),iP (ZG hfit)];simp
  by_cases h1:t.index=0
  ·rw[iP h1];exact yes (.inl h1)
  by_cases h2:(ZZ w t).ctors[k].index=0
  ·rw[iN h1,iP h2];exact yes (.inr (.inl h2))
  by_cases h3:(ZZ w t).ctors[k].index=t.index
  ·rw[iN h1,iN h2,iP h3];exact yes (.inr (.inr h3))
  ·have hfit:¬ZMk t.index (ZZ w t).ctors[k]:=fun h=>h.elim h1 (fun h=>h.elim h2 h3)
   rw[iN h1,iN h2,iN h3,ih (k+1) _ (by omega) (by omega) (by omega),iN (by rw[ZE hfit];simp)];simp
theorem P.YAS (w:List Data)(hw:ZN w)(t:Ty)(h:tOk w t):F.f116 w t=some (ZT w t):=by
 unfold F.f116 ZT
 by_cases hn:t.data= -1
 ·rw[iP hn,iP hn]
 ·rw[iN hn,iN hn,(ZC3 h hn).1]
  simp only[oE,oS]
  rw[P.YAE w hw t h hn _ 0 [] rfl (by simp) (by omega)];simp
theorem ZX {w:List Data}{t:Ty}{c:Int}(h:c∈ZT w t):t.data≠-1/\0<=c/\c<(ZZ w t).ctors.length:=by
 unfold ZT at h
 split at h
 ·cases h
 ·next hn=>
  have:=ZIP t.index h
  exact⟨hn,by omega,by omega⟩
theorem ZBY {w:List Data}{t:Ty}{c:Int}(h:c∈ZT w t):at? (ZZ w t).ctors c=some (Zf w t c)/\Zf w t c∈(ZZ w t).ctors:=by
 obtain⟨_,h1,h2⟩:=ZX h
 have hlt:c.toNat<(ZZ w t).ctors.length:=by omega
 unfold at? Zf
 rw[iP h1,gQ hlt,yP,gQ hlt]
 exact⟨rfl,gM hlt⟩
theorem ZPL {w:List Data}(hw:ZN w){t:Ty}(ht:tOk w t){c:Int}(h:c∈ZT w t):(ZQ w t c).length<=3/\∀a,a∈ZQ w t c->tOk w a:=by
 have hc:=(Zl hw ht (ZX h).1).2 _ (ZBY h).2
 refine⟨by unfold ZQ;rw[yH];exact hc.2.1,fun a ha=> ?_⟩
 obtain⟨b,hb,rfl⟩:=yD.1 ha
 obtain⟨j,hj,rfl⟩:=yG hb
 have:=ZBQ (hc.2.2.2.2 j (by omega) hj)
 unfold ZC4
 split
 ·exact this
 ·exact this
theorem P.YG (w:List Data)(hw:ZN w)(t:Ty)(ht:tOk w t)(c:Int)(h:c∈ZT w t):F.f45 w t c=some (ZQ w t c):=by
 have hc:=(Zl hw ht (ZX h).1).2 _ (ZBY h).2
 unfold F.f45
 rw[(ZC3 ht (ZX h).1).1]
 simp only[oE,oS]
 rw[(ZBY h).1]
 simp only[oS]
 rw[ZIB (L:=F.f44 t (Zf w t c)) (a:=(Zf w t c).args) (g:=ZC4 t (Zf w t c)) (f:=fun a=>some (ZC4 t (Zf w t c) a)) (fun out i=> ?_) (fun _ _=>rfl) _ 0 [] rfl (by have:=hc.2.1;simp;omega)]
 ·simp[ZQ]
 ·rw[F.f44]
  split
  ·cases(Zf w t c).args[i]? with
   |none=>rfl
   |some a=>
    simp only[oE,oS,F.f43,ZC4]
    split
    ·split<;>simp
    ·simp
  ·rfl
theorem P.YAH (w:List Data)(hw:ZN w)(t:Ty)(ht:tOk w t)(c:Int)(h:c∈ZT w t):F.f122 w t c=some (ZQ w t c):=by
 have hc:=(Zl hw ht (ZX h).1).2 _ (ZBY h).2
 unfold F.f122
 rw[(ZC3 ht (ZX h).1).1]
 simp only[oE,oS]
 rw[(ZBY h).1]
 simp only[oS]
 by_cases h0:(Zf w t c).index=0
 ·rw[iP h0,ZIB (L:=fun out i=>kH t (Zf w t c) i out) (a:=(Zf w t c).args) (g:=ZC4 t (Zf w t c)) (f:=fun a=>some (ZC4 t (Zf w t c) a)) (fun out i=> ?_) (fun _ _=>rfl) _ 0 [] rfl (by have:=hc.2.1;simp;omega)]
  ·simp[ZQ]
  ·show kH t (Zf w t c) i out=_
   rw[kH]
   split
   ·cases(Zf w t c).args[i]? with
    |none=>rfl
    |some a=>
     simp only[oE,oS,ZC4]
     split
     ·first|rfl|rw[iP h0]
     ·rfl
   ·rfl
 ·rw[iN h0,ZIB (L:=fun out i=>kG (Zf w t c) i out) (a:=(Zf w t c).args) (g:=ZC4 t (Zf w t c)) (f:=fun a=>some (ZC4 t (Zf w t c) a)) (fun out i=> ?_) (fun _ _=>rfl) _ 0 [] rfl (by have:=hc.2.1;simp;omega)]
  ·simp[ZQ]
  ·show kG (Zf w t c) i out=_
   rw[kG]
   split
   ·cases(Zf w t c).args[i]? with
    |none=>rfl
    |some a=>
     simp only[oE,oS,ZC4]
     split
     ·first|rfl|rw[iN h0]
     ·rfl
   ·rfl
theorem P.YAh (l:List Int)(n:Int):F.f65 l n=some (dec (n∈l)):=by
 unfold F.f65
 rw[ZKA (n:=l.length) (r:=true) (Q:=fun j=>∀h:j<l.length,l[j]≠n) (L:=kA l n) (fun k hk=>by rw[kA,iN (by omega)])
  (fun k hk hq=>by
   rw[kA,iP hk,gQ hk]
   simp only[oE,oS]
   rw[iN (hq hk)])
  (fun k hk hq=>by
   rw[kA,iP hk,gQ hk]
   simp only[oE,oS]
   rw[iP (vC fun h=>hq fun _=>h)]) _ 0 rfl]
 simp only[oE,oS]
 by_cases hm:n∈l
 ·obtain⟨j,hj,e⟩:=yG hm
  rw[iN (by rw[ZE fun hh=>hh j (by omega) hj hj e];simp),ZG hm]
 ·rw[iP (ZG fun j _ hj h e=>hm (by rw[←e];exact gM h)),ZE hm]
theorem P.YS (l:List Int)(n:Int):F.f119 l n=some (dec (n∈l)):=by
 unfold F.f119 F.f118
 have key:∀(m k:Nat),l.length-k=m->∃r,kI l n k=some r/\match r with| .ret j=>0<=j/\n∈l| .go _=>∀j,k<=j->∀h:j<l.length,l[j]≠n:=by
  intro m
  induction m with
  |zero=>intro k hm;rw[kI,iN (by omega)];exact⟨_,rfl,fun j h1 h2=>by omega⟩
  |succ m ih=>
   intro k hm
   have hk:k<l.length:=by omega
   rw[kI,iP hk,gQ hk]
   simp only[oE,oS]
   by_cases h:n=l[k]
   ·rw[iP h];exact⟨_,rfl,by omega,h▸gM hk⟩
   ·rw[iN h]
    obtain⟨r,hr,hx⟩:=ih (k+1) (by omega)
    refine⟨r,hr,?_⟩
    cases r with
    |ret j=>exact hx
    |go _=>
     intro j hj hl
     by_cases e:k=j
     ·subst e;exact fun e=>h e.symm
     ·exact hx j (by omega) hl
 obtain⟨r,hr,hx⟩:=key _ 0 rfl
 rw[hr]
 cases r with
 |ret j=>
  simp only[oE,oS]
  rw[ZG hx.2];simp[hx.1]
 |go _=>
  simp only[oE,oS]
  rw[ZE fun hm=>by obtain⟨j,hj,e⟩:=yG hm;exact hx j (by omega) hj e];simp
def pv (w:List Data)(holes:Bool):Nat->Ty->Value->Prop
 |0,_,_=>False
 |d+1,t,v=>(holes=true/\v.ctor= -2/\v.n=0/\v.kids.length=0)∨(¬(holes=true/\v.ctor= -2)/\
   ((t.data= -1/\v.ctor= -1/\0<=v.n/\v.n<=9/\v.kids.length=0)∨
   (t.data≠-1/\v.n=0/\v.ctor∈ZT w t/\v.kids.length=(ZQ w t v.ctor).length/\
    ∀i,0<=i->i<(ZQ w t v.ctor).length->∀(h:i<(ZQ w t v.ctor).length) (h':i<v.kids.length),pv w holes d (ZQ w t v.ctor)[i] v.kids[i])))
theorem ZNp (v:Value):v.wt=((v.kids.drop 0).map fun k=>1+k.wt).sum:=by
 rw[zY,v.wt_eq]
 have:∀l:List Value,(l.map fun k=>1+k.wt).sum=wtL Value.wt l:=by
  intro l
  induction l with
  |nil=>rfl
  |cons a r ih=>simp[ih]
 exact(this _).symm
def rok (K:Nat)(r:ZB):Prop:=r.f0.length<=2000/\(∀x,x∈r.f0->0<=x/\x<=255)/\0<=r.f1/\r.f1<=(K:Int)
theorem rok.mono {K L:Nat}{r:ZB}(h:rok K r)(hl:K<=L):rok L r:=⟨h.1,h.2.1,h.2.2.1,by have:=h.2.2.2;omega⟩
theorem ZNo {a b:Int}(ha:0<=a)(hb:0<=b)(ha':a<4611686018427387904)(hb':b<4611686018427387904):0<=ZPc .i64 a b:=by
 unfold ZPc
 obtain⟨m,rfl⟩:=vD ha
 obtain⟨n,rfl⟩:=vD hb
 have hm:m<2^62:=by omega
 have hn:n<2^62:=by omega
 have h:(BitVec.ofInt IntKind.i64.bits (m:Int)^^^BitVec.ofInt IntKind.i64.bits (n:Int)).toNat<2^62:=by
  rw[BitVec.toNat_xor]
  refine Nat.xor_lt_two_pow ?_ ?_
  ·show(BitVec.ofInt 64 (m:Int)).toNat<2^62
   rw[BitVec.toNat_ofInt];omega
  ·show(BitVec.ofInt 64 (n:Int)).toNat<2^62
   rw[BitVec.toNat_ofInt];omega
 rw[ZD (by omega) (by omega)]
 exact Int.natCast_nonneg _
theorem ZE1 {α:Type}{xs:List α}{i:Int}(h0:0<=i)(h1:i<xs.length):∃x,at? xs i=some x/\x∈xs:=by
 have hi:i.toNat<xs.length:=by omega
 refine⟨xs[i.toNat],?_,gM hi⟩
 unfold at?
 rw[iP h0,gQ hi]
theorem P.YK {K:Nat}{r:ZB}(h:rok K r)(hK:K<=1099511627776)(n:Int):∃v r',uT r n=some (v,r')/\rok (K+1) r'/\0<=v/\(1<=n->v<n)/\(n<1->v=0):=by
 obtain⟨h1,h2,h3,h4⟩:=h
 unfold uT
 have e1:i64.wrap (r.f1+1)=r.f1+1:=ZD (by omega) (by omega)
 have e2:i64.wrap (r.f1+1-1)=r.f1:=by rw[ZD (by omega) (by omega)];omega
 have hr':rok (K+1) ⟨r.f0,r.f1+1⟩:=⟨h1,h2,by show 0<=r.f1+1;omega,by show r.f1+1<=((K+1:Nat):Int);omega⟩
 rw[e1,e2]
 by_cases hn:n<1
 ·rw[iP hn];exact⟨0,_,rfl,hr',by omega,by omega,fun _=>rfl⟩
 rw[iN hn]
 by_cases hl:r.f0.length=0
 ·rw[iP hl];exact⟨0,_,rfl,hr',by omega,by omega,fun _=>rfl⟩
 rw[iN hl]
 have tm:∀x:Int,0<=x->0<=x.tmod n/\x.tmod n<n:=fun x hx=>⟨vI n hx,vG x (by omega)⟩
 have tl:∀x:Int,0<=x->0<=x.tmod (r.f0.length:Int)/\x.tmod (r.f0.length:Int)<r.f0.length:=fun x hx=>⟨vI _ hx,vG x (by omega)⟩
 by_cases hk:r.f1<(r.f0.length:Int)
 ·rw[iP hk]
  obtain⟨x,hx,hm⟩:=ZE1 h3 hk
  have hb:=h2 x hm
  rw[hx]
  simp only[oE,oS]
  rw[iP (by omega),ZD (by omega) (by omega)]
  have:=tm x hb.1
  exact⟨_,_,rfl,hr',this.1,fun _=>this.2,fun h=>by omega⟩
 ·rw[iN hk,iP (by omega)]
  have e7:i64.wrap (r.f1*7)=r.f1*7:=ZD (by omega) (by omega)
  have e73:i64.wrap (r.f1*7+3)=r.f1*7+3:=ZD (by omega) (by omega)
  rw[e7,e73]
  have t1:=tl r.f1 h3
  have t2:=tl (r.f1*7+3) (by omega)
  obtain⟨x,hx,hm⟩:=ZE1 t1.1 t1.2
  obtain⟨y,hy,hm'⟩:=ZE1 t2.1 t2.2
  have hb:=h2 x hm
  have hb':=h2 y hm'
  have hq0:0<=r.f1.tdiv (r.f0.length:Int):=vJ h3 (by omega)
  have hq1:r.f1.tdiv (r.f0.length:Int)<=r.f1:=vH _ h3
  rw[hx,hy]
  simp only[oE,oS]
  rw[iP (by omega)]
  generalize r.f1.tdiv (r.f0.length:Int)=q at hq0 hq1 ⊢
  rw[ZD (n:=x) (by omega) (by omega),ZD (n:=y) (by omega) (by omega),ZD (n:=q) (by omega) (by omega),ZD (n:=x*131) (by omega) (by omega),ZD (n:=y*1117) (by omega) (by omega),
   ZD (n:=r.f1*29) (by omega) (by omega),ZD (n:=q*53) (by omega) (by omega),ZD (n:=x*131+y*1117) (by omega) (by omega),ZD (n:=x*131+y*1117+r.f1*29) (by omega) (by omega),
   ZD (n:=x*131+y*1117+r.f1*29+q*53) (by omega) (by omega)]
  have hz0:0<=x*131+y*1117+r.f1*29+q*53:=by omega
  have hz1:x*131+y*1117+r.f1*29+q*53<4611686018427387904:=by omega
  generalize x*131+y*1117+r.f1*29+q*53=z at hz0 hz1 ⊢
  have hd0:0<=z.tdiv 64:=vJ hz0 (by omega)
  have hd1:z.tdiv 64<=z:=vH _ hz0
  rw[ZD (n:=z.tdiv 64) (by omega) (by omega)]
  have:=tm _ (ZNo hz0 hd0 hz1 (by omega))
  exact⟨_,_,rfl,hr',this.1,fun _=>this.2,fun h=>by omega⟩
theorem P.num {K:Nat}{r:ZB}(h:rok K r)(hK:K<=1099511627776)(l:List Int)(hl:l≠[]):∃v r',F.f54 r l=some (v,r')/\rok (K+1) r'/\v∈l:=by
 unfold F.f54
 obtain⟨v,r',e,h1,h2,h3,_⟩:=P.YK h hK (l.length:Int)
 have:0<l.length:=xS.2 hl
 obtain⟨x,hx,hm⟩:=ZE1 h2 (h3 (by omega))
 rw[e]
 simp only[oE,oS]
 rw[hx]
 exact⟨x,r',rfl,h1,hm⟩
def W0 :List Data:=[⟨⟨#[76]⟩,[⟨⟨#[78,105,108]⟩,[],0⟩,⟨⟨#[67,111,110,115]⟩,[⟨-1,0⟩,⟨0,0⟩],0⟩]⟩]
theorem ZNO :vW ⟨#[76,61,78,105,108,124,67,111,110,115,40,73,44,76,41]⟩=some (W0,true):=kZ 100 _ _ (by kernel_rfl)
theorem ZNN :vR W0=some [1,1,1,1]:=kY 100 _ _ (by kernel_rfl)
def W1 :List Data:=[⟨⟨#[66]⟩,[⟨⟨#[84,114,117]⟩,[],0⟩,⟨⟨#[70,108,115]⟩,[],0⟩]⟩,⟨⟨#[84]⟩,[⟨⟨#[76,101,97,102]⟩,[],0⟩,⟨⟨#[78,111,100,101]⟩,[⟨1,0⟩,⟨0,0⟩,⟨1,0⟩],0⟩]⟩]
theorem ZNM :vW ⟨#[66,61,84,114,117,124,70,108,115,59,84,61,76,101,97,102,124,78,111,100,101,40,84,44,66,44,84,41]⟩=some (W1,true):=kZ 100 _ _ (by kernel_rfl)
theorem ZNL :vR W1=some [1,1,1,1,1,1,1,1]:=kY 100 _ _ (by kernel_rfl)
def W2 :List Data:=[⟨⟨#[69]⟩,[⟨⟨#[78,117,109]⟩,[⟨-1,0⟩],1⟩,⟨⟨#[66,111,108]⟩,[⟨1,0⟩],2⟩,⟨⟨#[65,100,100]⟩,[⟨0,1⟩,⟨0,1⟩],1⟩,⟨⟨#[73,102]⟩,[⟨0,2⟩,⟨0,-1⟩,⟨0,-1⟩],0⟩]⟩,⟨⟨#[66]⟩,[⟨⟨#[84,114,117]⟩,[],0⟩,⟨⟨#[70,108,115]⟩,[],0⟩]⟩]
theorem ZNK :vW ⟨#[69,61,78,117,109,40,73,41,58,49,124,66,111,108,40,66,41,58,50,124,65,100,100,40,69,49,44,69,49,41,58,49,124,73,102,40,69,50,44,69,42,44,69,42,41,59,66,61,84,114,117,124,70,108,115]⟩=some (W2,true):=kZ 100 _ _ (by kernel_rfl)
theorem ZNJ :vR W2=some [2,2,2,0,1,1,1,1]:=kY 100 _ _ (by kernel_rfl)
def W3 :List Data:=[⟨⟨#[79]⟩,[⟨⟨#[78,111,110]⟩,[],0⟩,⟨⟨#[83,111,109]⟩,[⟨-1,0⟩],0⟩]⟩,⟨⟨#[80]⟩,[⟨⟨#[80,97,105,114]⟩,[⟨0,0⟩,⟨0,0⟩],0⟩]⟩]
theorem ZNI :vW ⟨#[79,61,78,111,110,124,83,111,109,40,73,41,59,80,61,80,97,105,114,40,79,44,79,41]⟩=some (W3,true):=kZ 100 _ _ (by kernel_rfl)
theorem ZNH :vR W3=some [1,1,1,1,2,2,2,2]:=kY 100 _ _ (by kernel_rfl)
def W4 :List Data:=[⟨⟨#[86]⟩,[⟨⟨#[69,110,100]⟩,[],1⟩,⟨⟨#[83,111,109,101]⟩,[⟨-1,0⟩,⟨0,1⟩],2⟩,⟨⟨#[84,119,111]⟩,[⟨0,-1⟩],0⟩]⟩]
theorem ZNG :vW ⟨#[86,61,69,110,100,58,49,124,83,111,109,101,40,73,44,86,49,41,58,50,124,84,119,111,40,86,42,41]⟩=some (W4,true):=kZ 100 _ _ (by kernel_rfl)
theorem ZNF :vR W4=some [1,1,2,0]:=kY 100 _ _ (by kernel_rfl)
def W5 :List Data:=[⟨⟨#[78]⟩,[⟨⟨#[78,101,118,101,114]⟩,[⟨0,0⟩],0⟩]⟩,⟨⟨#[66]⟩,[⟨⟨#[84,114,117]⟩,[],0⟩,⟨⟨#[70,108,115]⟩,[],0⟩,⟨⟨#[77,97,121]⟩,[⟨0,0⟩],0⟩]⟩]
theorem ZNE :vW ⟨#[78,61,78,101,118,101,114,40,78,41,59,66,61,84,114,117,124,70,108,115,124,77,97,121,40,78,41]⟩=some (W5,true):=kZ 100 _ _ (by kernel_rfl)
theorem ZND :vR W5=some [0,0,0,0,1,1,1,1]:=kY 100 _ _ (by kernel_rfl)
def W6 :List Data:=[⟨⟨#[83]⟩,[⟨⟨#[82,101,100]⟩,[],0⟩,⟨⟨#[71,114,101,101,110]⟩,[],0⟩,⟨⟨#[66,108,117,101]⟩,[],0⟩,⟨⟨#[77,105,120]⟩,[⟨0,0⟩,⟨0,0⟩],0⟩]⟩]
theorem ZNC :vW ⟨#[83,61,82,101,100,124,71,114,101,101,110,124,66,108,117,101,124,77,105,120,40,83,44,83,41]⟩=some (W6,true):=kZ 100 _ _ (by kernel_rfl)
theorem ZNB :vR W6=some [1,1,1,1]:=kY 100 _ _ (by kernel_rfl)
def ZFD :List ByteArray:=[⟨#[76,61,78,105,108,124,67,111,110,115,40,73,44,76,41]⟩,⟨#[66,61,84,114,117,124,70,108,115,59,84,61,76,101,97,102,124,78,111,100,101,40,84,44,66,44,84,41]⟩,⟨#[69,61,78,117,109,40,73,41,58,49,124,66,111,108,40,66,41,58,50,124,65,100,100,40,69,49,44,69,49,41,58,49,124,73,102,40,69,50,44,69,42,44,69,42,41,59,66,61,84,114,117,124,70,108,115]⟩,⟨#[79,61,78,111,110,124,83,111,109,40,73,41,59,80,61,80,97,105,114,40,79,44,79,41]⟩,⟨#[86,61,69,110,100,58,49,124,83,111,109,101,40,73,44,86,49,41,58,50,124,84,119,111,40,86,42,41]⟩,⟨#[78,61,78,101,118,101,114,40,78,41,59,66,61,84,114,117,124,70,108,115,124,77,97,121,40,78,41]⟩,⟨#[83,61,82,101,100,124,71,114,101,101,110,124,66,108,117,101,124,77,105,120,40,83,44,83,41]⟩,vK]
theorem P.YA9 :F.f0=some ZFD:=rfl
def ZAT :List (List Data):=[W0,W1,W2,W3,W4,W5,W6]
theorem P.YA8 {K:Nat}{r:ZB}(h:rok K r)(hK:K<=1099511627776):∃w r',F.f39 r=some (w,r')/\rok (K+1) r'/\w∈ZAT:=by
 unfold F.f39
 rw[P.YA9]
 simp only[oE,oS]
 obtain⟨v,r',e,h1,h2,h3,_⟩:=P.YK h hK 7
 have e7:i64.wrap (((8:Nat):Int) -1)=7:=by rw[ZD (by omega) (by omega)];rfl
 have e8:ZFD.length=8:=rfl
 rw[e8,e7,e]
 simp only[oS]
 have h3:=h3 (by omega)
 have hv:v=0∨v=1∨v=2∨v=3∨v=4∨v=5∨v=6:=by omega
 rcases hv with rfl|rfl|rfl|rfl|rfl|rfl|rfl
 ·have:at? ZFD 0=some (⟨#[76,61,78,105,108,124,67,111,110,115,40,73,44,76,41]⟩:ByteArray):=rfl
  rw[this];simp only[oS]
  rw[ZNO]
  exact⟨W0,r',rfl,h1,by simp[ZAT]⟩
 ·have:at? ZFD 1=some (⟨#[66,61,84,114,117,124,70,108,115,59,84,61,76,101,97,102,124,78,111,100,101,40,84,44,66,44,84,41]⟩:ByteArray):=rfl
  rw[this];simp only[oS]
  rw[ZNM]
  exact⟨W1,r',rfl,h1,by simp[ZAT]⟩
 ·have:at? ZFD 2=some (⟨#[69,61,78,117,109,40,73,41,58,49,124,66,111,108,40,66,41,58,50,124,65,100,100,40,69,49,44,69,49,41,58,49,124,73,102,40,69,50,44,69,42,44,69,42,41,59,66,61,84,114,117,124,70,108,115]⟩:ByteArray):=rfl
  rw[this];simp only[oS]
  rw[ZNK]
  exact⟨W2,r',rfl,h1,by simp[ZAT]⟩
 ·have:at? ZFD 3=some (⟨#[79,61,78,111,110,124,83,111,109,40,73,41,59,80,61,80,97,105,114,40,79,44,79,41]⟩:ByteArray):=rfl
  rw[this];simp only[oS]
  rw[ZNI]
  exact⟨W3,r',rfl,h1,by simp[ZAT]⟩
 ·have:at? ZFD 4=some (⟨#[86,61,69,110,100,58,49,124,83,111,109,101,40,73,44,86,49,41,58,50,124,84,119,111,40,86,42,41]⟩:ByteArray):=rfl
  rw[this];simp only[oS]
  rw[ZNG]
  exact⟨W4,r',rfl,h1,by simp[ZAT]⟩
 ·have:at? ZFD 5=some (⟨#[78,61,78,101,118,101,114,40,78,41,59,66,61,84,114,117,124,70,108,115,124,77,97,121,40,78,41]⟩:ByteArray):=rfl
  rw[this];simp only[oS]
  rw[ZNE]
  exact⟨W5,r',rfl,h1,by simp[ZAT]⟩
 ·have:at? ZFD 6=some (⟨#[83,61,82,101,100,124,71,114,101,101,110,124,66,108,117,101,124,77,105,120,40,83,44,83,41]⟩:ByteArray):=rfl
  rw[this];simp only[oS]
  rw[ZNC]
  exact⟨W6,r',rfl,h1,by simp[ZAT]⟩
def ZD7 (code:List Int):Prop:=code.length<=maxLen/\∀x,x∈code->0<=x/\x<=255
theorem ZIT {code:List Int}(h:ZD7 code)(hl:code.length<=2000):rok 0 ⟨code,0⟩:=⟨hl,h.2,vF 0,vF 0⟩
theorem ZKM {code:List Int}(h:ZD7 code):rok 0 ⟨(code.drop 0).take (2000-0),0⟩:=⟨by simp;omega,fun x hx=>h.2 x (xQ (xP hx)),vF 0,vF 0⟩
theorem ZDB {w:List Data}(h:w∈ZAT):ZAU w:=by
 simp only[ZAT,yW,xX,or_false]at h
 rcases h with rfl|rfl|rfl|rfl|rfl|rfl|rfl<;>exact ZKI (by decide)
def tIx (w:List Data)(t:Ty):Prop:=t.data= -1∨(0<=t.data/\t.data<w.length/\0<=t.index/\t.index<=3)
theorem tIx.tOk {w:List Data}{t:Ty}(h:tIx w t):tOk w t:=h.imp id fun h=>⟨h.1,h.2.1⟩
def ZB7 (T:List Int)(t:Ty):Int:=if t.data= -1 then 1 else T.getD (t.data*4+t.index).toNat 0
def ZB0 (T:List Int):Int->List Ty->Int
 |m,[]=>m+1
 |m,a::r=>if ZB7 T a=0 then 0 else ZB0 T (if m<ZB7 T a then ZB7 T a else m) r
def ZCq (w:List Data)(T:List Int)(t:Ty)(c:Int):Int:=ZB0 T 0 (ZQ w t c)
def ZRs (i:Int)(c:Ctor):Bool:=decide (i=0)||decide (c.index=0)||decide (c.index=i)
def ZPj (w:List Data)(T:List Int):Bool:=decide (T.length=w.length*4)&& T.all (fun x=>decide (0<=x)&& decide (x<=2))&&
 (xT w.length).all fun d=>(xT 4).all fun i=>decide (T.getD (d*4+i) 0=0)||
  (xT (w.getD d Data.z).ctors.length).any fun k=>ZRs i ((w.getD d Data.z).ctors.getD k Ctor.z)&& decide (ZCq w T ⟨d,i⟩ k=T.getD (d*4+i) 0)
theorem ZMl {i:Int}{c:Ctor}(h:ZRs i c=true):ZMk i c:=by
 simp only[ZRs,vP,decide_eq_true_eq]at h
 rcases h with(h|h)|h
 ·exact .inl h
 ·exact .inr (.inl h)
 ·exact .inr (.inr h)
theorem ZKJ {i:Int}:∀{k:Nat} {l:List Ctor} {j:Nat} (hj:j<l.length),ZMk i l[j]->((k+j:Nat):Int)∈ZFt i k l
 |k,c::r,0,hj,h=>by simp only[ZFt];rw[iP (ZG (show ZMk i c from h))];exact xR _ (by simp)
 |k,c::r,j+1,hj,h=>by
  simp only[ZFt]
  refine xO _ ?_
  have:=ZKJ (k:=k+1) (l:=r) (j:=j) (by simpa using hj) h
  have e:k+1+j=k+(j+1):=by omega
  rwa[e]at this
structure TOk (w:List Data)(T:List Int):Prop where
 wok:ZN w
 len:T.length=w.length*4
 rng:∀k,0<=T.getD k 0/\T.getD k 0<=2
 has:∀t,tIx w t->t.data≠-1->ZB7 T t≠0->∃c,c∈ZT w t/\ZCq w T t c=ZB7 T t
theorem TOk.of {w:List Data}{T:List Int}(hw:ZN w)(h:ZPj w T=true):TOk w T:=by
 simp only[ZPj,vO,decide_eq_true_eq]at h
 obtain⟨⟨h1,h2⟩,h3⟩:=h
 refine⟨hw,h1,fun k=> ?_,fun t ht hn hd=> ?_⟩
 ·by_cases hk:k<T.length
  ·rw[yP,gQ hk]
   have:=xH.1 h2 _ (gM hk)
   simpa using this
  ·rw[yP,List.getElem?_eq_none (by omega)];simp
 ·obtain⟨q1,q2,q3,q4⟩:=ht.resolve_left hn
  have a1:=xH.1 h3 t.data.toNat (by simp;omega)
  have a2:=xH.1 a1 t.index.toNat (by simp;omega)
  simp only[vP,decide_eq_true_eq]at a2
  have e:(t.data*4+t.index).toNat=t.data.toNat*4+t.index.toNat:=by omega
  have ed:ZB7 T t=T.getD (t.data.toNat*4+t.index.toNat) 0:=by unfold ZB7;rw[iN hn,e]
  have a3:=a2.resolve_left (by rw[←ed];exact hd)
  obtain⟨k,hk,hkk⟩:=List.any_eq_true.1 a3
  simp only[vO,decide_eq_true_eq]at hkk
  have et:(⟨(t.data.toNat:Int),(t.index.toNat:Int)⟩:Ty)=t:=by
   obtain⟨d,i⟩:=t
   simp only at q1 q3 ⊢
   rw[vE q1,vE q3]
  rw[et]at hkk
  have hk':k<(ZZ w t).ctors.length:=by simpa[ZZ]using hk
  refine⟨(k:Int),?_,by rw[hkk.2,ed]⟩
  unfold ZT
  rw[iN hn]
  have hf:=ZMl hkk.1
  rw[vE q3]at hf
  have hg:(w.getD t.data.toNat Data.z).ctors.getD k Ctor.z=(ZZ w t).ctors[k]:=by
   unfold ZZ at hk' ⊢
   rw[yP,gQ hk'];rfl
  rw[hg]at hf
  have:=ZKJ (k:=0) hk' hf
  rwa[zL]at this
theorem TOk.dep {w:List Data}{T:List Int}(h:TOk w T)(t:Ty):0<=ZB7 T t/\ZB7 T t<=2:=by
 unfold ZB7;split
 ·omega
 ·exact h.rng _
theorem P.YO {w:List Data}{T:List Int}(h:TOk w T){t:Ty}(ht:tIx w t):F.f47 T t=some (ZB7 T t):=by
 unfold F.f47 F.f46 ZB7
 by_cases hn:t.data= -1
 ·rw[iP hn,iP hn]
 ·obtain⟨q1,q2,q3,q4⟩:=ht.resolve_left hn
  have hw:=h.wok.1
  rw[iN hn,iN hn,ZD (n:=t.data*4) (by omega) (by omega),ZD (by omega) (by omega)]
  simp only[oE,oS]
  have hl:(t.data*4+t.index).toNat<T.length:=by rw[h.len];omega
  unfold at?
  rw[iP (by omega),gQ hl,yP,gQ hl]
  rfl
theorem ZLZ {w:List Data}(hw:ZN w){t:Ty}(ht:tIx w t){c:Int}(h:c∈ZT w t):∀a,a∈ZQ w t c->tIx w a:=by
 have hc:=(Zl hw ht.tOk (ZX h).1).2 _ (ZBY h).2
 have hn:=(ZX h).1
 intro a ha
 obtain⟨b,hb,rfl⟩:=yD.1 ha
 obtain⟨j,hj,rfl⟩:=yG hb
 have:=hc.2.2.2.2 j (by omega) hj
 obtain⟨q1,q2,q3,q4⟩:=ht.resolve_left hn
 unfold ZC4
 rcases this with⟨p1,p2⟩|⟨p1,p2,p3,p4⟩
 ·rw[iN (by omega)];exact .inl p1
 ·split
  ·next e=>
   refine .inr ⟨p1,p2,?_,?_⟩
   ·show 0<=(if(Zf w t c).index=0 then t.index else(Zf w t c).index)
    split
    ·exact q3
    ·exact hc.2.2.1
   ·show(if(Zf w t c).index=0 then t.index else(Zf w t c).index)<=3
    split
    ·exact q4
    ·exact hc.2.2.2.1
  ·next e=>exact .inr ⟨p1,p2,by omega,p4⟩
theorem ZFS {w:List Data}{T:List Int}(h:TOk w T):∀(l:List Ty) (m:Int),0<=m->m<=2->0<=ZB0 T m l/\ZB0 T m l<=3/\(ZB0 T m l≠0->m+1<=ZB0 T m l/\∀a,a∈l->ZB7 T a≠0/\ZB7 T a+1<=ZB0 T m l)
 | [],m,h0,h2=>⟨by simp only[ZB0];omega,by simp only[ZB0];omega,fun _=>⟨by simp only[ZB0];omega,fun a ha=>by cases ha⟩⟩
 |a::r,m,h0,h2=>by
  have hd:=h.dep a
  simp only[ZB0]
  by_cases ha:ZB7 T a=0
  ·rw[iP ha];exact⟨by omega,by omega,fun h=>absurd rfl h⟩
  ·rw[iN ha]
   have hm:∃m',(if m<ZB7 T a then ZB7 T a else m)=m'/\0<=m'/\m'<=2/\m<=m'/\ZB7 T a<=m':=by
    split
    ·exact⟨_,rfl,by omega,by omega,by omega,by omega⟩
    ·exact⟨_,rfl,by omega,by omega,by omega,by omega⟩
   obtain⟨m',e,k0,k2,k3,k4⟩:=hm
   rw[e]
   obtain⟨i1,i2,i3⟩:=ZFS h r m' k0 k2
   refine⟨i1,i2,fun hne=> ?_⟩
   obtain⟨j1,j2⟩:=i3 hne
   refine⟨by omega,fun b hb=> ?_⟩
   rcases yW.1 hb with rfl|hb
   ·exact⟨ha,by omega⟩
   ·exact j2 b hb
def mR (n:Int):Lo Int Int:=if n=0 then .ret 0 else .go (n-1)
theorem P.Yo {w:List Data}{T:List Int}(h:TOk w T)(l:List Ty)(hl:∀a,a∈l->tIx w a):∀(n k:Nat) (m:Int),l.length-k=n->0<=m->m<=2->
  kU T l m k=some (mR (ZB0 T m (l.drop k))):=by
 intro n
 induction n with
 |zero=>
  intro k m hn h0 h2
  rw[kU,iN (by omega),zX (by omega)]
  show some (Lo.go m)=some (mR (m+1))
  unfold mR
  rw[iN (by omega)];congr 2;omega
 |succ n ih=>
  intro k m hn h0 h2
  have hk:k<l.length:=by omega
  have hd:=h.dep l[k]
  rw[kU,iP hk,gQ hk]
  simp only[oE,oS]
  rw[P.YO h (hl _ (gM hk)),zW hk]
  simp only[oS,ZB0]
  by_cases ha:ZB7 T l[k]=0
  ·rw[iP ha,iP ha];rfl
  ·rw[iN ha,iN ha]
   by_cases hm:m<ZB7 T l[k]
   ·rw[iP hm,iP hm,ih _ _ (by omega) (by omega) (by omega)]
   ·rw[iN hm,iN hm,ih _ _ (by omega) (by omega) (by omega)]
theorem P.YAY {w:List Data}{T:List Int}(h:TOk w T){t:Ty}(ht:tIx w t){c:Int}(hc:c∈ZT w t):F.f49 w T t c=some (ZCq w T t c):=by
 unfold F.f49
 rw[P.YG w h.wok t ht.tOk c hc]
 simp only[oE,oS]
 rw[P.Yo h _ (ZLZ h.wok ht hc) _ 0 0 rfl (by omega) (by omega),zY]
 simp only[oS]
 have:=ZFS h (ZQ w t c) 0 (by omega) (by omega)
 unfold ZCq
 unfold mR
 by_cases h0:ZB0 T 0 (ZQ w t c)=0
 ·rw[iP h0,h0]
 ·rw[iN h0]
  show some (i64.wrap (ZB0 T 0 (ZQ w t c) -1+1))=_
  rw[ZD (by omega) (by omega)];congr 1;omega
def ZCy (w:List Data)(T:List Int)(t:Ty)(depth:Int)(c:Int):Bool:=decide (0<ZCq w T t c)&& (decide (ZCq w T t c<=depth)||decide (ZCq w T t c=ZB7 T t))
theorem P.Yn {w:List Data}{T:List Int}(h:TOk w T){t:Ty}(ht:tIx w t)(r:ZB)(depth:Int)(l:List Int)(hl:∀c,c∈l->c∈ZT w t)(h8:l.length<=4):∀(n k:Nat) (out:List Int),l.length-k=n->out.length<=k->
  uE r w T t depth l out k=some (out++(l.drop k).filter (ZCy w T t depth)):=by
 intro n
 induction n with
 |zero=>intro k out hn ho;rw[uE,iN (by omega),zX (by omega)];simp
 |succ n ih=>
  intro k out hn ho
  have hk:k<l.length:=by omega
  rw[uE,iP hk,gQ hk]
  simp only[oE,oS]
  rw[P.YAY h ht (hl _ (gM hk)),zW hk,P.YO h ht]
  simp only[oS]
  have yes:ZCy w T t depth l[k]=true->uE r w T t depth l (out++[l[k]]) (k+1)=some (out++(l[k]::l.drop (k+1)).filter (ZCy w T t depth)):=fun hf=>by
   rw[ih (k+1) _ (by omega) (by simp;omega),List.filter_cons_of_pos hf];simp
  have no:ZCy w T t depth l[k]=false->uE r w T t depth l out (k+1)=some (out++(l[k]::l.drop (k+1)).filter (ZCy w T t depth)):=fun hf=>by
   rw[ih (k+1) _ (by omega) (by omega),List.filter_cons_of_neg (by simp[hf])]
  by_cases h1:0<ZCq w T t l[k]
  ·rw[iP h1]
   by_cases h2:ZCq w T t l[k]<=depth
   ·rw[iP h2,iP (by omega)];exact yes (by simp[ZCy,h1,h2])
   ·rw[iN h2]
    by_cases h3:ZCq w T t l[k]=ZB7 T t
    ·rw[iP h3,iP (by omega)];exact yes (by simp only[ZCy,h1,h3];simp[←h3,h1])
    ·rw[iN h3];exact no (by simp[ZCy,h2,h3])
  ·rw[iN h1];exact no (by simp[ZCy,h1])
theorem ZKK {w:List Data}(hw:ZN w){t:Ty}(ht:tOk w t):(ZT w t).length<=4:=by
 unfold ZT
 split
 ·simp
 ·next hn=>exact zF (ZIQ _ _ _) (Zl hw ht hn).1
theorem ZPf (c n:Int)(ks:List Value):(⟨c,n,ks⟩:Value).wt=((ks.map fun k=>1+k.wt).sum):=by
 have:=ZNp ⟨c,n,ks⟩
 simpa using this
theorem P.YAs {w:List Data}{T:List Int}(h:TOk w T):∀(n:Nat) (t:Ty) (depth:Int) (K:Nat) (r:ZB),tIx w t->ZB7 T t≠0->ZB7 T t<=n->depth<=n->-1000000+n<=depth->n<=12->rok K r->K+4^n<=1099511627776->
  ∃v r',kC r w T t depth=some (v,r')/\rok (K+4^n) r'/\pv w false n t v/\v.wt+1<=4^n/\(t.data≠-1->∀a,a∈ZQ w t v.ctor->ZB7 T a≠0)
 |0,t,depth,K,r,ht,hd,hdn,_,_,_,_,_=>by have:=h.dep t;omega
 |n+1,t,depth,K,r,ht,hd,hdn,hde,hlo,h12,hr,hK=>by
  have p4:1<=4^n:=Nat.one_le_pow _ _ (by omega)
  have p4':4^ (n+1)=4*4^n:=by rw[zH];omega
  rw[kC]
  by_cases hn:t.data= -1
  ·rw[iP hn]
   obtain⟨v,r',e,h1,h2,h3,_⟩:=P.YK hr (by omega) 10
   have h3:=h3 (by omega)
   rw[e]
   refine⟨_,_,rfl,h1.mono (by omega),?_,?_,fun h=>absurd hn h⟩
   ·exact .inr ⟨by simp,.inl ⟨hn,rfl,h2,by show v<=9;omega,rfl⟩⟩
   ·rw[ZPf];simp;omega
  ·rw[iN hn,P.YP w h.wok t ht.tOk]
   simp only[oE,oS]
   rw[P.Yn h ht r depth _ (fun c hc=>hc) (ZKK h.wok ht.tOk) _ 0 [] rfl (by simp),zY,yM]
   simp only[oS]
   obtain⟨c0,hc0,hm0⟩:=h.has t ht hn hd
   have hdt:=h.dep t
   have hf0:c0∈(ZT w t).filter (ZCy w T t depth):=xC.2 ⟨hc0,by simp only[ZCy,hm0];simp;omega⟩
   have hpos:=List.length_pos_of_mem hf0
   obtain⟨v,r1,e,h1,h2,h3,_⟩:=P.YK hr (by omega) (((ZT w t).filter (ZCy w T t depth)).length:Int)
   obtain⟨c,hcx,hcm⟩:=ZE1 h2 (h3 (by omega))
   rw[e];simp only[oS]
   rw[hcx];simp only[oS]
   obtain⟨hcl,hcf⟩:=xC.1 hcm
   simp only[ZCy,vO,vP,decide_eq_true_eq]at hcf
   rw[P.YG w h.wok t ht.tOk c hcl]
   simp only[oS]
   obtain⟨g1,g2,g3⟩:=ZFS h (ZQ w t c) 0 (by omega) (by omega)
   have g3:=g3 (by unfold ZCq at hcf;omega)
   have hal:=(ZPL h.wok ht.tOk hcl).1
   have hax:=ZLZ h.wok ht hcl
   have hmn:ZCq w T t c<=(n:Int)+1:=by rcases hcf.2 with q|q<;>omega
   have kid:∀a,a∈ZQ w t c->∀K r,rok K r->K+4^n<=1099511627776->∃v r',kC r w T a (i64.wrap (depth-1))=some (v,r')/\rok (K+4^n) r'/\pv w false n a v/\v.wt+1<=4^n:=by
    intro a ha K r hr hK
    rw[ZD (by omega) (by omega)]
    obtain⟨q1,q2⟩:=g3.2 a ha
    obtain⟨v,r',e,k1,k2,k3,_⟩:=P.YAs h n a (depth-1) K r (hax a ha) q1 (by unfold ZCq at hmn;omega) (by omega) (by omega) (by omega) hr hK
    exact⟨v,r',e,k1,k2,k3⟩
   have loop:∀(m k:Nat) (z:List Int) (z33:Int) (out:List Value) (K:Nat),(ZQ w t c).length-k=m->out.length=k->rok K ⟨z,z33⟩->K+m*4^n<=1099511627776->
     (∀i (hi:i<out.length) (hi':i<(ZQ w t c).length),pv w false n (ZQ w t c)[i] out[i])->((out.map fun k=>1+k.wt).sum)<=k*4^n->k<=(ZQ w t c).length->
     ∃z' z33' out',kT w T depth c (ZQ w t c) z z33 out k=some (z',z33',out')/\rok (K+m*4^n) ⟨z',z33'⟩/\out'.length=(ZQ w t c).length/\
      (∀i (hi:i<out'.length) (hi':i<(ZQ w t c).length),pv w false n (ZQ w t c)[i] out'[i])/\((out'.map fun k=>1+k.wt).sum)<=(ZQ w t c).length*4^n:=by
    intro m
    induction m with
    |zero=>
     intro k z z33 out K hm ho hr hK hp hs hk
     rw[kT,iN (by omega)]
     have:k=(ZQ w t c).length:=by omega
     subst this
     exact⟨z,z33,out,rfl,by simpa using hr,ho,hp,hs⟩
    |succ m ih=>
     intro k z z33 out K hm ho hr hK hp hs hkl
     have hk:k<(ZQ w t c).length:=by omega
     rw[kT,iP hk,gQ hk]
     simp only[oE,oS]
     have e1:(m+1)*4^n=m*4^n+4^n:=by rw[zS]
     obtain⟨v,r',e,k1,k2,k3⟩:=kid _ (gM hk) K ⟨z,z33⟩ hr (by omega)
     rw[e];simp only[oS]
     rw[iP (by omega)]
     have e2:(k+1)*4^n=k*4^n+4^n:=by rw[zS]
     have key:=fun p1 p2=>ih (k+1) r'.f0 r'.f1 (out++[v]) (K+4^n) (by omega) (by simp[ho]) k1 (by omega) p1 p2 hk
     obtain⟨z',z33',out',q1,q2,q3⟩:=key (by
      intro i hi hi'
      by_cases hik:i<out.length
      ·rw[xM hik];exact hp i hik hi'
      ·have:i=k:=by simp at hi;omega
       subst this
       rw[xL (by omega)]
       simpa using k2) (by
      simp only[yN,List.sum_append,yA,xG,yV,List.sum_nil];omega)
     exact⟨z',z33',out',q1,q2.mono (by omega),q3⟩
   have m3:(ZQ w t c).length*4^n<=3*4^n:=zC _ hal
   obtain⟨z',z33',out',q1,q2,q3,q4,q5⟩:=loop _ 0 r1.f0 r1.f1 [] (K+1) rfl rfl h1 (by simp only[zT];omega) (fun i hi=>by simp at hi) (by simp) (by omega)
   rw[q1];simp only[oS]
   refine⟨_,_,rfl,q2.mono (by simp only[zT];omega),?_,?_,fun _ a ha=>(g3.2 a ha).1⟩
   ·refine .inr ⟨by simp,.inr ⟨hn,rfl,hcl,q3,fun i _ _ hi hi'=>q4 i hi' hi⟩⟩
   ·rw[ZPf];omega
theorem P.YA4 {w:List Data}{T:List Int}(h:TOk w T)(n:Nat)(t:Ty)(depth:Int)(K:Nat)(r:ZB)(a1:tIx w t)(a2:ZB7 T t≠0)(a3:ZB7 T t<=n)(a4:depth<=n)(a5: -1000000+n<=depth)(a6:n<=12)(a7:rok K r)(a8:K+4^n<=1099511627776):
  ∃v r',kC r w T t depth=some (v,r')/\rok (K+4^n) r'/\pv w false n t v/\v.wt+1<=4^n:=by
 obtain⟨v,r',e,k1,k2,k3,_⟩:=P.YAs h n t depth K r a1 a2 a3 a4 a5 a6 a7 a8
 exact⟨v,r',e,k1,k2,k3⟩
theorem ZLu {w:List Data}(hw:w∈ZAT):ZN w/\1<=w.length/\w.length<=2/\ZAU w/\∃T,vR w=some T/\TOk w T:=by
 have hs:=ZDB hw
 have wok:kW w=some true->ZN w:=fun h=>by rw[P.YQ w hs]at h;exact ZD1.1 (Option.some.inj h)
 simp only[ZAT,yW,xX,or_false]at hw
 rcases hw with rfl|rfl|rfl|rfl|rfl|rfl|rfl
 ·have:=wok (E.f24_le 100 _ _ (by kernel_rfl));exact⟨this,by decide,by decide,hs,_,ZNN,TOk.of this (by decide)⟩
 ·have:=wok (E.f24_le 100 _ _ (by kernel_rfl));exact⟨this,by decide,by decide,hs,_,ZNL,TOk.of this (by decide)⟩
 ·have:=wok (E.f24_le 100 _ _ (by kernel_rfl));exact⟨this,by decide,by decide,hs,_,ZNJ,TOk.of this (by decide)⟩
 ·have:=wok (E.f24_le 100 _ _ (by kernel_rfl));exact⟨this,by decide,by decide,hs,_,ZNH,TOk.of this (by decide)⟩
 ·have:=wok (E.f24_le 100 _ _ (by kernel_rfl));exact⟨this,by decide,by decide,hs,_,ZNF,TOk.of this (by decide)⟩
 ·have:=wok (E.f24_le 100 _ _ (by kernel_rfl));exact⟨this,by decide,by decide,hs,_,ZND,TOk.of this (by decide)⟩
 ·have:=wok (E.f24_le 100 _ _ (by kernel_rfl));exact⟨this,by decide,by decide,hs,_,ZNB,TOk.of this (by decide)⟩
theorem P.YA3 {K:Nat}{r:ZB}(h:rok K r)(hK:K+300<=1099511627776):∃w t v r' T,F.f58 r=some (w,t,v,r')/\rok (K+300) r'/\w∈ZAT/\vR w=some T/\TOk w T/\tIx w t/\t.index<=2/\0<=t.index/\ZB7 T t≠0/\pv w false 4 t v/\v.wt+1<=256/\(t.data= -1->t.index=0):=by
 unfold F.f58
 obtain⟨w,r1,e1,h1,hw⟩:=P.YA8 h (by omega)
 obtain⟨hwo,hl1,hl2,hs,T,hT,hTo⟩:=ZLu hw
 obtain⟨p,r2,e2,h2,p0,p1,_⟩:=P.YK h1 (by omega) (w.length:Int)
 obtain⟨i,r3,e3,h3,hi⟩:=P.num h2 (by omega) [0,0,1,2] (by simp)
 obtain⟨d,r4,e4,h4,hd⟩:=P.num h3 (by omega) [3,2,4,1] (by simp)
 have hi:0<=i/\i<=2:=by simp at hi;omega
 have hd:1<=d/\d<=4:=by simp at hd;omega
 have p1:=p1 (by omega)
 have ht:tIx w ⟨p,i⟩:=.inr ⟨p0,p1,hi.1,by show i<=3;omega⟩
 rw[e1];simp only[oE,oS]
 rw[hT];simp only[oS]
 rw[e2];simp only[oS]
 rw[e3];simp only[oS]
 rw[P.YO hTo ht,e4];simp only[oS]
 split
 ·obtain⟨v,r',e,k1,k2,k3⟩:=P.YA4 hTo 4 ⟨-1,0⟩ d _ r4 (.inl rfl) (by simp[ZB7]) (by simp[ZB7]) (by omega) (by omega) (by omega) h4 (by omega)
  rw[e]
  exact⟨w,⟨-1,0⟩,v,r',T,rfl,k1.mono (by omega),hw,hT,hTo,.inl rfl,by simp,by simp,by simp[ZB7],k2,k3,fun _=>rfl⟩
 ·next hne=>
  have:=hTo.dep ⟨p,i⟩
  obtain⟨v,r',e,k1,k2,k3⟩:=P.YA4 hTo 4 ⟨p,i⟩ d _ r4 ht hne (by omega) (by omega) (by omega) (by omega) h4 (by omega)
  rw[e]
  exact⟨w,⟨p,i⟩,v,r',T,rfl,k1.mono (by omega),hw,hT,hTo,ht,hi.2,hi.1,hne,k2,k3,fun hh=>by have:p= -1:=hh;omega⟩
theorem ZCc {a b:ByteArray}(h:a.data.toList=b.data.toList):a=b:=by
 obtain⟨x⟩:=a
 obtain⟨y⟩:=b
 congr 1
 exact Array.toList_inj.1 h
theorem ZCd (a b:ByteArray):(a++b).data.toList=a.data.toList++b.data.toList:=by rw[vM,Array.toList_append]
theorem ZFn (a:ByteArray):a.size=a.data.toList.length:=by rw[Array.length_toList];rfl
theorem ZM (a b:ByteArray):(a++b).size=a.size+b.size:=by rw[ZFn,ZCd,zZ,←ZFn,←ZFn]
theorem ZAS (a b c:ByteArray):a++b++c=a++(b++c):=ZCc (by simp[ZCd])
theorem ZNm (a:ByteArray):a++vK=a:=ZCc (by simp[ZCd])
theorem ZNf (a:ByteArray):vK++a=a:=ZCc (by simp[ZCd])
theorem ZNq (n:Int):IntKind.u8.wrap n=n%256:=rfl
theorem ZFw (n:Int):i64.wrap n%256=n%256:=by
 have:i64.wrap n=n%18446744073709551616∨i64.wrap n=n%18446744073709551616-18446744073709551616:=by
  unfold IntKind.wrap
  simp only
  split
  ·exact .inr rfl
  ·exact .inl rfl
 rcases this with e|e<;>omega
noncomputable def ZEP (l:List VarType)(n:Int):Int:=match ZG7 (fun x=>x.var=n) 0 l with
 |some j=>(j:Int)
 |none=> -1
theorem P.YF (l:List VarType)(n:Int):kQ l n=some (ZEP l n):=by
 unfold kQ ZEP
 rw[ZMm (a:=l) (p:=fun x=>x.var=n) (L:=uV l n) (fun k hk=>by rw[uV,iN (by omega)])
  (fun k hk hp=>by rw[uV,iP hk,gQ hk];simp only[oE,oS];rw[iN hp])
  (fun k hk hp=>by rw[uV,iP hk,gQ hk];simp only[oE,oS];rw[iP hp]) _ 0 rfl,zY]
 cases ZG7 (fun x=>x.var=n) 0 l<;>rfl
theorem ZB5 (l:List VarType)(n:Int):ZEP l n= -1∨∃(j:Nat) (h:j<l.length),ZEP l n=(j:Int)/\l[j].var=n/\∀i (hi:i<l.length),i<j->l[i].var≠n:=by
 unfold ZEP
 cases h:ZG7 (fun x:VarType=>x.var=n) 0 l with
 |none=>exact .inl rfl
 |some j=>
  obtain⟨_,h2,h3,h4⟩:=ZA1 h
  exact .inr ⟨j,h2,rfl,h3,h4⟩
theorem ZEu (l:List VarType)(j:Nat)(hj:j<l.length):ZEP l l[j].var=(j:Int)↔∀i (hi:i<l.length),i<j->l[i].var≠l[j].var:=by
 constructor
 ·intro h
  rcases ZB5 l l[j].var with q|⟨k,hk,q1,q2,q3⟩
  ·omega
  ·have:k=j:=by omega
   subst this;exact q3
 ·intro h
  unfold ZEP
  cases hf:ZG7 (fun x:VarType=>x.var=l[j].var) 0 l with
  |none=>exact absurd rfl (ZA2 hf l[j] (gM hj))
  |some k=>
   obtain⟨_,h2,h3,h4⟩:=ZA1 hf
   show(k:Int)=j
   have:¬k<j:=fun hlt=>h k h2 hlt h3
   have:¬j<k:=fun hlt=>h4 j hj (by omega) rfl
   omega
theorem P.YBH (v:Int):F.f114 v=some (dec (0<=v/\v<=5)):=by
 unfold F.f114;rw[P.YI];rfl
theorem ZE3 {w:List Data}(hw:ZN w){t:Ty}(ht:ZY w t){c:Int}(h:c∈ZT w t):∀a,a∈ZQ w t c->ZY w a:=by
 have hc:=(Zl hw (ZBQ ht.1) (ZX h).1).2 _ (ZBY h).2
 have hn:=(ZX h).1
 intro a ha
 obtain⟨b,hb,rfl⟩:=yD.1 ha
 obtain⟨j,hj,rfl⟩:=yG hb
 have:=hc.2.2.2.2 j (by omega) hj
 have ht2:=ht.2
 rcases ht.1 with q|⟨q1,q2,q3,q4⟩
 ·exact absurd q.1 hn
 unfold ZC4
 rcases this with⟨p1,p2⟩|⟨p1,p2,p3,p4⟩
 ·rw[iN (by omega)];exact⟨.inl ⟨p1,p2⟩,by omega⟩
 ·split
  ·next e=>
   have hx:0<=(if(Zf w t c).index=0 then t.index else(Zf w t c).index)/\(if(Zf w t c).index=0 then t.index else(Zf w t c).index)<=3:=by
    split
    ·exact⟨ht2,q4⟩
    ·exact⟨hc.2.2.1,hc.2.2.2.1⟩
   exact⟨.inr ⟨p1,p2,by show -1<=(if(Zf w t c).index=0 then t.index else(Zf w t c).index);omega,hx.2⟩,hx.1⟩
  ·next e=>exact⟨.inr ⟨p1,p2,p3,p4⟩,by omega⟩
def ZAw (w:List Data)(t:Ty)(p:Pattern):Prop:=
 (p.op=1/\p.var=0/\p.n=0/\p.m=0/\p.ctor=0)∨
 (p.op=2/\0<=p.var/\p.var<=5/\p.n=0/\p.m=0/\p.ctor=0)∨
 (p.op=3/\p.var=0/\p.ctor=0/\t.data= -1/\0<=p.n/\p.n<=p.m/\p.m<=9)∨
 (p.op=4/\p.var=0/\p.n=0/\p.m=0/\p.ctor∈ZT w t)∨
 (p.op=5/\p.var=0/\p.n=0/\p.m=0/\p.ctor=0)∨
 (p.op=6/\0<=p.var/\p.var<=5/\p.n=0/\p.m=0/\p.ctor=0)
noncomputable def ZF (w:List Data)(t:Ty)(p:Pattern):List Ty:=if p.op=4 then ZQ w t p.ctor else if p.op=5 then[t,t]else if p.op=6 then[t]else[]
theorem P.YAg (w:List Data)(hw:ZN w)(t:Ty)(ht:tOk w t)(p:Pattern):F.f66 w t p=some (dec (ZAw w t p)):=by
 unfold F.f66
 rw[P.YP w hw t ht]
 simp only[oE,oS,P.YAh]
 have yes:ZAw w t p->some true=some (dec (ZAw w t p)):=fun h=>by rw[ZG h]
 have no:¬ZAw w t p->some false=some (dec (ZAw w t p)):=fun h=>by rw[ZE h]
 repeat' split
 all_goals first
  |(refine no fun h=> ?_;unfold ZAw at h;omega)
  |(refine yes ?_;unfold ZAw;omega)
  |skip
 ·rw[←ZAL];congr 1;refine ZL ?_;unfold ZAw;omega
 ·congr 1;refine ZL ⟨fun h=>.inr (.inr (.inr (.inl ⟨by assumption,by assumption,by assumption,by assumption,h⟩))),fun h=> ?_⟩
  unfold ZAw at h
  rcases h with h|h|h|h|h|h
  ·omega
  ·omega
  ·omega
  ·exact h.2.2.2.2
  ·omega
  ·omega
theorem P.YM (w:List Data)(hw:ZN w)(t:Ty)(ht:tOk w t)(p:Pattern)(h:ZAw w t p):F.f69 w t p=some (ZF w t p):=by
 unfold F.f69 ZF
 by_cases h4:p.op=4
 ·rw[iP h4,iP h4]
  have hc:p.ctor∈ZT w t:=by
   unfold ZAw at h
   rcases h with h|h|h|h|h|h
   ·omega
   ·omega
   ·omega
   ·exact h.2.2.2.2
   ·omega
   ·omega
  rw[P.YG w hw t ht _ hc];rfl
 ·rw[iN h4,iN h4]
  have k:F.f67 p.op=some (if p.op=5 then 2 else if p.op=6 then 1 else 0):=by
   unfold F.f67;split
   ·rfl
   ·split
    ·rfl
    ·rfl
  by_cases h5:p.op=5
  ·rw[iP h5]
   rw[iP h5]at k
   rw[vZ,k]
   simp only[oE,oS]
   rw[iP (by omega),iP (by simp),iP (by omega),vZ,k]
   simp only[oE,oS]
   rw[iP (by omega),iP (by simp),iP (by omega),vZ,k]
   simp only[oE,oS]
   rw[iN (by omega)];simp
  ·rw[iN h5]
   rw[iN h5]at k
   by_cases h6:p.op=6
   ·rw[iP h6]
    rw[iP h6]at k
    rw[vZ,k]
    simp only[oE,oS]
    rw[iP (by omega),iP (by simp),iP (by omega),vZ,k]
    simp only[oE,oS]
    rw[iN (by omega)];simp
   ·rw[iN h6]
    rw[iN h6]at k
    rw[vZ,k]
    simp only[oE,oS]
    rw[iN (by omega)];simp
theorem ZAb {w:List Data}(hw:ZN w){t:Ty}(ht:ZY w t){p:Pattern}(h:ZAw w t p):∀a,a∈ZF w t p->ZY w a:=by
 unfold ZF
 intro a ha
 split at ha
 ·next h4=>
  have hc:p.ctor∈ZT w t:=by
   unfold ZAw at h
   rcases h with h|h|h|h|h|h
   ·omega
   ·omega
   ·omega
   ·exact h.2.2.2.2
   ·omega
   ·omega
  exact ZE3 hw ht hc a ha
 ·split at ha
  ·simp at ha;subst ha;exact ht
  ·split at ha
   ·simp at ha;subst ha;exact ht
   ·cases ha
theorem P.YAx (p:Pattern)(c n v:Bool)(k:Int):F.f113 p c n v k=some (dec ((c=true∨p.ctor=0)/\(n=true∨(p.n=0/\p.m=0))/\(v=true∨p.var=0)/\(p.kids.length:Int)=k)):=by
 unfold F.f113
 cases c<;>cases n<;>cases v<;>simp only[vN,if_true,if_false,false_or,true_or,true_and]
 all_goals(repeat' split)
 all_goals first
  |(rw[←ZAL];done)
  |(rw[←ZAL];congr 1;refine ZL ?_;omega)
  |(rw[ZE];omega)
theorem P.YAk (w:List Data)(hw:ZN w)(t:Ty)(ht:tOk w t)(p:Pattern):
  ∃ts,F.f123 w t p=some (ts,dec (ZAw w t p/\p.kids.length=(ZF w t p).length))/\(ZAw w t p->ts=ZF w t p):=by
 unfold F.f123
 simp only[P.YAx,P.YBH,P.YAS w hw t ht,P.YS,oE,oS,ZD1]
 by_cases h1:p.op=1
 ·rw[iP h1]
  have e:ZF w t p=[]:=by unfold ZF;rw[iN (by omega),iN (by omega),iN (by omega)]
  rw[e]
  refine⟨[],?_,fun _=>rfl⟩
  congr 2;refine ZL ?_;unfold ZAw;simp only[vN,false_or,yK];omega
 rw[iN h1]
 by_cases h2:p.op=2
 ·rw[iP h2]
  have e:ZF w t p=[]:=by unfold ZF;rw[iN (by omega),iN (by omega),iN (by omega)]
  rw[e]
  refine⟨[],?_,fun _=>rfl⟩
  split
  ·next hh=>
   simp only[vN,false_or,true_or,true_and]at hh
   congr 2;refine ZL ?_;unfold ZAw;simp only[yK,yL];omega
  ·next hh=>
   simp only[vN,false_or,true_or,true_and]at hh
   rw[ZE];unfold ZAw;simp only[yK,yL];omega
 rw[iN h2]
 by_cases h3:p.op=3
 ·rw[iP h3]
  have e:ZF w t p=[]:=by unfold ZF;rw[iN (by omega),iN (by omega),iN (by omega)]
  rw[e]
  refine⟨[],?_,fun _=>rfl⟩
  simp only[vN,false_or,true_or,true_and,yK]
  repeat' split
  all_goals first
   |(rw[←ZAL];congr 2;refine ZL ?_;unfold ZAw;omega)
   |(rw[ZE];unfold ZAw;omega)
 rw[iN h3]
 by_cases h4:p.op=4
 ·rw[iP h4]
  have e:ZF w t p=ZQ w t p.ctor:=by unfold ZF;rw[iP h4]
  rw[e]
  by_cases hc:p.ctor∈ZT w t
  ·rw[iP hc,P.YAH w hw t ht _ hc]
   simp only[oS]
   refine⟨ZQ w t p.ctor,?_,fun _=>rfl⟩
   congr 2;refine ZL ⟨fun h=>⟨.inr (.inr (.inr (.inl ⟨h4,?_,?_,?_,hc⟩))),?_⟩,fun h=> ?_⟩
   ·simp at h;exact h.2.1
   ·simp at h;exact h.1.1
   ·simp at h;exact h.1.2
   ·simp at h;omega
   ·obtain⟨h,hl⟩:=h
    unfold ZAw at h
    rcases h with h|h|h|h|h|h
    ·omega
    ·omega
    ·omega
    ·exact⟨.inl trivial,.inr ⟨h.2.2.1,h.2.2.2.1⟩,.inr h.2.1,by omega⟩
    ·omega
    ·omega
  ·rw[iN hc]
   have hn:¬ZAw w t p:=by
    intro h
    unfold ZAw at h
    rcases h with h|h|h|h|h|h
    ·omega
    ·omega
    ·omega
    ·exact hc h.2.2.2.2
    ·omega
    ·omega
   exact⟨[],by rw[ZE fun h=>hn h.1],fun h=>absurd h hn⟩
 rw[iN h4]
 by_cases h5:p.op=5
 ·rw[iP h5]
  have e:ZF w t p=[t,t]:=by unfold ZF;rw[iN (by omega),iP (by omega)]
  rw[e]
  refine⟨[t,t],?_,fun _=>rfl⟩
  congr 2;refine ZL ?_;unfold ZAw;simp only[vN,false_or,yK,yL];omega
 rw[iN h5]
 by_cases h6:p.op=6
 ·rw[iP h6]
  have e:ZF w t p=[t]:=by unfold ZF;rw[iN (by omega),iN (by omega),iP (by omega)]
  rw[e]
  refine⟨[t],?_,fun _=>rfl⟩
  split
  ·next hh=>
   simp only[vN,false_or,true_or,true_and]at hh
   congr 2;refine ZL ?_;unfold ZAw;simp only[yK,yL];omega
  ·next hh=>
   simp only[vN,false_or,true_or,true_and]at hh
   rw[ZE];unfold ZAw;simp only[yK,yL];omega
 rw[iN h6]
 have hn:¬ZAw w t p:=by unfold ZAw;omega
 exact⟨[],by rw[ZE fun h=>hn h.1],fun h=>absurd h hn⟩
def Zi (w:List Data):Nat->Ty->Pattern->Prop
 |0,_,_=>False
 |d+1,t,p=>ZAw w t p/\p.kids.length=(ZF w t p).length/\∀i,0<=i->i<(ZF w t p).length->∀(h:i<(ZF w t p).length) (h':i<p.kids.length),Zi w d (ZF w t p)[i] p.kids[i]
theorem P.YN (w:List Data)(hw:ZN w):∀(d:Nat) (t:Ty) (p:Pattern),ZY w t->d<=10->uZ w t p d=some (dec (Zi w d t p))
 |0,t,p,ht,hd=>by rw[uZ,iP (by omega),ZE (by simp[Zi])]
 |d+1,t,p,ht,hd=>by
  rw[uZ,iN (by omega),P.YAg w hw t (ZBQ ht.1)]
  simp only[oE,oS]
  by_cases ho:ZAw w t p
  ·rw[iP (ZG ho),P.YM w hw t (ZBQ ht.1) p ho]
   simp only[oS]
   have hts:=ZAb hw ht ho
   by_cases h4:p.kids.length=(ZF w t p).length
   ·rw[iP h4,ZKA (n:=(ZF w t p).length) (r:=false) (Q:=fun i=>∀(h:i<(ZF w t p).length) (h':i<p.kids.length),Zi w d (ZF w t p)[i] p.kids[i]) (L:=uY w p ((d+1:Nat):Int) (ZF w t p))
     (fun k hk=>by rw[uY,iN (by omega)])
     (fun k hk hq=>by
      have hk':k<p.kids.length:=by omega
      rw[uY,iP hk,gQ hk,gQ hk']
      simp only[oE,oS]
      rw[ZD (by omega) (by omega),show((d+1:Nat):Int) -1=(d:Int)from by omega,P.YN w hw d _ _ (hts _ (gM hk)) (by omega)]
      simp only[oS]
      rw[iP (ZG (hq hk hk'))])
     (fun k hk hq=>by
      have hk':k<p.kids.length:=by omega
      rw[uY,iP hk,gQ hk,gQ hk']
      simp only[oE,oS]
      rw[ZD (by omega) (by omega),show((d+1:Nat):Int) -1=(d:Int)from by omega,P.YN w hw d _ _ (hts _ (gM hk)) (by omega)]
      simp only[oS]
      rw[iN (by rw[ZE fun h=>hq fun _ _=>h];simp)]) _ 0 rfl]
    simp only[oS]
    by_cases hall:∀i,0<=i->i<(ZF w t p).length->∀(h:i<(ZF w t p).length) (h':i<p.kids.length),Zi w d (ZF w t p)[i] p.kids[i]
    ·rw[iP (ZG hall),ZG ⟨ho,h4,hall⟩]
    ·rw[iN (by rw[ZE hall];simp),ZE fun h=>hall h.2.2]
   ·rw[iN h4,ZE fun h=>h4 h.2.1]
  ·rw[iN (by rw[ZE ho];simp),ZE fun h=>ho h.1]
theorem P.YAw (v:Pattern)(hv:v.wt<=1048576):∀(most:Nat),most<=60->∃c:Nat,kR v most=some (c:Int)/\1<=c/\c<=1+v.wt/\(1+v.wt<=most->c=1+v.wt)/\(most<1+v.wt->most<c):=by
 induction v using Pattern.ind with
 |_ v ih=>
  intro most hm
  have hw:=v.wt_eq
  have key:∀(m i:Nat) (n:Nat),v.kids.length-i=m->1<=n->n+((v.kids.drop i).map fun k=>1+k.wt).sum<=1+v.wt->
    ∃c:Nat,uX v most n i=some (c:Int)/\n<=c/\c<=n+((v.kids.drop i).map fun k=>1+k.wt).sum/\(n+((v.kids.drop i).map fun k=>1+k.wt).sum<=most->c=n+((v.kids.drop i).map fun k=>1+k.wt).sum)/\(most<n+((v.kids.drop i).map fun k=>1+k.wt).sum->most<c):=by
   intro m
   induction m with
   |zero=>
    intro i n hmi hn hb
    rw[uX,iN (by omega),zX (by omega)]
    exact⟨n,rfl,by omega,by simp,by simp,by simp⟩
   |succ m ih2=>
    intro i n hmi hn hb
    have hi:i<v.kids.length:=by omega
    rw[zW hi]at hb ⊢
    simp only[yA,yV]at hb ⊢
    rw[uX,iP hi]
    by_cases hle:n<=most
    ·rw[iP (by omega),gQ hi]
     simp only[oE,oS]
     have hk:v.kids[i].wt<=1048576:=by omega
     obtain⟨c,h1,h2,h3,h4,h5⟩:=ih v.kids[i] (gM hi) hk (most-n) (by omega)
     rw[ZD (by omega) (by omega),show((most:Int) - (n:Int))=((most-n:Nat):Int)from by omega,h1]
     simp only[oS]
     rw[ZD (by omega) (by omega),show((n:Int)+(c:Int))=((n+c:Nat):Int)from by omega]
     obtain⟨c',g1,g2,g3,g4,g5⟩:=ih2 (i+1) (n+c) (by omega) (by omega) (by omega)
     refine⟨c',g1,by omega,by omega,fun h=> ?_,fun h=> ?_⟩
     ·have:=h4 (by omega)
      have:=g4 (by omega)
      omega
     ·by_cases hx:1+v.kids[i].wt<=most-n
      ·have:=h4 hx
       exact g5 (by omega)
      ·have:=h5 (by omega)
       omega
    ·rw[iN (by omega)]
     exact⟨n,rfl,by omega,by omega,fun h=>by omega,fun h=>by omega⟩
  have hs:((v.kids.drop 0).map fun k=>1+k.wt).sum=v.wt:=by
   rw[zY,hw]
   have:∀l:List Pattern,(l.map fun k=>1+k.wt).sum=wtL Pattern.wt l:=by
    intro l
    induction l with
    |nil=>rfl
    |cons a r ih=>simp[ih]
   exact this _
  obtain⟨c,h1,h2,h3,h4,h5⟩:=key _ 0 1 rfl (by omega) (by omega)
  rw[hs]at h3 h4 h5
  unfold kR
  have h1':uX v most 1 0=some (c:Int):=h1
  rw[h1']
  exact⟨c,rfl,by omega,h3,h4,h5⟩
theorem ZIK (v:Pattern):v.wt=((v.kids.drop 0).map fun k=>1+k.wt).sum:=by
 rw[zY,v.wt_eq]
 have:∀l:List Pattern,(l.map fun k=>1+k.wt).sum=wtL Pattern.wt l:=by
  intro l
  induction l with
  |nil=>rfl
  |cons a r ih=>simp[ih]
 exact(this _).symm
noncomputable def ZW (w:List Data):Nat->Ty->Pattern->List VarType
 |0,_,_=>[]
 |d+1,t,p=>(if p.op=2∨p.op=6 then[⟨p.var,t⟩]else[])++(((ZF w t p).zip p.kids).take (if p.op=5 then 1 else p.kids.length)).flatMap fun x=>ZW w d x.1 x.2
theorem ZGh {f:Ty×Pattern->List VarType}(hf:∀x,(f x).length<=1+x.2.wt):∀(ts:List Ty) (ks:List Pattern) (n:Nat),(((ts.zip ks).take n).flatMap f).length<=wtL Pattern.wt ks
 | [],ks,n=>by simp
 |t::ts,[],n=>by simp
 |t::ts,k::ks,0=>by simp
 |t::ts,k::ks,n+1=>by
  have h1:=ZGh hf ts ks n
  have h2:=hf (t,k)
  simp only[yZ,xE,yF,zZ,ZAQ]at h1 h2 ⊢
  omega
theorem ZBT (w:List Data):∀(d:Nat) (t:Ty) (p:Pattern),(ZW w d t p).length<=1+p.wt
 |0,t,p=>by simp[ZW]
 |d+1,t,p=>by
  have:=ZGh (f:=fun x=>ZW w d x.1 x.2) (fun x=>ZBT w d x.1 x.2) (ZF w t p) p.kids (if p.op=5 then 1 else p.kids.length)
  rw[ZW,zZ,p.wt_eq]
  have h1:(if p.op=2∨p.op=6 then[(⟨p.var,t⟩:VarType)]else[]).length<=1:=by split<;>simp
  omega
theorem ZDc {w:List Data}{p:Pattern}{ts:List Ty}(hl:p.kids.length=ts.length)(h5:p.op≠5){f:Ty×Pattern->List VarType}{L:List VarType->Nat->Option (List VarType)}
  (hL:∀out i,L out i=if i<ts.length then(if i=0 then ts[i]? >>=fun x=>p.kids[i]? >>=fun y=>vV out w x y>>=fun v=>L v (i+1)else(if p.op=5 then some out else ts[i]? >>=fun x=>p.kids[i]? >>=fun y=>vV out w x y>>=fun v=>L v (i+1)))else some out)
  (hf:∀x:Ty×Pattern,(f x).length<=1+x.2.wt)
  (ih:∀i (h:i<ts.length) (h':i<p.kids.length) (out:List VarType),out.length+(1+p.kids[i].wt)<=67108864->vV out w ts[i] p.kids[i]=some (out++f (ts[i],p.kids[i]))):
  ∀(m i:Nat) (out:List VarType),ts.length-i=m->out.length+((p.kids.drop i).map fun k=>1+k.wt).sum<=67108864->L out i=some (out++((ts.zip p.kids).drop i).flatMap f):=by
 intro m
 induction m with
 |zero=>
  intro i out hm hb
  rw[hL,iN (by omega),zX (by simp;omega)];simp
 |succ m ihm=>
  intro i out hm hb
  have hi:i<ts.length:=by omega
  have hi':i<p.kids.length:=by omega
  rw[zW hi']at hb
  simp only[yA,yV]at hb
  have e:(ts[i]? >>=fun x=>p.kids[i]? >>=fun y=>vV out w x y>>=fun v=>L v (i+1))=some (out++((ts.zip p.kids).drop i).flatMap f):=by
   rw[gQ hi,gQ hi']
   simp only[oE,oS]
   rw[ih i hi hi' out (by omega)]
   simp only[oS]
   have:=hf (ts[i],p.kids[i])
   simp only at this
   rw[ihm (i+1) _ (by omega) (by rw[zZ];omega),zW (l:=ts.zip p.kids) (i:=i) (by simp;omega)]
   simp
  rw[hL,iP hi,iN h5,e]
  split<;>rfl
theorem Zz {w:List Data}{t:Ty}{p:Pattern}(h:ZAw w t p)(h5:p.op=5):ZF w t p=[t,t]:=by unfold ZF;rw[iN (by omega),iP h5]
theorem P.YA (w:List Data)(hw:ZN w):∀(d:Nat) (t:Ty) (p:Pattern) (out:List VarType),ZY w t->Zi w d t p->out.length+(1+p.wt)<=67108864->vV out w t p=some (out++ZW w d t p)
 |0,t,p,out,ht,hs,hb=>hs.elim
 |d+1,t,p,out,ht,hs,hb=>by
  obtain⟨ho,hl,hk⟩:=hs
  have hts:=ZAb hw ht ho
  have hsum:=ZIK p
  have ih:∀i (h:i<(ZF w t p).length) (h':i<p.kids.length) (out:List VarType),out.length+(1+p.kids[i].wt)<=67108864->vV out w (ZF w t p)[i] p.kids[i]=some (out++(fun x:Ty×Pattern=>ZW w d x.1 x.2) ((ZF w t p)[i],p.kids[i])):=
   fun i h h' out hb=>P.YA w hw d _ _ out (hts _ (gM h)) (hk i (by omega) h h h') hb
  have hf:∀x:Ty×Pattern,((fun x:Ty×Pattern=>ZW w d x.1 x.2) x).length<=1+x.2.wt:=fun x=>ZBT w d x.1 x.2
  have full:∀n,p.kids.length<=n->((ZF w t p).zip p.kids).take n=(ZF w t p).zip p.kids:=fun n hn=>yC (by simp;omega)
  rw[vV,P.YM w hw t (ZBQ ht.1) p ho]
  simp only[oE,oS]
  by_cases h2:p.op=2
  ·rw[iP h2,iP (by omega),ZDc (f:=fun x=>ZW w d x.1 x.2) (L:=F.f77 w p (ZF w t p)) hl (by omega) (fun out i=>by rw[F.f77]) hf ih _ 0 _ rfl (by simp at hsum ⊢;omega)]
   simp only[oS]
   rw[ZW,iP (.inl h2),iN (by omega),full _ (zA _)];simp
  ·rw[iN h2]
   by_cases h6:p.op=6
   ·rw[iP h6,iP (by omega),ZDc (f:=fun x=>ZW w d x.1 x.2) (L:=F.f75 w p (ZF w t p)) hl (by omega) (fun out i=>by rw[F.f75]) hf ih _ 0 _ rfl (by simp at hsum ⊢;omega)]
    simp only[oS]
    rw[ZW,iP (.inr h6),iN (by omega),full _ (zA _)];simp
   ·rw[iN h6]
    by_cases h5:p.op=5
    ·have et:=Zz ho h5
     rw[et]at hl
     have h0:0<p.kids.length:=by rw[hl];simp
     have h0':0<(ZF w t p).length:=by rw[et];simp
     have hw0:1+p.kids[0].wt<=p.wt:=by
      rw[hsum,zY]
      obtain⟨a,r,e⟩:=yT h0
      simp[e]
     have e0:=ih 0 h0' h0 out (by omega)
     rw[uW,iP h0',iP rfl,gQ h0',gQ h0]
     simp only[oE,oS]
     rw[e0]
     simp only[oS]
     rw[uW,iP (by rw[et];simp),iN (by omega),iP h5]
     simp only[oS]
     rw[ZW,iN (by omega),iP h5]
     have e1:((ZF w t p).zip p.kids).take 1=[((ZF w t p)[0],p.kids[0])]:=by
      obtain⟨a,r,e⟩:=yT h0
      obtain⟨b,r',e'⟩:=yT h0'
      simp[e,e']
     rw[e1];simp
    ·rw[ZDc (f:=fun x=>ZW w d x.1 x.2) (L:=uW w p (ZF w t p)) hl h5 (fun out i=>by rw[uW]) hf ih _ 0 _ rfl (by simp at hsum ⊢;omega)]
     simp only[oS]
     rw[ZW,iN (by omega),iN h5,full _ (zA _)];simp
def ZG6 (l:List VarType):Prop:=(l.map VarType.var).Nodup
def ZHK (a b:List VarType):Prop:=a.length=b.length/\∀x,x∈a->x∈b
theorem ZFR (l:List VarType):ZG6 l↔∀i j (hi:i<l.length) (hj:j<l.length),i<j->l[i].var≠l[j].var:=by
 unfold ZG6 List.Nodup
 rw[List.pairwise_map,List.pairwise_iff_getElem]
theorem ZEv {l:List VarType}{n:Int}(h:ZEP l n= -1):∀x,x∈l->x.var≠n:=by
 unfold ZEP at h
 cases hf:ZG7 (fun x:VarType=>x.var=n) 0 l with
 |none=>exact ZA2 hf
 |some j=>rw[hf]at h;simp only at h;omega
theorem ZPg {a b:VarType}(h:a.var=b.var)(h2:eq2 (a.type.data,a.type.index) (b.type.data,b.type.index)):a=b:=by
 obtain⟨v,d,i⟩:=a
 obtain⟨v',d',i'⟩:=b
 simp only[eq2]at h h2
 obtain⟨rfl,rfl⟩:=h2
 subst h;rfl
theorem P.Yg (l:List VarType):uB l 0=some (if dec (ZG6 l)=true then .go ()else .ret false):=by
 rw[ZKA (n:=l.length) (r:=false) (Q:=fun j=>∀h:j<l.length,ZEP l l[j].var=(j:Int)) (L:=uB l) (fun k hk=>by rw[uB,iN (by omega)])
  (fun k hk hq=>by
   rw[uB,iP hk,gQ hk]
   simp only[oE,oS,P.YF]
   rw[iP (hq hk)])
  (fun k hk hq=>by
   rw[uB,iP hk,gQ hk]
   simp only[oE,oS,P.YF]
   rw[iN fun h=>hq fun _=>h]) _ 0 rfl]
 congr 2
 rw[ZL]
 rw[ZFR]
 constructor
 ·intro h i j hi hj hij
  exact(ZEu l j hj).1 (h j (by omega) hj hj) i hi hij
 ·intro h j _ _ hj
  exact(ZEu l j hj).2 fun i hi hij=>h i j hi hj hij
theorem P.YAP (a b:List VarType)(hb:ZG6 b):F.f81 a b=some (dec (ZHK a b)):=by
 unfold F.f81
 have step:∀k (hk:k<a.length),uC a b k=if dec (a[k]∈b)=true then uC a b (k+1)else some (.ret false):=by
  intro k hk
  rw[uC,iP hk,gQ hk]
  simp only[oE,oS,P.YF]
  rcases ZB5 b a[k].var with h|⟨j,hj,h1,h2,h3⟩
  ·rw[iP (by omega),iN]
   rw[ZE fun hm=>ZEv h _ hm rfl];simp
  ·rw[iN (by omega),h1,ZLY,gQ hj]
   simp only[oS]
   by_cases he:eq2 (b[j].type.data,b[j].type.index) (a[k].type.data,a[k].type.index)
   ·rw[iP (ZG he),iP (ZG (by rw[←ZPg h2 he];exact gM hj))]
   ·rw[iN (by rw[ZE he];simp),iN]
    rw[ZE fun hm=> ?_];· simp
    obtain⟨i,hi,e⟩:=yG hm
    have hij:i=j:=by
     rw[ZFR]at hb
     rcases zQ i j with hlt|heq|hlt
     ·exact absurd (by rw[e,h2]) (hb i j hi hj hlt)
     ·exact heq
     ·exact absurd (by rw[e,h2]) (hb j i hj hi hlt)
    subst hij
    exact he (by rw[e];exact⟨rfl,rfl⟩)
 rw[ZKA (n:=a.length) (r:=false) (Q:=fun j=>∀h:j<a.length,a[j]∈b) (L:=uC a b) (fun k hk=>by rw[uC,iN (by omega)])
  (fun k hk hq=>by rw[step k hk,iP (ZG (hq hk))])
  (fun k hk hq=>by rw[step k hk,iN (by rw[ZE fun h=>hq fun _=>h];simp)]) _ 0 rfl]
 simp only[oE,oS]
 by_cases h:∀j,0<=j->j<a.length->∀h:j<a.length,a[j]∈b
 ·rw[iP (ZG h),←ZAL]
  have hx:∀x,x∈a->x∈b:=fun x hx=>by obtain⟨j,hj,e⟩:=yG hx;rw[←e];exact h j (by omega) hj hj
  show some (dec (a.length=b.length))=some (dec (ZHK a b))
  congr 1;exact ZL ⟨fun hl=>⟨hl,hx⟩,fun hs=>hs.1⟩
 ·rw[iN (by rw[ZE h];simp),ZE fun hs=>h fun j _ hj _=>hs.2 _ (gM hj)]
theorem ZNS {a b:VarType}:eq3 (a.var,a.type.data,a.type.index) (b.var,b.type.data,b.type.index)↔a=b:=by
 obtain⟨v,d,i⟩:=a
 obtain⟨v',d',i'⟩:=b
 simp[eq3]
theorem P.YB (l:List VarType)(n:VarType):F.f126 l n=some (dec (n∈l)):=by
 unfold F.f126 F.f125
 rw[ZMm (a:=l) (p:=fun x=>n=x) (L:=uR l n) (fun k hk=>by rw[uR,iN (by omega)])
  (fun k hk hp=>by
   rw[uR,iP hk,gQ hk]
   simp only[oE,oS]
   rw[iN (by rw[ZE fun h=>hp (ZNS.1 h)];simp)])
  (fun k hk hp=>by
   rw[uR,iP hk,gQ hk]
   simp only[oE,oS]
   rw[iP (ZG (ZNS.2 hp))]) _ 0 rfl,zY]
 cases h:ZG7 (fun x:VarType=>n=x) 0 l with
 |none=>
  simp only[oE,oS]
  rw[ZE fun hm=>ZA2 h _ hm rfl];simp
 |some j=>
  obtain⟨_,h2,h3,_⟩:=ZA1 h
  simp only[oE,oS]
  rw[ZG (by rw[h3];exact gM h2)];simp
theorem P.YAD (a b:List VarType):uO a b=some (dec (ZHK a b)):=by
 unfold uO
 by_cases hl:a.length=b.length
 ·rw[iP hl]
  unfold F.f130 F.f129
  have one:∀q,F.f127 q b=some (!dec (q∈b)):=by
   intro q;unfold F.f127;rw[P.YB];rfl
  rw[ZMm (a:=a) (p:=fun x=>¬x∈b) (L:=uQ a b) (fun k hk=>by rw[uQ,iN (by omega)])
   (fun k hk hp=>by
    rw[uQ,iP hk,gQ hk]
    simp only[oE,oS,one]
    rw[iN (by rw[ZG (vC hp)];simp)])
   (fun k hk hp=>by
    rw[uQ,iP hk,gQ hk]
    simp only[oE,oS,one]
    rw[iP (by rw[ZE hp];simp)]) _ 0 rfl,zY]
  cases h:ZG7 (fun x:VarType=>¬x∈b) 0 a with
  |none=>
   simp only[oE,oS]
   rw[ZG ⟨hl,fun x hx=>vC (ZA2 h x hx)⟩];simp
  |some j=>
   obtain⟨_,h2,h3,_⟩:=ZA1 h
   simp only[oE,oS]
   rw[ZE fun hs=>h3 (hs.2 _ (gM h2))];simp
 ·rw[iN hl,ZE fun h=>hl h.1]
def ZFv (w:List Data):Nat->Ty->Pattern->Prop
 |0,_,_=>False
 |d+1,t,p=>(∀i,0<=i->i<(ZF w t p).length->∀(h:i<(ZF w t p).length) (h':i<p.kids.length),ZFv w d (ZF w t p)[i] p.kids[i])/\
   if p.op=5 then(∀(h0:0<p.kids.length) (h1:1<p.kids.length),ZHK (ZW w d t p.kids[0]) (ZW w d t p.kids[1]))else ZG6 (ZW w (d+1) t p)
theorem ZDW {w:List Data}{d:Nat}{t:Ty}{p:Pattern}(ho:ZAw w t p)(h5:p.op=5)(h0:0<p.kids.length):ZW w (d+1) t p=ZW w d t p.kids[0]:=by
 have et:=Zz ho h5
 rw[ZW,iN (by omega),iP h5,et]
 obtain⟨a,r,e⟩:=yT h0
 simp[e]
theorem ZBi {w:List Data}:∀{d:Nat} {t:Ty} {p:Pattern},Zi w d t p->ZFv w d t p->ZG6 (ZW w d t p)
 |0,t,p,hs,hl=>hs.elim
 |d+1,t,p,hs,hl=>by
  obtain⟨ho,hlen,hk⟩:=hs
  obtain⟨h1,h2⟩:=hl
  by_cases h5:p.op=5
  ·have et:=Zz ho h5
   have h0:0<p.kids.length:=by rw[hlen,et];simp
   have h0':0<(ZF w t p).length:=by rw[et];simp
   rw[ZDW ho h5 h0]
   have e0:(ZF w t p)[0]=t:=by simp[et]
   have a:=hk 0 (zA _) h0' h0' h0
   have b:=h1 0 (zA _) h0' h0' h0
   rw[e0]at a b
   exact ZBi a b
  ·rw[iN h5]at h2;exact h2
theorem P.YU (w:List Data)(hw:ZN w):∀(d:Nat) (t:Ty) (p:Pattern),ZY w t->Zi w d t p->p.wt<=1048576->kP w t p=some (dec (ZFv w d t p))
 |0,t,p,ht,hs,hb=>hs.elim
 |d+1,t,p,ht,hs,hb=>by
  have hs':=hs
  obtain⟨ho,hl,hk⟩:=hs
  have hts:=ZAb hw ht ho
  have hsum:=p.wt_eq
  have hkw:∀k (h:k<p.kids.length),1+p.kids[k].wt<=p.wt:=fun k h=>by have:=Zt Pattern.wt (gM h);omega
  have ih:∀k (h:k<(ZF w t p).length) (h':k<p.kids.length),kP w (ZF w t p)[k] p.kids[k]=some (dec (ZFv w d (ZF w t p)[k] p.kids[k])):=
   fun k h h'=>P.YU w hw d _ _ (hts _ (gM h)) (hk k (by omega) h h h') (by have:=hkw k h';omega)
  rw[kP,P.YM w hw t (ZBQ ht.1) p ho]
  simp only[oE,oS]
  rw[ZKA (n:=(ZF w t p).length) (r:=false) (Q:=fun i=>∀(h:i<(ZF w t p).length) (h':i<p.kids.length),ZFv w d (ZF w t p)[i] p.kids[i]) (L:=uU w t p (ZF w t p))
   (fun k hk=>by rw[uU,iN (by omega)])
   (fun k hk hq=>by
    have hk':k<p.kids.length:=by omega
    rw[uU,iP hk,gQ hk,gQ hk']
    simp only[oE,oS]
    rw[ih k hk hk']
    simp only[oS]
    rw[iP (ZG (hq hk hk'))])
   (fun k hk hq=>by
    have hk':k<p.kids.length:=by omega
    rw[uU,iP hk,gQ hk,gQ hk']
    simp only[oE,oS]
    rw[ih k hk hk']
    simp only[oS]
    rw[iN (by rw[ZE fun h=>hq fun _ _=>h];simp)]) _ 0 rfl]
  simp only[oS]
  by_cases hall:∀i,0<=i->i<(ZF w t p).length->∀(h:i<(ZF w t p).length) (h':i<p.kids.length),ZFv w d (ZF w t p)[i] p.kids[i]
  ·rw[iP (ZG hall)]
   simp only
   by_cases h5:p.op=5
   ·have et:=Zz ho h5
    have h0:0<p.kids.length:=by rw[hl,et];simp
    have h1:1<p.kids.length:=by rw[hl,et];simp
    have h0':0<(ZF w t p).length:=by rw[et];simp
    have h1':1<(ZF w t p).length:=by rw[et];simp
    have e0:(ZF w t p)[0]=t:=by simp[et]
    have e1:(ZF w t p)[1]=t:=by simp[et]
    have a0:=hk 0 (zA _) h0' h0' h0
    have a1:=hk 1 (by omega) h1' h1' h1
    have b1:=hall 1 (by omega) h1' h1' h1
    rw[e0]at a0
    rw[e1]at a1 b1
    rw[iP h5,gQ h0,gQ h1]
    simp only[oS]
    rw[P.YA w hw d t _ [] ht a0 (by have:=hkw 0 h0;simp;omega),P.YA w hw d t _ [] ht a1 (by have:=hkw 1 h1;simp;omega)]
    simp only[oS,yM]
    rw[P.YAP _ _ (ZBi a1 b1)]
    simp only[oS]
    congr 1
    refine ZL ⟨fun h=>⟨hall,?_⟩,fun h=> ?_⟩
    ·rw[iP h5];exact fun _ _=>h
    ·have:=h.2;rw[iP h5]at this;exact this h0 h1
   ·rw[iN h5,P.YA w hw (d+1) t p [] ht hs' (by simp;omega)]
    simp only[oS,yM]
    rw[P.Yg]
    simp only[oS]
    by_cases hn:ZG6 (ZW w (d+1) t p)
    ·rw[iP (ZG hn),ZG ⟨hall,by rw[iN h5];exact hn⟩]
    ·rw[iN (by rw[ZE hn];simp),ZE fun h=>hn (by have:=h.2;rwa[iN h5]at this)]
  ·rw[iN (by rw[ZE hall];simp),ZE fun h=>hall h.1]
theorem ZIJ {f:Ty×Pattern->List VarType}{x:VarType}:∀{ts:List Ty} {ks:List Pattern} {n:Nat},x∈(((ts.zip ks).take n).flatMap f)->∃i,∃(h:i<ts.length) (h':i<ks.length),x∈f (ts[i],ks[i])
 | [],ks,n,h=>by simp at h
 |t::ts,[],n,h=>by simp at h
 |t::ts,k::ks,0,h=>by simp at h
 |t::ts,k::ks,n+1,h=>by
  simp only[yZ,xE,yF,yB]at h
  rcases h with h|h
  ·exact⟨0,by simp,by simp,by simpa using h⟩
  ·obtain⟨i,h1,h2,h3⟩:=ZIJ h
   exact⟨i+1,by simpa using h1,by simpa using h2,by simpa using h3⟩
theorem ZDX {w:List Data}(hw:ZN w):∀{d:Nat} {t:Ty} {p:Pattern},ZY w t->Zi w d t p->∀x,x∈ZW w d t p->0<=x.var/\x.var<=5/\ZY w x.type
 |0,t,p,ht,hs=>hs.elim
 |d+1,t,p,ht,hs=>by
  obtain⟨ho,hl,hk⟩:=hs
  intro x hx
  rw[ZW,yB]at hx
  rcases hx with hx|hx
  ·split at hx
   ·next h=>
    simp at hx;subst hx
    unfold ZAw at ho
    refine⟨?_,?_,ht⟩<;>simp only<;>omega
   ·cases hx
  ·obtain⟨i,h,h',hm⟩:=ZIJ hx
   exact ZDX hw (ZAb hw ht ho _ (gM h)) (hk i (by omega) h h h') x hm
theorem ZSA {R:Type}{vs:List VarType}{r:R}{M:(Nat->Bool)->Nat->Option (Lo R Unit)}(hv:∀x,x∈vs->0<=x.var/\x.var<=5)
  (hM:∀s i,M s i=if i<vs.length then vs[i]? >>=fun x=>if 0<=x.var/\x.var.toNat<6 then(if s x.var.toNat=true then some (.ret r)else M (ZHD s x.var.toNat true) (i+1))else none else some (.go ())):
  ∀(m i:Nat) (s:Nat->Bool),vs.length-i=m->M s i=some (if dec (ZG6 (vs.drop i)/\∀x,x∈vs.drop i->s x.var.toNat=false)=true then .go ()else .ret r):=by
 intro m
 induction m with
 |zero=>
  intro i s hm
  rw[hM,iN (by omega),zX (by omega),iP (ZG ⟨by simp[ZG6],by simp⟩)]
 |succ m ih=>
  intro i s hm
  have hi:i<vs.length:=by omega
  have hr:=hv _ (gM hi)
  rw[hM,iP hi,gQ hi]
  simp only[oE,oS]
  rw[iP (by omega),zW hi]
  by_cases h:s vs[i].var.toNat=true
  ·rw[iP h,iN]
   rw[ZE fun hh=> ?_];· simp
   have:=hh.2 vs[i] (yJ ..)
   rw[h]at this;cases this
  ·rw[iN h,ih (i+1) _ (by omega)]
   congr 2
   rw[ZL]
   have hs:s vs[i].var.toNat=false:=by simpa using h
   constructor
   ·rintro⟨h1,h2⟩
    refine⟨?_,fun x hx=> ?_⟩
    ·unfold ZG6 at h1 ⊢
     rw[yA,yX]
     refine⟨fun hm=> ?_,h1⟩
     obtain⟨y,hy,e⟩:=yD.1 hm
     have:=h2 y hy
     rw[e]at this
     simp[ZHD]at this
    ·rcases yW.1 hx with rfl|hx
     ·exact hs
     ·have:=h2 x hx
      unfold ZHD at this
      split at this
      ·cases this
      ·exact this
   ·rintro⟨h1,h2⟩
    unfold ZG6 at h1 ⊢
    rw[yA,yX]at h1
    refine⟨h1.2,fun x hx=> ?_⟩
    unfold ZHD
    have hx':=hv x (xQ hx)
    rw[iN fun e=>h1.1 (yD.2 ⟨x,hx,by omega⟩)]
    exact h2 x (yE _ hx)
abbrev ZRH (w:List Data)(d:Nat)(ts:List Ty)(ks:List Pattern)(i:Nat):Prop:=∀j,i<=j->j<ts.length->∀(h:j<ts.length) (h':j<ks.length),Zi w d ts[j] ks[j]/\ZFv w d ts[j] ks[j]
def ZCM (w:List Data)(d:Nat)(t:Ty)(p:Pattern)(count:Nat)(vs:List VarType)(b:Bool)(c:Nat):Prop:=
 (b=true↔Zi w d t p/\ZFv w d t p/\count+(1+p.wt)<=60)/\(b=true->c=count+(1+p.wt)/\vs=ZW w d t p)
theorem P.YAv (w:List Data)(d:Nat)(hd:d+1<=10)(p:Pattern)(hp:p.wt<=1048576)(ts:List Ty)(hl:ts.length=p.kids.length)(hts:∀a,a∈ts->ZY w a)(h5:p.op≠5)
  (L:Int->List VarType->Nat->Option (Lo ((List VarType)×Bool×Int) (Int×(List VarType))))
  (hL:∀z vars i,L z vars i=if i<p.kids.length then p.kids[i]? >>=fun x=>ts[i]? >>=fun y=>vU w y x (i64.wrap (((11- (d+1):Nat):Int)+1)) z>>=fun r=>if r.2.1=true then(if p.op=5 then(if i=1 then uO vars r.1>>=fun b=>if b=true then L r.2.2 vars (i+1)else some (.ret ([],false,r.2.2))else(if vars.length+r.1.length<=67108864 then L r.2.2 (vars++r.1) (i+1)else none))else(if vars.length+r.1.length<=67108864 then L r.2.2 (vars++r.1) (i+1)else none))else some (.ret ([],false,r.2.2))else some (.go (z,vars)))
  (ih:∀(t:Ty) (x:Pattern) (count:Nat),ZY w t->x.wt<=1048576->count<=60->∃vs b c,vU w t x ((11-d:Nat):Int) (count:Int)=some (vs,b,((c:Nat):Int))/\ZCM w d t x count vs b c):
  ∀(m i z:Nat) (vars:List VarType),p.kids.length-i=m->z<=60->vars.length+((p.kids.drop i).map fun k=>1+k.wt).sum<=67108864->∃o,L z vars i=some o/\
   match o with
   | .ret (vs,b,c)=>b=false/\∃c':Nat,c=(c':Int)/\¬(ZRH w d ts p.kids i/\z+((p.kids.drop i).map fun k=>1+k.wt).sum<=60)
   | .go (c,vs)=>c=((z+((p.kids.drop i).map fun k=>1+k.wt).sum:Nat):Int)/\vs=vars++((ts.zip p.kids).drop i).flatMap (fun x=>ZW w d x.1 x.2)/\ZRH w d ts p.kids i/\z+((p.kids.drop i).map fun k=>1+k.wt).sum<=60:=by
 intro m
 induction m with
 |zero=>
  intro i z vars hm hz hb
  rw[hL,iN (by omega)]
  refine⟨_,rfl,?_⟩
  rw[zX (by omega),zX (by simp;omega)]
  exact⟨by simp,by simp,fun j h1 h2=>by omega,by simpa using hz⟩
 |succ m ihm=>
  intro i z vars hm hz hb
  have hi:i<p.kids.length:=by omega
  have hi':i<ts.length:=by omega
  have hkw:=Zt Pattern.wt (gM hi)
  have hpw:=p.wt_eq
  rw[zW hi]at hb ⊢
  simp only[yA,yV]at hb ⊢
  rw[hL,iP hi,gQ hi,gQ hi']
  simp only[oE,oS]
  rw[ZD (by omega) (by omega),show(((11- (d+1):Nat):Int)+1)=((11-d:Nat):Int)from by omega]
  obtain⟨vs,b,c,h1,h2,h3⟩:=ih ts[i] p.kids[i] z (hts _ (gM hi')) (by omega) hz
  rw[h1]
  simp only[oS]
  cases b with
  |true=>
   rw[iP rfl,iN h5]
   obtain⟨hc,hv⟩:=h3 rfl
   obtain⟨hp1,hp2,hle⟩:=h2.1 rfl
   have hvl:=ZBT w d ts[i] p.kids[i]
   rw[←hv]at hvl
   rw[iP (by omega)]
   obtain⟨o,g1,g2⟩:=ihm (i+1) c (vars++vs) (by omega) (by omega) (by rw[zZ];omega)
   refine⟨o,g1,?_⟩
   cases o with
   |ret r=>
    obtain⟨vs',b',c'⟩:=r
    obtain⟨q1,c2,q2,q3⟩:=g2
    exact⟨q1,c2,q2,fun hh=>q3 ⟨fun j a b e f=>hh.1 j (by omega) b e f,by omega⟩⟩
   |go r=>
    obtain⟨c2,vs2⟩:=r
    obtain⟨q1,q2,q3,q4⟩:=g2
    refine⟨by rw[q1];congr 1;omega,?_,fun j a b e f=> ?_,by omega⟩
    ·rw[q2,zW (l:=ts.zip p.kids) (i:=i) (by simp;omega),hv];simp
    ·by_cases hj:i=j
     ·subst hj;exact⟨hp1,hp2⟩
     ·exact q3 j (by omega) b e f
  |false=>
   rw[iN (by simp)]
   refine⟨_,rfl,rfl,c,rfl,fun hh=> ?_⟩
   have hk:=hh.1 i (zA _) hi' hi' hi
   have:=h2.2 ⟨hk.1,hk.2,by omega⟩
   cases this
theorem P.Yk (w:List Data)(hw:ZN w):∀(d:Nat) (t:Ty) (p:Pattern) (count:Nat),d<=10->ZY w t->p.wt<=1048576->count<=60->
  ∃vs b c,vU w t p ((11-d:Nat):Int) (count:Int)=some (vs,b,((c:Nat):Int))/\ZCM w d t p count vs b c
 |d,t,p,count,hd,ht,hp,hc=>by
  have e1:i64.wrap ((count:Int)+1)=((count+1:Nat):Int):=by rw[ZD (by omega) (by omega)];omega
  have no:∀(h:¬(Zi w d t p/\ZFv w d t p/\count+(1+p.wt)<=60)) (c:Nat),∃vs b c',(some (([]:List VarType),false,(c:Int)):Option (List VarType×Bool×Int))=some (vs,b,((c':Nat):Int))/\ZCM w d t p count vs b c':=
   fun h c=>⟨[],false,c,rfl,⟨fun h=>(by cases h),fun hh=>absurd hh h⟩,fun h=>by cases h⟩
  rw[vU,e1]
  by_cases h60:60<((count+1:Nat):Int)
  ·rw[iP h60];exact no (fun h=>by omega) _
  rw[iN h60]
  match d,hd with
  |0,_=>
   rw[iP (by omega)]
   exact no (fun h=>h.1.elim) _
  |d+1,hd=>
   rw[iN (by omega)]
   obtain⟨ts,h1,h2⟩:=P.YAk w hw t (ZBQ ht.1) p
   rw[h1]
   simp only[oE,oS]
   by_cases hs:ZAw w t p/\p.kids.length=(ZF w t p).length
   ·rw[iP (ZG hs)]
    obtain⟨ho,hl⟩:=hs
    obtain rfl:=h2 ho
    have hts:=ZAb hw ht ho
    have hwt:=ZIK p
    have ihx:∀(t:Ty) (x:Pattern) (count:Nat),ZY w t->x.wt<=1048576->count<=60->∃vs b c,vU w t x ((11-d:Nat):Int) (count:Int)=some (vs,b,((c:Nat):Int))/\ZCM w d t x count vs b c:=
     fun t x c ht hx hc=>P.Yk w hw d t x c (by omega) ht hx hc
    have shape_of:∀{i:Nat},ZRH w d (ZF w t p) p.kids 0->Zi w (d+1) t p:=fun h=>⟨ho,hl,fun i _ hi h1 h2=>(h i (by omega) hi h1 h2).1⟩
    by_cases h5:p.op=5
    ·rw[iN (by omega),iN (by omega)]
     have et:=Zz ho h5
     have h0:0<p.kids.length:=by rw[hl,et];simp
     have h1':1<p.kids.length:=by rw[hl,et];simp
     have hl2:p.kids.length=2:=by rw[hl,et];rfl
     have e0:(ZF w t p)[0]? =some t:=by rw[et];rfl
     have e1:(ZF w t p)[1]? =some t:=by rw[et];rfl
     have hsum:p.wt=(1+p.kids[0].wt)+(1+p.kids[1].wt):=by
      have e:p.kids=[p.kids[0],p.kids[1]]:=List.ext_getElem (by simp[hl2]) (fun i h1 h2=>by
       have:i=0∨i=1:=by omega
       rcases this with rfl|rfl<;>rfl)
      rw[hwt,zY]
      conv=>lhs;rw[e]
      simp
     have ed:i64.wrap (((11- (d+1):Nat):Int)+1)=((11-d:Nat):Int):=by rw[ZD (by omega) (by omega)];omega
     obtain⟨v0,b0,c0,a1,a2,a3⟩:=ihx t p.kids[0] (count+1) ht (by omega) (by omega)
     have kid0:Zi w (d+1) t p->ZFv w (d+1) t p->(Zi w d t p.kids[0]/\ZFv w d t p.kids[0])/\(Zi w d t p.kids[1]/\ZFv w d t p.kids[1])/\ZHK (ZW w d t p.kids[0]) (ZW w d t p.kids[1]):=by
      rintro⟨_,_,hk⟩ ⟨q1,q2⟩
      rw[iP h5]at q2
      have x0':0<(ZF w t p).length:=by rw[et];simp
      have x1':1<(ZF w t p).length:=by rw[et];simp
      have y0:(ZF w t p)[0]=t:=by simp[et]
      have y1:(ZF w t p)[1]=t:=by simp[et]
      have k0:=hk 0 (zA _) x0' x0' h0
      have k1:=hk 1 (by omega) x1' x1' h1'
      have l0:=q1 0 (zA _) x0' x0' h0
      have l1:=q1 1 (by omega) x1' x1' h1'
      rw[y0]at k0 l0
      rw[y1]at k1 l1
      exact⟨⟨k0,l0⟩,⟨k1,l1⟩,q2 h0 h1'⟩
     rw[vX,iP h0,gQ h0,e0]
     simp only[oE,oS]
     rw[ed,a1]
     simp only[oS]
     cases b0 with
     |false=>
      rw[iN (by simp)]
      simp only[oS]
      exact no (fun h=>by
       have:=a2.2 ⟨(kid0 h.1 h.2.1).1.1,(kid0 h.1 h.2.1).1.2,by omega⟩
       cases this) _
     |true=>
      obtain⟨hc0,rfl⟩:=a3 rfl
      obtain⟨s0,l0,z0⟩:=a2.1 rfl
      have hv0:=ZBT w d t p.kids[0]
      rw[iP rfl,iP h5,iN (by omega),iP (by simp;omega),vX,iP h1',gQ h1',e1]
      simp only[oE,oS]
      obtain⟨v1,b1,c1,g1,g2,g3⟩:=ihx t p.kids[1] c0 ht (by omega) (by omega)
      rw[ed,g1]
      simp only[oS]
      cases b1 with
      |false=>
       rw[iN (by simp)]
       simp only[oS]
       exact no (fun h=>by
        have:=g2.2 ⟨(kid0 h.1 h.2.1).2.1.1,(kid0 h.1 h.2.1).2.1.2,by omega⟩
        cases this) _
      |true=>
       obtain⟨hc1,rfl⟩:=g3 rfl
       obtain⟨s1,l1,z1⟩:=g2.1 rfl
       rw[iP rfl,iP h5,iP trivial,P.YAD]
       simp only[oS,yM]
       by_cases hsv:ZHK (ZW w d t p.kids[0]) (ZW w d t p.kids[1])
       ·rw[iP (ZG hsv),vX,iN (by omega)]
        simp only[oS]
        have kk:∀i,0<=i->i<(ZF w t p).length->∀(h:i<(ZF w t p).length) (h':i<p.kids.length),Zi w d (ZF w t p)[i] p.kids[i]/\ZFv w d (ZF w t p)[i] p.kids[i]:=by
         intro i _ _ h h'
         have ei:(ZF w t p)[i]=t:=by
          have:i=0∨i=1:=by omega
          rcases this with rfl|rfl<;>simp[et]
         rw[ei]
         have:i=0∨i=1:=by omega
         rcases this with rfl|rfl
         ·exact⟨s0,l0⟩
         ·exact⟨s1,l1⟩
        have sh:Zi w (d+1) t p:=⟨ho,hl,fun i a b c e=>(kk i a b c e).1⟩
        have li:ZFv w (d+1) t p:=⟨fun i a b c e=>(kk i a b c e).2,by rw[iP h5];exact fun _ _=>hsv⟩
        have hnd:=ZBi sh li
        have hvk:=ZDX hw ht sh
        rw[ZDW ho h5 h0]at hnd hvk
        rw[ZSA (vs:=ZW w d t p.kids[0]) (M:=uN ((c1:Int),ZW w d t p.kids[0])) (r:=([],false,(c1:Int))) (fun x hx=>⟨(hvk x hx).1,(hvk x hx).2.1⟩) (fun s i=>by rw[uN]) _ 0 _ rfl,zY,iP (ZG ⟨hnd,fun _ _=>rfl⟩)]
        exact⟨_,true,c1,rfl,⟨fun _=>⟨sh,li,by omega⟩,fun _=>rfl⟩,fun _=>⟨by omega,(ZDW ho h5 h0).symm⟩⟩
       ·rw[iN (by rw[ZE hsv];simp)]
        simp only[oS]
        exact no (fun h=>hsv (kid0 h.1 h.2.1).2.2) _
    ·have kidx:Zi w (d+1) t p->ZFv w (d+1) t p->ZRH w d (ZF w t p) p.kids 0:=fun a b i hi hlt h h'=>⟨a.2.2 i hi hlt h h',b.1 i hi hlt h h'⟩
     have fin:∀(v00:List VarType) (hv00:v00.length<=1) (hv:v00=if p.op=2∨p.op=6 then[(⟨p.var,t⟩:VarType)]else[])
       (L:Int->List VarType->Nat->Option (Lo ((List VarType)×Bool×Int) (Int×(List VarType))))
       (hL:∀z vars i,L z vars i=if i<p.kids.length then p.kids[i]? >>=fun x=>(ZF w t p)[i]? >>=fun y=>vU w y x (i64.wrap (((11- (d+1):Nat):Int)+1)) z>>=fun r=>if r.2.1=true then(if p.op=5 then(if i=1 then uO vars r.1>>=fun b=>if b=true then L r.2.2 vars (i+1)else some (.ret ([],false,r.2.2))else(if vars.length+r.1.length<=67108864 then L r.2.2 (vars++r.1) (i+1)else none))else(if vars.length+r.1.length<=67108864 then L r.2.2 (vars++r.1) (i+1)else none))else some (.ret ([],false,r.2.2))else some (.go (z,vars)))
       (M:Int×List VarType->(Nat->Bool)->Nat->Option (Lo ((List VarType)×Bool×Int) Unit))
       (hM:∀q s i,M q s i=if i<q.2.length then q.2[i]? >>=fun x=>if 0<=x.var/\x.var.toNat<6 then(if s x.var.toNat=true then some (.ret ([],false,q.1))else M q (ZHD s x.var.toNat true) (i+1))else none else some (.go ())),
       ∃vs b c,((L ((count+1:Nat):Int) v00 0).bind fun o=>match o with
        | .ret r0=>some r0
        | .go s=>(M s (fun _=>false) 0).bind fun o=>match o with
         | .ret r0=>some r0
         | .go _=>some (s.2,true,s.1))=some (vs,b,((c:Nat):Int))/\ZCM w (d+1) t p count vs b c:=by
      intro v00 hv00 hv L hL M hM
      obtain⟨o,g1,g2⟩:=P.YAv w d hd p hp (ZF w t p) hl.symm hts h5 L hL ihx _ 0 (count+1) v00 rfl (by omega) (by rw[←hwt];omega)
      rw[g1]
      simp only[oS]
      rw[←hwt]at g2
      cases o with
      |ret r=>
       obtain⟨vs,b,c⟩:=r
       obtain⟨rfl,c',rfl,q3⟩:=g2
       exact⟨vs,false,c',rfl,⟨fun h=>(by cases h),fun hh=>absurd ⟨kidx hh.1 hh.2.1,by have:=hh.2.2;omega⟩ q3⟩,fun h=>by cases h⟩
      |go s=>
       obtain⟨c,vs⟩:=s
       obtain⟨rfl,q2,q3,q4⟩:=g2
       have hvs:vs=ZW w (d+1) t p:=by
        rw[q2,ZW,hv,iN h5,yC (by simp;omega)];simp
       have sh:Zi w (d+1) t p:=⟨ho,hl,fun i a b c e=>(q3 i a b c e).1⟩
       have hvk:=ZDX hw ht sh
       rw[←hvs]at hvk
       dsimp only
       rw[ZSA (vs:=vs) (M:=M (((count+1+p.wt:Nat):Int),vs)) (r:=([],false,((count+1+p.wt:Nat):Int))) (fun x hx=>⟨(hvk x hx).1,(hvk x hx).2.1⟩) (fun s i=>by rw[hM]) _ 0 _ rfl,zY]
       simp only[oS]
       by_cases hn:ZG6 vs
       ·rw[iP (ZG ⟨hn,fun _ _=>by first|rfl|trivial⟩)]
        exact⟨vs,true,count+1+p.wt,rfl,⟨fun _=>⟨sh,⟨fun i a b c e=>(q3 i a b c e).2,by rw[iN h5,←hvs];exact hn⟩,by omega⟩,fun _=>rfl⟩,fun _=>⟨by omega,hvs⟩⟩
       ·rw[iN (by rw[ZE fun h=>hn h.1];simp)]
        exact no (fun h=>hn (by have:=h.2.1.2;rw[iN h5,←hvs]at this;exact this)) _
     by_cases h2:p.op=2
     ·rw[iP h2]
      exact fin [⟨p.var,t⟩] (by simp) (by rw[iP (.inl h2)]) (F.f138 w p ((11- (d+1):Nat):Int) (ZF w t p,dec (ZAw w t p/\p.kids.length=(ZF w t p).length))) (fun z vars i=>by rw[F.f138]) F.f134 (fun q s i=>by rw[F.f134])
     ·rw[iN h2]
      by_cases h6:p.op=6
      ·rw[iP h6]
       exact fin [⟨p.var,t⟩] (by simp) (by rw[iP (.inr h6)]) (F.f136 w p ((11- (d+1):Nat):Int) (ZF w t p,dec (ZAw w t p/\p.kids.length=(ZF w t p).length))) (fun z vars i=>by rw[F.f136]) F.f132 (fun q s i=>by rw[F.f132])
      ·rw[iN h6]
       exact fin [] (by simp) (by rw[iN (by omega)]) (vX w p ((11- (d+1):Nat):Int) (ZF w t p,dec (ZAw w t p/\p.kids.length=(ZF w t p).length))) (fun z vars i=>by rw[vX]) uN (fun q s i=>by rw[uN])
   ·rw[iN (by rw[ZE hs];simp)]
    exact no (fun h=>hs ⟨h.1.1,h.1.2.1⟩) _
termination_by d=>d
def ZBD (w:List Data)(t:Ty)(p:Pattern):Prop:=Zi w 10 t p/\ZFv w 10 t p/\1+p.wt<=60
theorem P.YAK (w:List Data)(hw:ZN w)(t:Ty)(ht:ZY w t)(p:Pattern)(hp:p.wt<=1048576):F.f85 w t p=some (dec (ZBD w t p)):=by
 unfold F.f85
 have e10:uZ w t p 10=some (dec (Zi w 10 t p)):=P.YN w hw 10 t p ht (by omega)
 rw[e10]
 simp only[oE,oS]
 by_cases h1:Zi w 10 t p
 ·rw[iP (ZG h1)]
  obtain⟨c,g1,g2,g3,g4,g5⟩:=P.YAw p hp 60 (by omega)
  have g1':kR p 60=some (c:Int):=g1
  rw[g1']
  simp only[oS]
  by_cases hc:1+p.wt<=60
  ·rw[iP (by have:=g4 hc;omega),P.YU w hw 10 t p ht h1 hp]
   simp only[oS]
   congr 1;exact ZL ⟨fun h=>⟨h1,h,hc⟩,fun h=>h.2.1⟩
  ·rw[iN (by have:=g5 (by omega);omega),ZE fun h=>hc h.2.2]
 ·rw[iN (by rw[ZE h1];simp),ZE fun h=>h1 h.1]
theorem P.Yi (w:List Data)(hw:ZN w)(t:Ty)(ht:ZY w t)(p:Pattern)(hp:p.wt<=1048576):∃vs,F.f139 w t p=some (vs,dec (ZBD w t p))/\(ZBD w t p->vs=ZW w 10 t p):=by
 unfold F.f139
 obtain⟨vs,b,c,g1,g2,g3⟩:=P.Yk w hw 10 t p 0 (by omega) ht hp (by omega)
 have g1':vU w t p 1 0=some (vs,b,(c:Int)):=g1
 rw[g1']
 simp only[oE,oS]
 have hb:b=dec (ZBD w t p):=by
  cases b with
  |true=>rw[ZG];obtain⟨a,b,c⟩:=g2.1 rfl;exact⟨a,b,by omega⟩
  |false=>rw[ZE];intro h;have:=g2.2 ⟨h.1,h.2.1,by have:=h.2.2;omega⟩;cases this
 subst hb
 exact⟨vs,rfl,fun h=>(g3 (ZG h)).2⟩
def gOk (g:Guard)(vs:List VarType):Prop:=(g.op=0/\g.var=0/\g.n=0)∨((g.op=1∨g.op=2)/\0<=g.n/\g.n<=9/\(⟨g.var,⟨-1,0⟩⟩:VarType)∈vs)
theorem P.YAR (g:Guard)(vs:List VarType):F.f140 g vs=some (dec (gOk g vs)):=by
 unfold F.f140
 simp only[P.YI,P.YB,oE,oS]
 by_cases h0:g.op=0
 ·rw[iP h0];congr 1;refine ZL ?_;unfold gOk eq3;simp only;omega
 ·rw[iN h0]
  by_cases h1:1<=g.op/\g.op<=2
  ·rw[iP (ZG h1)]
   by_cases h2:0<=g.n/\g.n<=9
   ·rw[iP (ZG h2)];congr 1
    refine ZL ⟨fun h=>.inr ⟨by omega,h2.1,h2.2,h⟩,fun h=> ?_⟩
    rcases h with h|h
    ·omega
    ·exact h.2.2.2
   ·rw[iN (by rw[ZE h2];simp),ZE]
    rintro(h|h)
    ·omega
    ·exact h2 ⟨h.2.1,h.2.2.1⟩
  ·rw[iN (by rw[ZE h1];simp),ZE]
   rintro(h|h)
   ·omega
   ·omega
theorem P.YAO (w:List Data)(g:Guard)(vs:List VarType)(hn:ZG6 vs)(ht:∀x,x∈vs->ZY w x.type):F.f172 g vs=some (dec (gOk g vs)):=by
 unfold F.f172
 have key:g.op=1∨g.op=2->(if g.n<0 then some false else if 9<g.n then some false else(kQ vs g.var)>>=fun v21=>if 0<=v21 then(at? vs v21)>>=fun x25=>some (decide (x25.type.data=(-1)))else some false)=some (dec (gOk g vs)):=by
  intro hop
  by_cases a1:g.n<0
  ·rw[iP a1,ZE];rintro(h|h)<;>omega
  rw[iN a1]
  by_cases a2:9<g.n
  ·rw[iP a2,ZE];rintro(h|h)<;>omega
  rw[iN a2,P.YF]
  simp only[oE,oS]
  rcases ZB5 vs g.var with h|⟨j,hj,h1,h2,h3⟩
  ·rw[iN (by omega),ZE]
   rintro(h'|h')
   ·omega
   ·exact ZEv h _ h'.2.2.2 rfl
  ·rw[iP (by omega),h1,ZLY,gQ hj]
   simp only[oS]
   rw[←ZAL];congr 1
   refine ZL ⟨fun h=>.inr ⟨hop,by omega,by omega,?_⟩,fun h=> ?_⟩
   ·have hty:=ht _ (gM hj)
    have hi:vs[j].type.index=0:=by unfold ZY ZBq at hty;omega
    have:(⟨g.var,⟨-1,0⟩⟩:VarType)=vs[j]:=ZPg (by simp[h2]) ⟨by simp[h],by simp[hi]⟩
    rw[this];exact gM hj
   ·rcases h with h|h
    ·omega
    ·obtain⟨i,hi,e⟩:=yG h.2.2.2
     have hij:i=j:=by
      rw[ZFR]at hn
      rcases zQ i j with hlt|heq|hlt
      ·exact absurd (by rw[e,h2]) (hn i j hi hj hlt)
      ·exact heq
      ·exact absurd (by rw[e,h2]) (hn j i hj hi hlt)
     subst hij
     rw[e]
 by_cases h0:g.op=0
 ·rw[iP h0]
  by_cases h1:g.var=0
  ·rw[iP h1,←ZAL];congr 1;refine ZL ⟨fun h=>.inl ⟨h0,h1,h⟩,fun h=> ?_⟩
   rcases h with h|h
   ·exact h.2.2
   ·omega
  ·rw[iN h1,ZE];rintro(h|h)<;>omega
 ·rw[iN h0]
  by_cases h1:g.op=1
  ·rw[iP h1];exact key (.inl h1)
  ·rw[iN h1]
   by_cases h2:g.op=2
   ·rw[iP h2];exact key (.inr h2)
   ·rw[iN h2,ZE];rintro(h|h)<;>omega
def ZLR (w:List Data)(t:Ty)(c:Clause):Prop:=ZBD w t c.pat/\gOk c.guard (ZW w 10 t c.pat)
theorem P.YAt (w:List Data)(hw:ZN w)(t:Ty)(ht:ZY w t)(c:Clause)(hp:c.pat.wt<=1048576):F.f173 w t c=some (dec (ZLR w t c)):=by
 unfold F.f173
 rw[P.YAK w hw t ht _ hp]
 simp only[oE,oS]
 by_cases h:ZBD w t c.pat
 ·rw[iP (ZG h),P.YA w hw 10 t c.pat [] ht h.1 (by simp;omega)]
  simp only[oS,yM]
  rw[P.YAO w _ _ (ZBi h.1 h.2.1) (fun x hx=>(ZDX hw ht h.1 x hx).2.2)]
  simp only[oS]
  congr 1;exact ZL ⟨fun g=>⟨h,g⟩,fun g=>g.2⟩
 ·rw[iN (by rw[ZE h];simp),ZE fun g=>h g.1]
theorem P.YAG (w:List Data)(hw:ZN w)(t:Ty)(ht:ZY w t)(c:Clause)(hp:c.pat.wt<=1048576):F.f141 w t c=some (dec (ZLR w t c)):=by
 unfold F.f141
 obtain⟨vs,h1,h2⟩:=P.Yi w hw t ht c.pat hp
 rw[h1]
 simp only[oE,oS]
 by_cases h:ZBD w t c.pat
 ·rw[iP (ZG h),P.YAR,h2 h]
  simp only[oS]
  congr 1;exact ZL ⟨fun g=>⟨h,g⟩,fun g=>g.2⟩
 ·rw[iN (by rw[ZE h];simp),ZE fun g=>h g.1]
def ZSB (v:Int):Nat->Pattern->Prop
 |0,_=>False
 |d+1,p=>(∃i,∃h:i<p.kids.length,ZSB v d p.kids[i])∨((p.op=2∨p.op=6)/\p.var=v)
theorem ZBs (a b c d e:Int):(⟨a,b,c,d,e,[]⟩:Pattern).wt=0:=by rw[Pattern.wt_eq];rfl
theorem ZPe (a b c d e:Int)(k:Pattern):(⟨a,b,c,d,e,[k]⟩:Pattern).wt=1+k.wt:=by rw[Pattern.wt_eq];simp
theorem ZPd (a b c d e:Int)(k l:Pattern):(⟨a,b,c,d,e,[k,l]⟩:Pattern).wt=2+k.wt+l.wt:=by rw[Pattern.wt_eq];simp;omega
theorem ZKB {α:Type}(f:α->Nat):∀(l:List α) (i:Nat) (h:i<l.length) (x:α),wtL f (l.set i x)+f l[i]=wtL f l+f x
 |a::l,0,h,x=>by simp;omega
 |a::l,i+1,h,x=>by
  have:=ZKB f l i (by simpa using h) x
  simp;omega
def hv (d:Nat)(p:Pattern):Prop:=∃v,ZSB v d p
theorem ZDZ {α:Type}{l:List α}(h:l.length=2):l=[l[0]'(by omega),l[1]'(by omega)]:=by
 match l,h with
 | [x,y],_=>rfl
def ZMz (w:List Data)(t:Ty)(l:List Clause):Prop:=ZBO w t/\l.length<=8/\∀c,c∈l->ZLR w t c
theorem P.YH (w:List Data)(hw:ZAU w)(t:Ty)(l:List Clause)(hp:∀c,c∈l->c.pat.wt<=1048576):F.f175 w t l=some (dec (ZMz w t l)):=by
 unfold F.f175
 rw[P.Yq w t hw]
 simp only[oE,oS]
 by_cases h1:ZBO w t
 ·rw[iP (ZG h1)]
  by_cases h2:8<l.length
  ·rw[iP h2,ZE fun h=>by have:=h.2.1;omega]
  ·rw[iN h2]
   have hl:∀k,k<=l.length->kE w t l (l.length-k)=some (if dec (∀c,c∈l.drop (l.length-k)->ZLR w t c)=true then .go ()else .ret false):=by
    intro k
    induction k with
    |zero=>intro _;rw[kE,iN (by omega),iP (ZG fun c hc=>by simp at hc)]
    |succ k ih=>
     intro hk
     have hi:l.length- (k+1)<l.length:=by omega
     rw[kE,iP hi,gQ hi]
     simp only[oE,oS]
     rw[P.YAt w h1.1 t h1.2 _ (hp _ (gM hi))]
     simp only[oS]
     have e1:l.length- (k+1)+1=l.length-k:=by omega
     have e2:l.drop (l.length- (k+1))=l[l.length- (k+1)]::l.drop (l.length-k):=by rw[zW hi,e1]
     by_cases hc:ZLR w t l[l.length- (k+1)]
     ·rw[iP (ZG hc),e1,ih (by omega),e2]
      rw[ZL (q:=∀c,c∈l[l.length- (k+1)]::l.drop (l.length-k)->ZLR w t c) ⟨fun h c hc'=>by
       rcases yW.1 hc' with rfl|hc'
       ·exact hc
       ·exact h c hc',fun h c hc'=>h c (yE _ hc')⟩]
     ·rw[iN (by rw[ZE hc];simp),e2,iN (by rw[ZE fun h=>hc (h _ (yJ ..))];simp)]
   have:=hl l.length (zA _)
   rw[zD,zY]at this
   rw[this]
   simp only[oS]
   by_cases h3:∀c,c∈l->ZLR w t c
   ·rw[iP (ZG h3)];simp only;rw[ZG ⟨h1,by omega,h3⟩]
   ·rw[iN (by rw[ZE h3];simp)];simp only;rw[ZE fun h=>h3 h.2.2]
 ·rw[iN (by rw[ZE h1];simp),ZE fun h=>h1 h.1]
theorem P.Yf (w:List Data)(hw:ZAU w)(t:Ty)(l:List Clause)(hp:∀c,c∈l->c.pat.wt<=1048576):F.f146 w t l=some (dec (ZMz w t l)):=by
 unfold F.f146
 rw[P.Yw w t hw]
 simp only[oE,oS]
 by_cases h1:ZBO w t
 ·rw[iP (ZG h1)]
  by_cases h2:l.length<=8
  ·rw[iP h2]
   unfold F.f145 F.f144
   have one:∀c,c∈l->F.f142 c w t=some (dec (¬ZLR w t c)):=by
    intro c hc
    unfold F.f142
    rw[P.YAG w h1.1 t h1.2 c (hp c hc)]
    simp only[oE,oS]
    by_cases a:ZLR w t c
    ·rw[ZG a,ZE (by simp[a])];rfl
    ·rw[ZE a,ZG a];rfl
   rw[ZMm (a:=l) (p:=fun c=>¬ZLR w t c) (L:=uM l w t) (fun k hk=>by rw[uM,iN (by omega)])
    (fun k hk hp=>by rw[uM,iP hk,gQ hk];simp only[oE,oS];rw[one _ (gM hk)];simp only[oS];rw[iN (by rw[ZE hp];simp)])
    (fun k hk hp=>by rw[uM,iP hk,gQ hk];simp only[oE,oS];rw[one _ (gM hk)];simp only[oS];rw[iP (ZG hp)]) _ 0 rfl,zY]
   cases hf:ZG7 (fun c=>¬ZLR w t c) 0 l with
   |none=>
    have:=ZA2 hf
    simp only[oE,oS]
    rw[ZG ⟨h1,h2,fun c hc=>vC fun h=>this c hc h⟩];rfl
   |some j=>
    obtain⟨_,h3,h4,_⟩:=ZA1 hf
    simp only[oE,oS]
    rw[ZE fun h=>h4 (h.2.2 _ (gM h3))];simp
  ·rw[iN h2,ZE fun h=>h2 h.2.1]
 ·rw[iN (by rw[ZE h1];simp),ZE fun h=>h1 h.1]
theorem P.Yu {w:List Data}{d e:Nat}{as:List Ty}{depth x:Int}(hd:i64.wrap (depth-1)=(d:Int))
  (ih:∀a,a∈as->∀K r,rok K r->K+e<=1099511627776->∃p r',uD r w a (d:Int)=some (p,r')/\rok (K+e) r'/\p.wt+1<=e):
  ∀(k K:Nat) (z:List Int) (z32:Int) (out:List Pattern),k<=as.length->rok K ⟨z,z32⟩->K+k*e<=1099511627776->out.length+k<=67108864->
   ∃z' z32' out',kS w depth x as z z32 out (as.length-k)=some (z',z32',out')/\rok (K+k*e) ⟨z',z32'⟩/\wtL Pattern.wt out'<=wtL Pattern.wt out+k*e
 |0,K,z,z32,out,hk,hr,hK,ho=>by
  rw[kS,iN (by omega)]
  exact⟨z,z32,out,rfl,hr.mono (by omega),by omega⟩
 |k+1,K,z,z32,out,hk,hr,hK,ho=>by
  have hi:as.length- (k+1)<as.length:=by omega
  rw[zE,zI]at hK
  obtain⟨p,r1,e1,h1,h2⟩:=ih _ (gM hi) K ⟨z,z32⟩ hr (by omega)
  obtain⟨z',z32',out',f1,f2,f3⟩:=P.Yu hd ih k (K+e) r1.f0 r1.f1 (out++[p]) (by omega) h1 (by omega) (by simp;omega)
  rw[kS,iP hi,gQ hi]
  simp only[oE,oS]
  rw[hd,e1]
  simp only[oS]
  rw[iP (by omega)]
  have ei:as.length- (k+1)+1=as.length-k:=by omega
  rw[ei]
  refine⟨z',z32',out',f1,f2.mono (by rw[zE];omega),?_⟩
  have:wtL Pattern.wt (out++[p])=wtL Pattern.wt out+(1+p.wt):=by simp[wtL];omega
  rw[zE];omega
theorem P.YA2 {w:List Data}(hw:ZN w):∀(d:Nat) (t:Ty) (K:Nat) (r:ZB),ZY w t->d<=12->rok K r->K+5^d<=1099511627776->
  ∃p r',uD r w t (d:Int)=some (p,r')/\rok (K+5^d) r'/\p.wt+1<=5^d
 |0,t,K,r,ht,hd,hr,hK=>by
  rw[uD,iP (by omega)]
  exact⟨_,_,rfl,hr.mono (by omega),by rw[ZBs];simp⟩
 |1,t,K,r,ht,hd,hr,hK=>by
  rw[uD,iP (by omega)]
  exact⟨_,_,rfl,hr.mono (by omega),by rw[ZBs];simp⟩
 |d+2,t,K,r,ht,hd,hr,hK=>by
  have hpos:1<=5^d:=Nat.pow_pos (show 0<5 by omega)
  have e25:5^ (d+2)=25*5^d:=by rw[zH,zH];omega
  have e7:5^ (d+1)=5*5^d:=by rw[zH];omega
  have hwr:i64.wrap (((d+2:Nat):Int) -1)=((d+1:Nat):Int):=by rw[ZD (by omega) (by omega)];omega
  have ih:=fun(a:Ty) (ha:ZY w a) (K:Nat) (r:ZB) hr hK=>P.YA2 hw (d+1) a K r ha (by omega) hr hK
  rw[e25]at hK ⊢
  rw[e7]at ih
  generalize 5^d=q at hpos hK ih ⊢
  rw[uD,iN (by omega)]
  obtain⟨v1,r1,e1,h1,a1,b1,_⟩:=P.YK hr (by omega) 4
  rw[e1]
  simp only[oE,oS]
  split
  ·exact⟨_,_,rfl,h1.mono (by omega),by rw[ZBs];omega⟩
  obtain⟨v2,r2,e2,h2,a2,b2,_⟩:=P.YK h1 (by omega) 6
  rw[e2]
  simp only[oS]
  split
  ·rw[hwr]
   obtain⟨p1,r3,e3,h3,w3⟩:=ih t ht _ r2 h2 (by omega)
   obtain⟨p2,r4,e4,h4,w4⟩:=ih t ht _ r3 h3 (by omega)
   rw[e3]
   simp only[oS]
   rw[e4]
   exact⟨_,_,rfl,h4.mono (by omega),by rw[ZPd];show 2+p1.wt+p2.wt+1<=_;omega⟩
  ·split
   ·obtain⟨v3,r3,e3,h3,a3,b3,_⟩:=P.YK h2 (by omega) 10
    obtain⟨v4,r4,e4,h4,a4,b4,_⟩:=P.YK h3 (by omega) (i64.wrap (10-v3))
    obtain⟨v5,r5,e5,h5,a5,b5,_⟩:=P.YK h4 (by omega) 2
    rw[e3]
    simp only[oS]
    rw[e4]
    simp only[oS]
    rw[e5]
    exact⟨_,_,rfl,h5.mono (by omega),by rw[ZBs];omega⟩
   ·next hn=>
    rw[P.YP w hw t (ZBQ ht.1)]
    simp only[oS]
    split
    ·exact⟨_,_,rfl,h2.mono (by omega),by rw[ZBs];omega⟩
    ·next hl=>
     obtain⟨v3,r3,e3,h3,a3,b3,_⟩:=P.YK h2 (by omega) ((ZT w t).length:Int)
     have b3:=b3 (by omega)
     obtain⟨c,hc,hm⟩:=ZE1 a3 b3
     rw[e3]
     simp only[oS]
     rw[hc]
     simp only[oS]
     rw[P.YG w hw t (ZBQ ht.1) c hm]
     simp only[oS]
     have hal:(ZQ w t c).length<=3:=by
      have:=(Zl hw (ZBQ ht.1) (ZX hm).1).2 _ (ZBY hm).2
      unfold ZQ;rw[yH];exact this.2.1
     have hmul:(ZQ w t c).length*(5*q)<=3*(5*q):=zC _ hal
     obtain⟨z',z32',out',f1,f2,f3⟩:=P.Yu (x:=c) hwr (fun a ha K r hr hK=>ih a (ZE3 hw ht hm a ha) K r hr hK) (ZQ w t c).length _ r3.f0 r3.f1 [] (zA _) h3 (by omega) (by simp;omega)
     rw[zD]at f1
     rw[f1]
     refine⟨_,_,rfl,f2.mono (by omega),?_⟩
     rw[Pattern.wt_eq]
     simp at f3
     show wtL Pattern.wt out'+1<=_
     omega
theorem P.YZ {p:Pattern}{L:List Int->Int->List Pattern->Nat->Int->Option ((List Int)×Int×(List Pattern)×Int)}
  (hL:∀z z12 out i next,L z z12 out i next=if i<p.kids.length then
   (p.kids[i]?)>>=fun x=>
   (kB (⟨z,z12⟩:ZB) x next)>>=fun v17=>
   if out.length+1<=67108864 then
    L v17.2.2.f0 v17.2.2.f1 (out++[v17.1]) (i+1) v17.2.1
   else none
  else
   some (z,z12,out,next))
  (ih:∀k,k∈p.kids->∀(n:Int) (K:Nat) (r:ZB),0<=n->n<=7->rok K r->K+3*(1+k.wt)<=1099511627776->k.wt<=1048576->
   ∃p' n' r',kB r k n=some (p',n',r')/\rok (K+3*(1+k.wt)) r'/\0<=n'/\n'<=7/\p'.wt+1<=2*(1+k.wt)):
  ∀(k K:Nat) (z:List Int) (z12:Int) (out:List Pattern) (next:Int),k<=p.kids.length->rok K ⟨z,z12⟩->K+3*wtL Pattern.wt (p.kids.drop (p.kids.length-k))<=1099511627776->wtL Pattern.wt p.kids<=1048576->out.length+k<=67108864->0<=next->next<=7->
   ∃z' z12' out' next',L z z12 out (p.kids.length-k) next=some (z',z12',out',next')/\rok (K+3*wtL Pattern.wt (p.kids.drop (p.kids.length-k))) ⟨z',z12'⟩/\0<=next'/\next'<=7/\
    wtL Pattern.wt out'<=wtL Pattern.wt out+2*wtL Pattern.wt (p.kids.drop (p.kids.length-k))
 |0,K,z,z12,out,next,hk,hr,hK,hb,ho,n0,n7=>by
  rw[hL,iN (by omega)]
  exact⟨z,z12,out,next,rfl,hr.mono (by omega),n0,n7,by omega⟩
 |k+1,K,z,z12,out,next,hk,hr,hK,hb,ho,n0,n7=>by
  have hi:p.kids.length- (k+1)<p.kids.length:=by omega
  have ei:p.kids.length- (k+1)+1=p.kids.length-k:=by omega
  have hd:p.kids.drop (p.kids.length- (k+1))=p.kids[p.kids.length- (k+1)]::p.kids.drop (p.kids.length-k):=by rw[zW hi,ei]
  have hm:=Zt Pattern.wt (gM hi)
  rw[hd,ZAQ]at hK ⊢
  obtain⟨p',n',r1,e1,h1,q1,q2,q3⟩:=ih _ (gM hi) next K ⟨z,z12⟩ n0 n7 hr (by omega) (by omega)
  obtain⟨z',z12',out',next',f1,f2,f3,f4,f5⟩:=P.YZ hL ih k _ r1.f0 r1.f1 (out++[p']) n' (by omega) h1 (by omega) hb (by simp;omega) q1 q2
  rw[hL,iP hi,gQ hi]
  simp only[oE,oS]
  rw[e1]
  simp only[oS]
  rw[iP (by omega),ei]
  refine⟨z',z12',out',next',f1,f2.mono (by omega),f3,f4,?_⟩
  have:wtL Pattern.wt (out++[p'])=wtL Pattern.wt out+(1+p'.wt):=by simp[wtL];omega
  omega
theorem P.YBE (p : Pattern) : ∀ (n : Int) (K : Nat) (r : ZB), 0 <= n -> n <= 7 -> rok K r -> K + 3 * (1 + p.wt) <= 1099511627776 -> p.wt <= 1048576 ->
   ∃p' n' r',kB r p n=some (p',n',r')/\rok (K+3*(1+p.wt)) r'/\0<=n'/\n'<=7/\p'.wt+1<=2*(1+p.wt):=by
 induction p using Pattern.ind with
 |_ p ih=>
  intro n K r n0 n7 hr hK hb
  have hwt:=p.wt_eq
  have hlen:=ZA9 Pattern.wt p.kids
  have same:p.wt+1<=2*(1+p.wt):=by omega
  rw[kB]
  split
  ·exact⟨_,_,_,rfl,hr.mono (by omega),n0,n7,same⟩
  split
  ·exact⟨_,_,_,rfl,hr.mono (by omega),n0,n7,same⟩
  split
  ·exact⟨_,_,_,rfl,hr.mono (by omega),n0,n7,same⟩
  have tail:∀(K':Nat) (z':List Int) (z12':Int) (out':List Pattern) (next':Int),rok K' ⟨z',z12'⟩->K'+1<=K+3*(1+p.wt)->0<=next'->next'<=7->wtL Pattern.wt out'<=2*p.wt->
    ∃p' n' r',(if next'<=5 then
     (uT (⟨z',z12'⟩:ZB) 6).bind fun v24=>
     if v24.1=0 then
      some ((⟨6,0,0,0,next',[(⟨p.op,p.ctor,p.n,p.m,p.var,out'⟩:Pattern)]⟩:Pattern),i64.wrap (next'+1),v24.2)
     else
      some ((⟨p.op,p.ctor,p.n,p.m,p.var,out'⟩:Pattern),next',v24.2)
    else
     some ((⟨p.op,p.ctor,p.n,p.m,p.var,out'⟩:Pattern),next',(⟨z',z12'⟩:ZB)))=some (p',n',r')/\rok (K+3*(1+p.wt)) r'/\0<=n'/\n'<=7/\p'.wt+1<=2*(1+p.wt):=by
   intro K' z' z12' out' next' hr' hK' m0 m7 hout
   have hown:(⟨p.op,p.ctor,p.n,p.m,p.var,out'⟩:Pattern).wt=wtL Pattern.wt out':=by rw[Pattern.wt_eq]
   split
   ·obtain⟨v,r1,e1,h1,a1,b1,_⟩:=P.YK hr' (by omega) 6
    rw[e1]
    simp only[oS]
    have hwn:i64.wrap (next'+1)=next'+1:=ZD (by omega) (by omega)
    rw[hwn]
    split
    ·refine⟨_,_,_,rfl,h1.mono (by omega),by omega,by omega,?_⟩
     rw[ZPe,hown];omega
    ·refine⟨_,_,_,rfl,h1.mono (by omega),by omega,by omega,?_⟩
     rw[hown];omega
   ·refine⟨_,_,_,rfl,hr'.mono (by omega),m0,m7,?_⟩
    rw[hown];omega
  split
  ·obtain⟨v,r1,e1,h1,a1,b1,_⟩:=P.YK hr (by omega) 2
   rw[e1]
   simp only[oE,oS]
   have hwn:i64.wrap (n+1)=n+1:=ZD (by omega) (by omega)
   split
   ·rw[hwn]
    exact⟨_,_,_,rfl,h1.mono (by omega),by omega,by omega,by rw[ZBs];omega⟩
   ·obtain⟨z',z12',out',next',f1,f2,f3,f4,f5⟩:=P.YZ (p:=p) (L:=F.f62 p n) (fun z z12 out i next=>by rw[F.f62]) ih p.kids.length _ r1.f0 r1.f1 [] n (zA _) h1 (by rw[zD,zY];omega) (by omega) (by simp;omega) n0 n7
    rw[zD]at f1;rw[zD,zY]at f2 f5
    rw[f1]
    simp only[oS]
    simp at f5
    exact tail _ z' z12' out' next' f2 (by omega) f3 f4 (by omega)
  ·obtain⟨z',z12',out',next',f1,f2,f3,f4,f5⟩:=P.YZ (p:=p) (L:=F.f63 p n) (fun z z12 out i next=>by rw[F.f63]) ih p.kids.length _ r.f0 r.f1 [] n (zA _) hr (by rw[zD,zY];omega) (by omega) (by simp;omega) n0 n7
   rw[zD]at f1;rw[zD,zY]at f2 f5
   rw[f1]
   simp only[oE,oS]
   simp at f5
   exact tail _ z' z12' out' next' f2 (by omega) f3 f4 (by omega)
theorem ZQ7 (w:List Data)(t:Ty):ZBD w t ⟨1,0,0,0,0,[]⟩:=by
 have hp:ZF w t ⟨1,0,0,0,0,[]⟩=[]:=by simp[ZF]
 refine⟨⟨.inl ⟨rfl,rfl,rfl,rfl,rfl⟩,by rw[hp];rfl,fun i _ h=>by rw[hp]at h;simp at h⟩,⟨fun i _ h=>by rw[hp]at h;simp at h,?_⟩,by rw[ZBs];omega⟩
 rw[iN (by simp)]
 simp[ZG6,ZW]
theorem P.YA7 {w:List Data}(hw:ZN w){t:Ty}(ht:ZY w t){K:Nat}{r:ZB}(hr:rok K r)(hK:K+2600<=1099511627776):∃p r',kO r w t=some (p,r')/\rok (K+2600) r'/\ZBD w t p:=by
 unfold kO
 obtain⟨v,r1,e1,h1,hv⟩:=P.num hr (by omega) [3,2,4,1] (by simp)
 obtain⟨d,rfl,hd⟩:∃d:Nat,v=(d:Int)/\d<=4:=by
  simp at hv
  exact⟨v.toNat,by omega,by omega⟩
 have h8:5^d<=625:=zF (Nat.pow_le_pow_right (n:=5) (by omega) hd) (by decide)
 obtain⟨p,r2,e2,h2,hp⟩:=P.YA2 hw d t _ r1 ht (by omega) h1 (by omega)
 obtain⟨q,n,r3,e3,h3,_,_,hq⟩:=P.YBE p 0 _ r2 (by omega) (by omega) h2 (by omega) (by omega)
 rw[e1]
 simp only[oE,oS]
 rw[e2]
 simp only[oS]
 rw[e3]
 simp only[oS]
 rw[P.YAK w hw t ht q (by omega)]
 simp only[oS]
 by_cases h:ZBD w t q
 ·rw[iP (ZG h)]
  exact⟨_,_,rfl,h3.mono (by omega),h⟩
 ·rw[iN (by rw[ZE h];simp)]
  exact⟨_,_,rfl,h3.mono (by omega),ZQ7 w t⟩
theorem P.YBD {w:List Data}(hw:ZN w){t:Ty}(ht:ZY w t){K:Nat}{r:ZB}(hr:rok K r)(hK:K+20000<=1099511627776):∃p r',kO r w t=some (p,r')/\rok (K+20000) r'/\ZBD w t p:=by
 obtain⟨p,r',e,h,hp⟩:=P.YA7 hw ht hr (by omega)
 exact⟨p,r',e,h.mono (by omega),hp⟩
theorem P.YE (v:Pattern×ZB)(vs:List VarType):∀(k K:Nat) (z:List Int) (z4 z5 z6 z7:Int),k<=vs.length->rok K ⟨z,z4⟩->K+3*k<=1099511627776->
  ∃z' z4' z5' z6' z7',kN v z z4 z5 z6 z7 vs (vs.length-k)=some (z',z4',z5',z6',z7')/\rok (K+3*k) ⟨z',z4'⟩
 |0,K,z,z4,z5,z6,z7,hk,hr,hK=>by
  rw[kN,iN (by omega)]
  exact⟨z,z4,z5,z6,z7,rfl,hr.mono (by omega)⟩
 |k+1,K,z,z4,z5,z6,z7,hk,hr,hK=>by
  have hi:vs.length- (k+1)<vs.length:=by omega
  have ei:vs.length- (k+1)+1=vs.length-k:=by omega
  rw[kN,iP hi,gQ hi]
  simp only[oE,oS]
  rw[ei]
  split
  ·obtain⟨v1,r1,e1,h1,_⟩:=P.YK hr (by omega) 2
   rw[e1]
   simp only[oS]
   split
   ·obtain⟨v2,r2,e2,h2,_⟩:=P.YK h1 (by omega) 2
    obtain⟨v3,r3,e3,h3,_⟩:=P.YK h2 (by omega) 10
    rw[e2]
    simp only[oS]
    rw[e3]
    simp only[oS]
    obtain⟨a,b,c,d,e,f1,f2⟩:=P.YE v vs k _ r3.f0 r3.f1 (i64.wrap (1+v2)) (vs[vs.length- (k+1)]).var v3 (by omega) h3 (by omega)
    exact⟨a,b,c,d,e,f1,f2.mono (by omega)⟩
   ·obtain⟨a,b,c,d,e,f1,f2⟩:=P.YE v vs k _ r1.f0 r1.f1 z5 z6 z7 (by omega) h1 (by omega)
    exact⟨a,b,c,d,e,f1,f2.mono (by omega)⟩
  ·obtain⟨a,b,c,d,e,f1,f2⟩:=P.YE v vs k _ z z4 z5 z6 z7 (by omega) hr (by omega)
   exact⟨a,b,c,d,e,f1,f2.mono (by omega)⟩
theorem P.YA1 {w:List Data}(hw:ZN w){t:Ty}(ht:ZY w t){K:Nat}{r:ZB}(hr:rok K r)(hK:K+21000<=1099511627776):∃c r',F.f88 r w t=some (c,r')/\rok (K+21000) r'/\ZBD w t c.pat:=by
 unfold F.f88
 obtain⟨p,r1,e1,h1,hp⟩:=P.YBD hw ht hr (by omega)
 rw[e1]
 simp only[oE,oS]
 have hl:=ZBT w 10 t p
 have hb:=hp.2.2
 rw[P.YA w hw 10 t p [] ht hp.1 (by simp;omega)]
 simp only[oS,yM]
 obtain⟨a,b,c,d,e,f1,f2⟩:=P.YE (p,r1) (ZW w 10 t p) (ZW w 10 t p).length _ r1.f0 r1.f1 0 0 0 (zA _) h1 (by omega)
 rw[zD]at f1
 rw[f1]
 exact⟨_,_,rfl,f2.mono (by omega),hp⟩
theorem P.YAb {K:Nat}{r:ZB}(hr:rok K r)(hK:K+2<=1099511627776)(p:Pattern)(hp:p.wt<=1048576):∃p' r',F.f93 r p=some (p',r')/\rok (K+2) r'/\p'.wt<=p.wt+1:=by
 have hwt:=p.wt_eq
 have hlen:=ZA9 Pattern.wt p.kids
 have own:∀(a b c d e:Int) (ks:List Pattern),(⟨a,b,c,d,e,ks⟩:Pattern).wt=wtL Pattern.wt ks:=fun a b c d e ks=>by rw[Pattern.wt_eq]
 unfold F.f93
 rw[iP (by omega)]
 obtain⟨v,r1,e1,h1,_⟩:=P.YK hr (by omega) 30
 rw[e1]
 simp only[oE,oS]
 split
 ·obtain⟨v2,r2,e2,h2,_⟩:=P.num h1 (by omega) [0,7,1,2,5] (by simp)
  rw[e2];exact⟨_,_,rfl,h2,by rw[own];omega⟩
 split
 ·obtain⟨v2,r2,e2,h2,_⟩:=P.num h1 (by omega) [6,-1,1] (by simp)
  rw[e2];exact⟨_,_,rfl,h2,by rw[own];omega⟩
 split
 ·obtain⟨v2,r2,e2,h2,_⟩:=P.num h1 (by omega) [9,-1,1] (by simp)
  rw[e2];exact⟨_,_,rfl,h2,by rw[own];omega⟩
 split
 ·rw[iP (by omega)]
  refine⟨_,_,rfl,h1.mono (by omega),?_⟩
  rw[own]
  have:wtL Pattern.wt (p.kids++[⟨2,0,0,0,0,[]⟩])=wtL Pattern.wt p.kids+(1+Pattern.wt ⟨2,0,0,0,0,[]⟩):=by simp[wtL];omega
  rw[this,ZBs];omega
 split
 ·split
  ·next h0=>
   rw[gQ h0]
   refine⟨_,_,rfl,h1.mono (by omega),?_⟩
   rw[own]
   have:=ZKB Pattern.wt p.kids 0 h0 ⟨2,0,0,0,0,[]⟩
   rw[ZBs]at this
   omega
  ·exact⟨_,_,rfl,h1.mono (by omega),by omega⟩
 split
 ·obtain⟨v2,r2,e2,h2,_⟩:=P.num h1 (by omega) [10,-1,5] (by simp)
  rw[e2];exact⟨_,_,rfl,h2,by rw[own];omega⟩
 ·exact⟨_,_,rfl,h1.mono (by omega),by omega⟩
def Tree.nodes :Tree->Nat
 |⟨_,_,_,_,branches,els⟩=>1+(branches.attach.map fun⟨b,_⟩=>Tree.nodes b.tree).sum+(els.attach.map fun⟨k,_⟩=>Tree.nodes k).sum
termination_by t=>SizeOf.sizeOf t
decreasing_by
 ·rename_i h
  have:=xN h
  cases b
  simp at this ⊢
  omega
 ·rename_i h
  have:=xN h
  simp
  omega
theorem P.YL (l:List Int)(h:l.length<=67108864):F.f157 l=some l:=by unfold F.f157;rw[iP h]
def ZKN :Nat->Tree->Prop
 |0,_=>False
 |n+1,x=>(0<=x.op/\x.op<=2/\x.els.length<=1/\x.branches.length<=10)/\(∀b,b∈x.branches->ZKN n b.tree)/\∀y,y∈x.els->ZKN n y
def right (x:Tree):Prop:=ZKN x.nodes x
def ZFu (w:List Data):Nat->Ty->Pattern->Prop
 |0,_,_=>False
 |d+1,t,p=>ZAw w t p/\p.op≠5/\p.kids.length=(ZF w t p).length/\∀i (h:i<(ZF w t p).length) (h':i<p.kids.length),ZFu w d (ZF w t p)[i] p.kids[i]
theorem ZDh {w:List Data}:∀{d:Nat} {t:Ty} {p:Pattern},ZFu w d t p->ZFu w (d+1) t p
 |0,_,_,h=>h.elim
 |d+1,t,p,⟨h1,h2,h3,h4⟩=>⟨h1,h2,h3,fun i h h'=>ZDh (h4 i h h')⟩
theorem ZKC :∀{a b:List Pattern},a.length=b.length->(∀i (h:i<a.length) (h':i<b.length),a[i].wt<=b[i].wt)->wtL Pattern.wt a<=wtL Pattern.wt b
 | [],[],_,_=>zA _
 | [],_::_,h,_=>by simp at h
 |_::_,[],h,_=>by simp at h
 |x::a,y::b,h,hh=>by
  have h0:=hh 0 (by simp) (by simp)
  have:=ZKC (a:=a) (b:=b) (by simpa using h) fun i hi hi'=>by have:=hh (i+1) (by simpa using hi) (by simpa using hi');simpa using this
  simp only[ZAQ,List.getElem_cons_zero]at h0 ⊢
  omega
theorem P.YAy (p:Pattern)(l:List (List Pattern)):∀(m i:Nat) (out:List Pattern),l.length-i=m->out.length+m<=67108864->kD p l out i=some (out++(l.drop i).map fun x=>⟨p.op,p.ctor,p.n,p.m,p.var,x⟩)
 |0,i,out,hm,hb=>by rw[kD,iN (by omega),zX (by omega)];simp
 |m+1,i,out,hm,hb=>by
  have hi:i<l.length:=by omega
  rw[kD,iP hi,gQ hi]
  simp only[oE,oS]
  rw[iP (by omega),P.YAy p l m (i+1) _ (by omega) (by simp;omega),zW hi,yA]
  simp[←List.map_drop]
def ZPN :Pattern:=⟨1,0,0,0,0,[]⟩
theorem P.YBG :F.f92=some ZPN:=rfl
theorem ZM4 :ZPN.wt=0:=by rw[Pattern.wt_eq];rfl
theorem P.YBA {w:List Data}(hw:ZN w){t:Ty}(ht:ZY w t):∀(k K:Nat) (z:List Int) (z2:Int) (out:List Clause),k<=5->rok K ⟨z,z2⟩->K+k*21000<=1099511627776->out.length+k<=100->(∀c,c∈out->ZBD w t c.pat)->
  ∃z' z2' l,kM w t z z2 out (k:Int)=some (z',z2',l)/\rok (K+k*21000) ⟨z',z2'⟩/\l.length=out.length+k/\∀c,c∈l->ZBD w t c.pat
 |0,K,z,z2,out,hk,hr,hK,ho,hp=>by
  rw[kM,iN (by omega)]
  exact⟨_,_,_,rfl,hr.mono (by omega),rfl,hp⟩
 |k+1,K,z,z2,out,hk,hr,hK,ho,hp=>by
  have hw1:i64.wrap (((k+1:Nat):Int) -1)=(k:Int):=by rw[ZD (by omega) (by omega)];omega
  obtain⟨c,r',e,h1,h2⟩:=P.YA1 hw ht hr (by omega)
  rw[kM,iP (by omega),e,hw1]
  simp only[oE,oS]
  rw[iP (by omega)]
  obtain⟨z',z2',l,e2,q1,q2,q3⟩:=P.YBA hw ht k (K+21000) r'.f0 r'.f1 (out++[c]) (by omega) h1 (by omega) (by simp;omega) (fun x h=>by
   rcases yB.1 h with h|h
   ·exact hp x h
   ·rw[yO.1 h];exact h2)
  exact⟨z',z2',l,e2,q1.mono (by omega),by simp at q2;omega,q3⟩
theorem P.YBC {w:List Data}(hw:ZN w){t:Ty}(ht:ZY w t){K:Nat}{r:ZB}(hr:rok K r)(hK:K+106000<=1099511627776):∃l r',F.f90 r w t=some (l,r')/\rok (K+106000) r'/\l.length<=5/\∀c,c∈l->ZBD w t c.pat:=by
 unfold F.f90
 obtain⟨v,r1,e1,h1,hv⟩:=P.num hr (by omega) [3,2,4,5,1,0] (by simp)
 obtain⟨k,rfl,hk⟩:∃k:Nat,v=(k:Int)/\k<=5:=by
  simp at hv
  exact⟨v.toNat,by omega,by omega⟩
 obtain⟨z',z2',l,e2,q1,q2,q3⟩:=P.YBA hw ht k _ r1.f0 r1.f1 [] hk h1 (by omega) (by simp;omega) (by simp)
 rw[e1]
 simp only[oE,oS]
 rw[e2]
 exact⟨_,_,rfl,q1.mono (by omega),by simp at q2;simp only;omega,q3⟩
theorem P.Ys (v:Int×ZB):∀(k:Nat) (out:List Clause),out.length+k=9->(∀c,c∈out->c.pat.wt<=1000010)->∃l,kK v out=some l/\l.length=9/\∀c,c∈l->c.pat.wt<=1000010
 |0,out,h,hp=>by rw[kK,iN (by omega)];exact⟨_,rfl,by omega,hp⟩
 |k+1,out,h,hp=>by
  rw[kK,iP (by omega),iP (by omega)]
  exact P.Ys v k (out++[⟨⟨1,0,0,0,0,[]⟩,⟨0,0,0⟩⟩]) (by simp;omega) (fun c hc=>by
   rcases yB.1 hc with hc|hc
   ·exact hp c hc
   ·rw[yO.1 hc];simp only;rw[ZBs];omega)
theorem P.Yt {K:Nat}{r:ZB}(hr:rok K r)(hK:K+5<=1099511627776)(l:List Clause)(hl:l.length<=8)(hp:∀c,c∈l->c.pat.wt<=1000000):∃l' r',uA r l=some (l',r')/\rok (K+5) r'/\l'.length<=9/\∀c,c∈l'->c.pat.wt<=1000010:=by
 have hp':∀c,c∈l->c.pat.wt<=1000010:=fun c h=>by have:=hp c h;omega
 have setOk:∀x:Clause,x.pat.wt<=1000010->∀c,c∈l.set 0 x->c.pat.wt<=1000010:=fun x hx c hc=>by
  rcases List.mem_or_eq_of_mem_set hc with h|h
  ·exact hp' c h
  ·rw[h];exact hx
 unfold uA
 rw[iP (by omega)]
 obtain⟨v,r1,e1,h1,_⟩:=P.YK hr (by omega) 24
 rw[e1]
 simp only[oE,oS]
 split
 ·split
  ·next h0=>
   obtain⟨v2,r2,e2,h2,_⟩:=P.num h1 (by omega) [1,2,3,-1] (by simp)
   obtain⟨v3,r3,e3,h3,_⟩:=P.num h2 (by omega) [0,5,9] (by simp)
   obtain⟨v4,r4,e4,h4,_⟩:=P.num h3 (by omega) [3,10,-1] (by simp)
   rw[e2]
   simp only[oS]
   rw[e3]
   simp only[oS]
   rw[e4]
   simp only[oS]
   rw[gQ h0]
   exact⟨_,_,rfl,h4.mono (by omega),by simp;omega,setOk _ (by simpa using hp' _ (gM h0))⟩
  ·exact⟨_,_,rfl,h1.mono (by omega),by omega,hp'⟩
 split
 ·split
  ·next h0=>
   have hx:=hp _ (gM h0)
   obtain⟨p2,r2,e2,h2,w2⟩:=P.YAb h1 (by omega) l[0].pat (by omega)
   obtain⟨p3,r3,e3,h3,w3⟩:=P.YAb h2 (by omega) p2 (by omega)
   rw[gQ h0]
   simp only[oS]
   rw[e2]
   simp only[oS]
   rw[e3]
   exact⟨_,_,rfl,h3.mono (by omega),by simp;omega,setOk _ (by show p3.wt<=_;omega)⟩
  ·exact⟨_,_,rfl,h1.mono (by omega),by omega,hp'⟩
 split
 ·obtain⟨l',e2,q1,q2⟩:=P.Ys (v,r1) (9-l.length) l (by omega) hp'
  rw[e2]
  exact⟨_,_,rfl,h1.mono (by omega),by omega,q2⟩
 ·exact⟨_,_,rfl,h1.mono (by omega),by omega,hp'⟩
theorem P.YA6 {K:Nat}{r:ZB}(hr:rok K r)(hK:K+107000<=1099511627776):∃w t l v r' T,kL r=some (w,t,l,v,r')/\rok (K+107000) r'/\w∈ZAT/\vR w=some T/\TOk w T/\ZY w t/\l.length<=5/\(∀c,c∈l->ZBD w t c.pat)/\pv w false 4 t v/\v.wt+1<=256:=by
 obtain⟨w,t,v,r1,T,e1,h1,hw,hT',hT,a1,a2,a3,_,hv,hvw,a4⟩:=P.YA3 hr (by omega)
 have ht:ZY w t:=by
  refine⟨?_,a3⟩
  rcases a1 with q|⟨q1,q2,q3,q4⟩
  ·exact .inl ⟨q,a4 q⟩
  ·exact .inr ⟨q1,q2,by omega,q4⟩
 obtain⟨l,r2,e2,h2,l1,l2⟩:=P.YBC hT.wok ht h1 (by omega)
 unfold kL
 rw[e1]
 simp only[oE,oS]
 rw[e2]
 exact⟨w,t,l,v,r2,T,rfl,h2.mono (by omega),hw,hT',hT,ht,l1,l2,hv,hvw⟩
theorem P.YT (code:List Int)(hc:ZD7 code):∃w t l T,F.f96 code=some (w,t,l)/\w∈ZAT/\vR w=some T/\TOk w T/\ZY w t/\l.length<=9/\∀c,c∈l->c.pat.wt<=1000010:=by
 have key:∀r,rok 0 r->∃w t l T,((kL r)>>=fun v=>
   if 0<v.2.2.1.length then
    (uT v.2.2.2.2 4)>>=fun v9=>
    if v9.1=0 then
     (F.f92)>>=fun v13=>
     if v.2.2.1.length+1<=67108864 then
      (uA v9.2 (v.2.2.1++[(⟨v13,(⟨0,0,0⟩:Guard)⟩:Clause)]))>>=fun v16=>
      some (v.1,v.2.1,v16.1)
     else none
    else
     (uA v9.2 v.2.2.1)>>=fun v18=>
     some (v.1,v.2.1,v18.1)
   else
    (uA v.2.2.2.2 v.2.2.1)>>=fun v20=>
    some (v.1,v.2.1,v20.1))=some (w,t,l)/\w∈ZAT/\vR w=some T/\TOk w T/\ZY w t/\l.length<=9/\∀c,c∈l->c.pat.wt<=1000010:=by
  intro r hr
  obtain⟨w,t,l,v,r1,T,e1,h1,hw,hT',hT,ht,l1,l2,_⟩:=P.YA6 hr (by omega)
  have hlw:∀c,c∈l->c.pat.wt<=1000000:=fun c h=>by have:=(l2 c h).2.2;omega
  rw[e1]
  simp only[oE,oS]
  split
  ·obtain⟨v9,r2,e2,h2,_⟩:=P.YK h1 (by omega) 4
   rw[e2]
   simp only[oS]
   split
   ·rw[P.YBG]
    simp only[oS]
    rw[iP (by omega)]
    obtain⟨l',r3,e3,_,q1,q2⟩:=P.Yt h2 (by omega) (l++[⟨ZPN,⟨0,0,0⟩⟩]) (by simp;omega) (fun c h=>by
     rcases yB.1 h with h|h
     ·exact hlw c h
     ·rw[yO.1 h];simp only;rw[ZM4];omega)
    rw[e3]
    exact⟨_,_,_,T,rfl,hw,hT',hT,ht,q1,q2⟩
   ·obtain⟨l',r3,e3,_,q1,q2⟩:=P.Yt h2 (by omega) l (by omega) hlw
    rw[e3]
    exact⟨_,_,_,T,rfl,hw,hT',hT,ht,q1,q2⟩
  ·obtain⟨l',r3,e3,_,q1,q2⟩:=P.Yt h1 (by omega) l (by omega) hlw
   rw[e3]
   exact⟨_,_,_,T,rfl,hw,hT',hT,ht,q1,q2⟩
 unfold F.f96
 split
 ·rw[iP (by omega)];exact key _ (ZKM hc)
 ·exact key _ (ZIT hc (by omega))
theorem P.YR (code:List Int)(hc:ZD7 code):∃w t l T,F.f97 code=some (w,t,l)/\w∈ZAT/\vR w=some T/\TOk w T/\ZY w t/\l.length<=9/\∀c,c∈l->c.pat.wt<=1000010:=by
 obtain⟨w,t,l,T,e,hw,hT',hT,ht,l1,l2⟩:=P.YT code hc
 have key:∀r,rok 0 r->∃l',(if 0<l.length then
   if l.length<8 then
    (uT r 2)>>=fun v12=>
    if v12.1=0 then
     (uT v12.2 (l.length:Int))>>=fun v16=>
     (at? l v16.1)>>=fun x=>
     if l.length+1<=67108864 then
      some (w,t,l++[x])
     else none
    else
     some (w,t,l)
   else
    some (w,t,l)
  else
   some (w,t,l))=some (w,t,l')/\l'.length<=9/\∀c,c∈l'->c.pat.wt<=1000010:=by
  intro r hr
  split
  ·next h0=>
   split
   ·obtain⟨v12,r2,e2,h2,_⟩:=P.YK hr (by omega) 2
    rw[e2]
    simp only[oE,oS]
    split
    ·obtain⟨v16,r3,e3,h3,a1,a2,_⟩:=P.YK h2 (by omega) (l.length:Int)
     have a3:=a2 (by omega)
     obtain⟨k,rfl⟩:∃k:Nat,v16=(k:Int):=⟨v16.toNat,by omega⟩
     have hk:k<l.length:=by omega
     rw[e3]
     simp only[oS]
     rw[ZDO hk]
     simp only[oS]
     rw[iP (by omega)]
     refine⟨_,rfl,by simp;omega,fun c h=> ?_⟩
     rcases yB.1 h with h|h
     ·exact l2 c h
     ·rw[yO.1 h];exact l2 _ (gM hk)
    ·exact⟨_,rfl,l1,l2⟩
   ·exact⟨_,rfl,l1,l2⟩
  ·exact⟨_,rfl,l1,l2⟩
 unfold F.f97
 rw[e]
 simp only[oE,oS]
 split
 ·rw[iP (by omega)]
  obtain⟨l',e2,q⟩:=key _ (ZKM hc)
  exact⟨w,t,l',T,e2,hw,hT',hT,ht,q⟩
 ·obtain⟨l',e2,q⟩:=key _ (ZIT hc (by omega))
  exact⟨w,t,l',T,e2,hw,hT',hT,ht,q⟩
def ZAg :List Nat->Nat
 | []=>1
 |a::r=>a*ZAg r
def Pattern.alts :Pattern->Nat
 |⟨op,_,_,_,_,kids⟩=>if op=5 then(kids.map fun k=>Pattern.alts k).sum else ZAg (kids.map fun k=>Pattern.alts k)
theorem ZFp (p:Pattern):p.alts=if p.op=5 then(p.kids.map Pattern.alts).sum else ZAg (p.kids.map Pattern.alts):=by
 cases p;rw[Pattern.alts]
theorem ZOc (a b:Nat):min (min a 401+min b 401) 401=min (a+b) 401:=by omega
theorem ZOb (a b:Nat):min (min a 401*min b 401) 401=min (a*b) 401:=by
 by_cases ha:a<=401
 ·by_cases hb:b<=401
  ·rw[zJ ha,zJ hb]
  ·rw[zJ ha,zM (by omega:401<=b)]
   rcases zP a with rfl|h
   ·simp
   ·have h1:1*401<=a*401:=zC _ h
    have h2:1*b<=a*b:=zC _ h
    omega
 ·rw[zM (by omega:401<=a)]
  rcases zP b with rfl|h
  ·simp
  ·have h0:1<=min b 401:=by omega
   have h1:401*1<=401*min b 401:=zG _ h0
   have h2:a*1<=a*b:=zG _ h
   omega
theorem P.YAm (p:Pattern):F.f147 p=some ((min p.alts 401:Nat):Int):=by
 induction p using Pattern.ind with
 |_ p ih=>
  have e:=ZFp p
  rw[F.f147]
  by_cases h5:p.op=5
  ·rw[iP h5]at e ⊢
   have key:∀(m i n:Nat),p.kids.length-i=m->uL p i ((min n 401:Nat):Int)=some ((min (n+((p.kids.drop i).map Pattern.alts).sum) 401:Nat):Int):=by
    intro m
    induction m with
    |zero=>intro i n hm;rw[uL,iN (by omega),zX (by omega)];simp
    |succ m ihm=>
     intro i n hm
     have hi:i<p.kids.length:=by omega
     rw[uL,iP hi,gQ hi]
     simp only[oE,oS]
     rw[iP h5,ih _ (gM hi)]
     simp only[oS]
     have hw:i64.wrap (((min n 401:Nat):Int)+((min p.kids[i].alts 401:Nat):Int))=((min n 401+min p.kids[i].alts 401:Nat):Int):=by rw[ZD (by omega) (by omega)];omega
     have hr:(if 401<((min n 401+min p.kids[i].alts 401:Nat):Int)then 401 else((min n 401+min p.kids[i].alts 401:Nat):Int))=((min (n+p.kids[i].alts) 401:Nat):Int):=by
      rw[←ZOc];split<;>omega
     rw[hw,hr,ihm (i+1) _ (by omega),zW hi,yA,yV,Nat.add_assoc]
   have k0:=key _ 0 0 rfl
   rw[zY,zL,←e]at k0
   rw[show uL p 0 0=some ((min p.alts 401:Nat):Int)from k0]
   rfl
  ·rw[iN h5]at e ⊢
   have key:∀(m i n:Nat),p.kids.length-i=m->uK p i ((min n 401:Nat):Int)=some ((min (n*ZAg ((p.kids.drop i).map Pattern.alts)) 401:Nat):Int):=by
    intro m
    induction m with
    |zero=>intro i n hm;rw[uK,iN (by omega),zX (by omega)];simp[ZAg]
    |succ m ihm=>
     intro i n hm
     have hi:i<p.kids.length:=by omega
     rw[uK,iP hi,gQ hi]
     simp only[oE,oS]
     rw[iN h5,ih _ (gM hi)]
     simp only[oS]
     have hb:min n 401*min p.kids[i].alts 401<=401*401:=zK (by omega) (by omega)
     have hw:i64.wrap (((min n 401:Nat):Int)*((min p.kids[i].alts 401:Nat):Int))=((min n 401*min p.kids[i].alts 401:Nat):Int):=by
      rw[←Int.natCast_mul,ZD (by omega) (by omega)]
     have hr:(if 401<((min n 401*min p.kids[i].alts 401:Nat):Int)then 401 else((min n 401*min p.kids[i].alts 401:Nat):Int))=((min (n*p.kids[i].alts) 401:Nat):Int):=by
      rw[←ZOb]
      generalize min n 401*min p.kids[i].alts 401=z
      split<;>omega
     rw[hw,hr,ihm (i+1) _ (by omega),zW hi,yA,ZAg,zN]
   have k0:=key _ 0 1 rfl
   rw[zY,zI,←e]at k0
   rw[show uK p 0 1=some ((min p.alts 401:Nat):Int)from k0]
   rfl
theorem ZCN :∀{l:List Nat},(∀x,x∈l->1<=x)->1<=ZAg l
 | [],_=>zA _
 |a::r,h=>by
  have h1:=h a (by simp)
  have h2:=ZCN (l:=r) fun x hx=>h x (yE _ hx)
  exact zK h1 h2
theorem ZFo {w:List Data}:∀{d:Nat} {t:Ty} {p:Pattern},Zi w d t p->1<=p.alts
 |0,_,_,h=>h.elim
 |d+1,t,p,⟨ho,hl,hk⟩=>by
  have hks:∀k,k∈p.kids->1<=k.alts:=fun k hm=>by
   obtain⟨i,hi,rfl⟩:=yG hm
   exact ZFo (hk i (zB _) (by omega) (by omega) hi)
  rw[ZFp]
  split
  ·next h5=>
   have e5:=Zz ho h5
   have h2:p.kids.length=2:=by rw[hl,e5];rfl
   have q0:=hks _ (gM (show 0<p.kids.length by omega))
   have e9:(([p.kids[0]'(by omega),p.kids[1]'(by omega)]:List Pattern).map Pattern.alts).sum=(p.kids[0]'(by omega)).alts+(p.kids[1]'(by omega)).alts:=by simp
   rw[←ZDZ h2]at e9
   omega
  ·exact ZCN fun x hx=>by
    obtain⟨k,hk2,rfl⟩:=yD.1 hx
    exact hks k hk2
theorem ZEg {l:List Nat}(h:∀x,x∈l->1<=x)(i:Nat):ZAg (l.take i)<=ZAg l:=by
 induction l generalizing i with
 |nil=>simp[ZAg]
 |cons a r ih=>
  have hr:∀x,x∈r->1<=x:=fun x hx=>h x (yE _ hx)
  cases i with
  |zero=>exact ZCN h
  |succ i=>exact zG _ (ih hr i)
theorem ZJO (l:List Nat)(a:Nat):ZAg (l++[a])=ZAg l*a:=by
 induction l with
 |nil=>simp[ZAg]
 |cons b r ih=>simp only[List.cons_append,ZAg,ih,zN]
theorem ZKg {l:List Nat}(h:∀x,x∈l->1<=x){a:Nat}(ha:a∈l):a<=ZAg l:=by
 induction l with
 |nil=>cases ha
 |cons b r ih=>
  have hr:∀x,x∈r->1<=x:=fun x hx=>h x (yE _ hx)
  have h1:=h b (by simp)
  have h2:=ZCN hr
  rcases yW.1 ha with rfl|ha
  ·have:=zG a h2;rw[zV]at this;exact this
  ·have h3:=ih hr ha
   have h4:=zC (ZAg r) h1
   rw[zI]at h4
   exact zF h3 h4
theorem P.YAW (p:Pattern)(list:List Pattern)(i:Nat)(v:List Pattern)(i17:Nat)(q:Pattern)(hq:q.kids.length<=1048576):∀(m j:Nat) (more:List Pattern),v.length-j=m->more.length+m<=67108864->
  kF p list i v i17 q more j=some (more++(v.drop j).map fun x=>⟨q.op,q.ctor,q.n,q.m,q.var,q.kids++[x]⟩)
 |0,j,more,hm,hb=>by rw[kF,iN (by omega),zX (by omega)];simp
 |m+1,j,more,hm,hb=>by
  have hj:j<v.length:=by omega
  rw[kF,iP hj,gQ hj]
  simp only[oE,oS]
  unfold F.f150
  rw[iP (by omega)]
  simp only[oS]
  rw[iP (by omega),iP (by omega),P.YAW p list i v i17 q hq m (j+1) _ (by omega) (by simp;omega),zW hj,yA]
  simp
def ZAC {β:Type}(op:Int)(path:List Int):Nat->List (List Int->List β)->List β
 |_,[]=>[]
 |i,f::r=>f (if op=4 then path++[(i:Int)]else path)++ZAC op path (i+1) r
end Go.Vl
set_option maxRecDepth 100000
namespace Go.Vl
open Go Go.RowKit
open Go.IntKind (i64)
def Pattern.tst :Pattern->List Int->List Step
 |⟨op,ctor,n,m,_,kids⟩=>fun path=>(if op=3 then[(⟨1,path,-1,n,m,0,[],0⟩:Step)]else if op=4 then[⟨1,path,ctor,0,0,0,[],0⟩]else[])++ZAC op path 0 (kids.map fun k=>Pattern.tst k)
def Pattern.bnd :Pattern->List Int->List PathBind
 |⟨op,_,_,_,var,kids⟩=>fun path=>(if op=2∨op=6 then[(⟨var,path⟩:PathBind)]else[])++ZAC op path 0 (kids.map fun k=>Pattern.bnd k)
theorem ZFx (p:Pattern)(path:List Int):p.tst path=(if p.op=3 then[(⟨1,path,-1,p.n,p.m,0,[],0⟩:Step)]else if p.op=4 then[⟨1,path,p.ctor,0,0,0,[],0⟩]else[])++ZAC p.op path 0 (p.kids.map Pattern.tst):=by
 cases p;rw[Pattern.tst]
theorem ZEA (p:Pattern)(path:List Int):p.bnd path=(if p.op=2∨p.op=6 then[(⟨p.var,path⟩:PathBind)]else[])++ZAC p.op path 0 (p.kids.map Pattern.bnd):=by
 cases p;rw[Pattern.bnd]
theorem ZCs {β:Type}(op:Int)(g:Pattern->List Int->List β)(path:List Int):∀(l:List Pattern) (h:∀k,k∈l->∀path,(g k path).length<=1+k.wt) (i:Nat),(ZAC op path i (l.map g)).length<=wtL Pattern.wt l
 | [],h,i=>by simp[ZAC]
 |k::r,h,i=>by
  have h1:=h k (yJ ..) (if op=4 then path++[(i:Int)]else path)
  have h2:=ZCs op g path r (fun k hk=>h k (yE _ hk)) (i+1)
  rw[yA,ZAC,zZ,ZAQ]
  omega
theorem ZCh (p:Pattern):∀path,(p.tst path).length<=1+p.wt:=by
 induction p using Pattern.ind with
 |_ p ih=>
  intro path
  have h1:=ZCs p.op Pattern.tst path p.kids ih 0
  rw[ZFx,zZ,p.wt_eq]
  grind
theorem ZD9 (p:Pattern):∀path,(p.bnd path).length<=1+p.wt:=by
 induction p using Pattern.ind with
 |_ p ih=>
  intro path
  have h1:=ZCs p.op Pattern.bnd path p.kids ih 0
  rw[ZEA,zZ,p.wt_eq]
  grind
theorem ZEW {p:Pattern}{path:List Int}{L:List Step->List PathBind->Nat->Option (List Step×List PathBind)}
  (hL:∀o b i,L o b i=if i<p.kids.length then(p.kids[i]?)>>=fun x=>if p.op=4 then(F.f157 path)>>=fun v=>if v.length+1<=67108864 then(F.f158 x (v++[(i:Int)]) o b)>>=fun v15=>L v15.1 v15.2 (i+1)else none
   else(F.f158 x path o b)>>=fun v18=>L v18.1 v18.2 (i+1)else some (o,b))
  (ih:∀k,k∈p.kids->∀(path:List Int) o b,path.length+k.wt<=67108863->o.length+(1+k.wt)<=67108864->b.length+(1+k.wt)<=67108864->F.f158 k path o b=some (o++k.tst path,b++k.bnd path)) (hp:path.length+p.wt<=67108863):
  ∀(m i:Nat) (o:List Step) (b:List PathBind),p.kids.length-i=m->o.length+wtL Pattern.wt (p.kids.drop i)<=67108864->b.length+wtL Pattern.wt (p.kids.drop i)<=67108864->
   L o b i=some (o++ZAC p.op path i ((p.kids.drop i).map Pattern.tst),b++ZAC p.op path i ((p.kids.drop i).map Pattern.bnd))
 |0,i,o,b,hm,h1,h2=>by rw[hL,iN (by omega),zX (by omega)];simp[ZAC]
 |m+1,i,o,b,hm,h1,h2=>by
  have hi:i<p.kids.length:=by omega
  have hk:1+p.kids[i].wt<=p.wt:=by rw[p.wt_eq];exact Zt Pattern.wt (gM hi)
  have ed:p.kids.drop i=p.kids[i]::p.kids.drop (i+1):=zW hi
  rw[ed,ZAQ]at h1 h2
  have e:L o b i=(F.f158 p.kids[i] (if p.op=4 then path++[(i:Int)]else path) o b)>>=fun v15=>L v15.1 v15.2 (i+1):=by
   rw[hL,iP hi,gQ hi]
   simp only[oE,oS]
   by_cases h4:p.op=4
   ·rw[iP h4,iP h4,P.YL path (by omega)]
    grind
   ·rw[iN h4,iN h4]
  have hpl:(if p.op=4 then path++[(i:Int)]else path).length<=path.length+1:=by split<;>simp
  rw[e,ih _ (gM hi) _ o b (by omega) (by omega) (by omega)]
  simp only[oE,oS]
  have t1:=ZCh p.kids[i] (if p.op=4 then path++[(i:Int)]else path)
  have t2:=ZD9 p.kids[i] (if p.op=4 then path++[(i:Int)]else path)
  rw[ZEW hL ih hp m (i+1) _ _ (by omega) (by rw[zZ];omega) (by rw[zZ];omega),ed]
  simp only[yA,ZAC,yI]
theorem P.YAj (p:Pattern):∀(path:List Int) (o:List Step) (b:List PathBind),path.length+p.wt<=67108863->o.length+(1+p.wt)<=67108864->b.length+(1+p.wt)<=67108864->F.f158 p path o b=some (o++p.tst path,b++p.bnd path):=by
 induction p using Pattern.ind with
 |_ p ih=>
  intro path o b h1 h2 h3
  have hw:=p.wt_eq
  have key:=fun(L:List Step->List PathBind->Nat->Option (List Step×List PathBind)) hL o b q1 q2=>ZEW (p:=p) (path:=path) (L:=L) hL ih h1 _ 0 o b rfl q1 q2
  simp only[zY]at key
  rw[F.f158,P.YL path (by omega),ZFx,ZEA]
  simp only[oE,oS]
  by_cases c2:p.op=2
  ·rw[iP c2,iP (by omega),key (F.f159 p path) (fun o b i=>by rw[F.f159]) _ _ (by omega) (by simp;omega)]
   simp[c2]
  ·rw[iN c2]
   by_cases c6:p.op=6
   ·rw[iP c6,iP (by omega),key (F.f160 p path) (fun o b i=>by rw[F.f160]) _ _ (by omega) (by simp;omega)]
    simp[c6]
   ·rw[iN c6]
    by_cases c3:p.op=3
    ·rw[iP c3,iP (by omega),key (F.f161 p path) (fun o b i=>by rw[F.f161]) _ _ (by simp;omega) (by omega)]
     simp[c3]
    ·rw[iN c3]
     by_cases c4:p.op=4
     ·rw[iP c4,iP (by omega),key (F.f162 p path) (fun o b i=>by rw[F.f162]) _ _ (by simp;omega) (by omega)]
      simp[c4]
     ·rw[iN c4,key (F.f163 p path) (fun o b i=>by rw[F.f163]) _ _ (by omega) (by omega)]
      simp[c2,c3,c4,c6]
theorem ZDu (path:List Int)(i:Int)(h:path.length+1<=67108864):F.f183 path i=some (path++[i]):=by
 unfold F.f183
 grind
theorem ZIf {p:Pattern}{path:List Int}(c4:p.op=4)(ih:∀k,k∈p.kids->∀(path:List Int) o,path.length+k.wt<=67108863->o.length+(1+k.wt)<=67108864->F.f184 o k path=some (o++k.tst path))(hp:path.length+p.wt<=67108863):
  ∀(m i:Nat) (o:List Step),p.kids.length-i=m->o.length+wtL Pattern.wt (p.kids.drop i)<=67108864->F.f185 p path o i=some (o++ZAC p.op path i ((p.kids.drop i).map Pattern.tst))
 |0,i,o,hm,h1=>by rw[F.f185,iN (by omega),zX (by omega)];simp[ZAC]
 |m+1,i,o,hm,h1=>by
  have hi:i<p.kids.length:=by omega
  have hk:1+p.kids[i].wt<=p.wt:=by rw[p.wt_eq];exact Zt Pattern.wt (gM hi)
  have ed:p.kids.drop i=p.kids[i]::p.kids.drop (i+1):=zW hi
  rw[ed,ZAQ]at h1
  rw[F.f185,iP hi,gQ hi]
  simp only[oE,oS]
  rw[ZDu path i (by omega)]
  simp only[oS]
  rw[ih _ (gM hi) _ o (by simp;omega) (by omega)]
  simp only[oS]
  have t1:=ZCh p.kids[i] (path++[(i:Int)])
  rw[ZIf c4 ih hp m (i+1) _ (by omega) (by rw[zZ];omega),ed]
  simp only[yA,ZAC,yI,iP c4]
theorem ZL2 {w:List Data}{d:Nat}{t:Ty}{p:Pattern}(h:ZFu w (d+1) t p)(h4:p.op≠4)(h6:p.op≠6):p.kids=[]:=by
 obtain⟨_,h5,hl,_⟩:=h
 unfold ZF at hl
 grind
theorem P.YAr (w:List Data):∀(d:Nat) (t:Ty) (p:Pattern),ZFu w d t p->∀(path:List Int) (o:List Step),path.length+p.wt<=67108863->o.length+(1+p.wt)<=67108864->F.f184 o p path=some (o++p.tst path)
 |0,_,_,h,_,_,_,_=>h.elim
 |d+1,t,p,hs,path,o,q1,q2=>by
  have nil:=ZL2 hs
  obtain⟨h1,h5,hl,hk⟩:=hs
  have hw:=p.wt_eq
  have ih:∀k,k∈p.kids->∀(path:List Int) o,path.length+k.wt<=67108863->o.length+(1+k.wt)<=67108864->F.f184 o k path=some (o++k.tst path):=fun k hk' path o r1 r2=>by
   obtain⟨i,hi,rfl⟩:=xD.1 hk'
   exact P.YAr w d _ _ (hk i (by omega) hi) path o r1 r2
  rw[F.f184,ZFx]
  by_cases c6:p.op=6
  ·have et:ZF w t p=[t]:=by unfold ZF;rw[iN (by omega),iN (by omega),iP c6]
   rw[et]at hl
   obtain⟨k,ek⟩:=List.length_eq_one_iff.1 hl
   have hwk:p.wt=1+k.wt:=by rw[hw,ek];simp[wtL]
   rw[iP c6,ek]
   simp only[List.getElem?_cons_zero,oE,oS]
   rw[ih k (by simp[ek]) path o (by omega) (by omega)]
   simp[c6,ZAC]
  ·rw[iN c6]
   by_cases c3:p.op=3
   ·rw[iP c3,iP (by omega),iP (by omega),nil (by omega) c6]
    simp[c3,ZAC]
   ·rw[iN c3]
    by_cases c4:p.op=4
    ·have key:=ZIf c4 ih q1 _ 0 (o++[(⟨1,path,p.ctor,0,0,0,[],0⟩:Step)]) rfl (by rw[zY];simp;omega)
     grind
    ·rw[iN c4,nil c4 c6]
     simp[c3,c4,ZAC]
theorem ZIg {p:Pattern}{path:List Int}{L:List PathBind->Nat->Option (List PathBind)}
  (hL:∀o i,L o i=if i<p.kids.length then if p.op=4 then(F.f183 path (i:Int))>>=fun v=>(p.kids[i]?)>>=fun x=>(F.f186 o x v)>>=fun v15=>L v15 (i+1)
   else(p.kids[i]?)>>=fun x18=>(F.f186 o x18 path)>>=fun v20=>L v20 (i+1)else some o)
  (ih:∀k,k∈p.kids->∀(path:List Int) o,path.length+k.wt<=67108863->o.length+(1+k.wt)<=67108864->F.f186 o k path=some (o++k.bnd path)) (hp:path.length+p.wt<=67108863):
  ∀(m i:Nat) (o:List PathBind),p.kids.length-i=m->o.length+wtL Pattern.wt (p.kids.drop i)<=67108864->L o i=some (o++ZAC p.op path i ((p.kids.drop i).map Pattern.bnd))
 |0,i,o,hm,h1=>by rw[hL,iN (by omega),zX (by omega)];simp[ZAC]
 |m+1,i,o,hm,h1=>by
  have hi:i<p.kids.length:=by omega
  have hk:1+p.kids[i].wt<=p.wt:=by rw[p.wt_eq];exact Zt Pattern.wt (gM hi)
  have ed:p.kids.drop i=p.kids[i]::p.kids.drop (i+1):=zW hi
  rw[ed,ZAQ]at h1
  have e:L o i=(F.f186 o p.kids[i] (if p.op=4 then path++[(i:Int)]else path))>>=fun v15=>L v15 (i+1):=by
   rw[hL,iP hi,gQ hi]
   by_cases h4:p.op=4
   ·rw[iP h4,iP h4,ZDu path i (by omega)]
    grind
   ·grind
  have hpl:(if p.op=4 then path++[(i:Int)]else path).length<=path.length+1:=by split<;>simp
  rw[e,ih _ (gM hi) _ o (by omega) (by omega)]
  simp only[oE,oS]
  have t2:=ZD9 p.kids[i] (if p.op=4 then path++[(i:Int)]else path)
  rw[ZIg hL ih hp m (i+1) _ (by omega) (by rw[zZ];omega),ed]
  simp only[yA,ZAC,yI]
theorem P.YA5 (p:Pattern):∀(path:List Int) (o:List PathBind),path.length+p.wt<=67108863->o.length+(1+p.wt)<=67108864->F.f186 o p path=some (o++p.bnd path):=by
 induction p using Pattern.ind with
 |_ p ih=>
  intro path o h1 h2
  have hw:=p.wt_eq
  have key:=fun(L:List PathBind->Nat->Option (List PathBind)) hL o q1=>ZIg (p:=p) (path:=path) (L:=L) hL ih h1 _ 0 o rfl q1
  simp only[zY]at key
  rw[F.f186,ZEA]
  by_cases c2:p.op=2
  ·rw[iP c2,iP (by omega),iP (by omega),key (F.f189 p path) (fun o i=>by rw[F.f189]) _ (by simp;omega)]
   simp[c2]
  ·rw[iN c2]
   by_cases c6:p.op=6
   ·rw[iP c6,iP (by omega),iP (by omega),key (F.f187 p path) (fun o i=>by rw[F.f187]) _ (by simp;omega)]
    simp[c6]
   ·rw[iN c6,key (F.f188 p path) (fun o i=>by rw[F.f188]) _ (by omega)]
    simp[c2,c6]
theorem ZEp {w:List Data}{d:Nat}(op:Int)(path:List Int):∀(ts:List Ty) (ks:List Pattern) (j:Nat),ts.length=ks.length->(∀i (h:i<ts.length) (h':i<ks.length),∀path,(ks[i].bnd path).map PathBind.var=(ZW w d ts[i] ks[i]).map VarType.var)->
  (ZAC op path j (ks.map Pattern.bnd)).map PathBind.var=((ts.zip ks).flatMap fun x=>ZW w d x.1 x.2).map VarType.var
 | [],[],j,_,_=>rfl
 | [],_::_,_,h,_=>by simp at h
 |_::_,[],_,h,_=>by simp at h
 |t::ts,k::ks,j,hl,h=>by
  have h0:=h 0 (by simp) (by simp) (if op=4 then path++[(j:Int)]else path)
  have h1:=ZEp op path ts ks (j+1) (by simpa using hl) fun i hi hi' path=>by have:=h (i+1) (by simpa using hi) (by simpa using hi') path;simpa using this
  rw[yA,ZAC,yN,h1,yZ,yF,yN]
  congr 1
theorem ZIp (w:List Data):∀(d:Nat) (t:Ty) (q:Pattern),ZFu w d t q->∀path,(q.bnd path).map PathBind.var=(ZW w d t q).map VarType.var
 |0,_,_,h,_=>h.elim
 |d+1,t,q,⟨h1,h5,hl,hk⟩,path=>by
  rw[ZEA,ZW,iN h5,yC (by simp;omega),yN,yN,ZEp (w:=w) (d:=d) q.op path (ZF w t q) q.kids 0 hl.symm fun i hi hi' path=>ZIp w d _ _ (hk i hi hi') path]
  grind
def ZAs (list v:List Pattern):List Pattern:=list.flatMap fun q=>v.map fun x=>⟨q.op,q.ctor,q.n,q.m,q.var,q.kids++[x]⟩
def Pattern.splits :Pattern->List Pattern
 |⟨op,ctor,n,m,var,kids⟩=>if op=5 then(kids.map fun k=>Pattern.splits k).flatten else(kids.map fun k=>Pattern.splits k).foldl ZAs [⟨op,ctor,n,m,var,[]⟩]
theorem ZCG (p:Pattern):p.splits=if p.op=5 then(p.kids.map Pattern.splits).flatten else(p.kids.map Pattern.splits).foldl ZAs [⟨p.op,p.ctor,p.n,p.m,p.var,[]⟩]:=by
 cases p;rw[Pattern.splits]
theorem ZE5 (list v:List Pattern):(ZAs list v).length=list.length*v.length:=by
 unfold ZAs
 induction list with
 |nil=>simp
 |cons q r ih=>rw[yF,zZ,ih,yH,yL,zE,zI,Nat.add_comm]
theorem ZGg :∀(vs:List (List Pattern)) (list:List Pattern),(vs.foldl ZAs list).length=list.length*ZAg (vs.map vB)
 | [],list=>by simp[ZAg]
 |v::vs,list=>by rw[yY,ZGg vs,ZE5,yA,ZAg,zN]
theorem ZAE (p:Pattern):p.splits.length=p.alts:=by
 induction p using Pattern.ind with
 |_ p ih=>
  have e:(p.kids.map Pattern.splits).map vB=p.kids.map Pattern.alts:=by simp_all
  rw[ZCG,ZFp]
  by_cases h5:p.op=5
  ·grind
  ·rw[iN h5,iN h5,ZGg,e];simp
theorem ZGf {G:Nat->Pattern->Prop}{p:Pattern}:∀(vs:List (List Pattern)) (i:Nat) (list:List Pattern) (hv:∀k (h:k<vs.length) x,x∈vs[k]->G (i+k) x)
  (hl:∀q,q∈list->q=⟨p.op,p.ctor,p.n,p.m,p.var,q.kids⟩/\q.kids.length=i/\∀k (h:k<q.kids.length),G k q.kids[k]) (q:Pattern) (hq:q∈vs.foldl ZAs list),
  q=⟨p.op,p.ctor,p.n,p.m,p.var,q.kids⟩/\q.kids.length=i+vs.length/\∀k (h:k<q.kids.length),G k q.kids[k]
 | [],i,list,hv,hl,q,hq=>hl q hq
 |v::vs,i,list,hv,hl,q,hq=>by
  rw[yY]at hq
  have:=ZGf vs (i+1) (ZAs list v) (fun k h x hx=>by have:=hv (k+1) (by simpa using h) x (by simpa using hx);rw[show i+(k+1)=i+1+k by omega]at this;exact this) (fun q hq=>by
   obtain⟨q0,h0,hq⟩:=yU.1 hq
   obtain⟨x,hx,rfl⟩:=yD.1 hq
   obtain⟨e1,e2,e3⟩:=hl q0 h0
   have f1:q0.op=p.op:=by rw[e1]
   have f2:q0.ctor=p.ctor:=by rw[e1]
   have f3:q0.n=p.n:=by rw[e1]
   have f4:q0.m=p.m:=by rw[e1]
   have f5:q0.var=p.var:=by rw[e1]
   refine⟨?_,by simp[e2],fun k hk=> ?_⟩
   ·show(⟨q0.op,q0.ctor,q0.n,q0.m,q0.var,q0.kids++[x]⟩:Pattern)=⟨p.op,p.ctor,p.n,p.m,p.var,q0.kids++[x]⟩
    rw[f1,f2,f3,f4,f5]
   ·by_cases hk':k<q0.kids.length
    ·grind
    ·have:k=i:=by simp at hk;omega
     subst this
     show G k (q0.kids++[x])[k]
     rw[xL (by omega)]
     have:=hv 0 (by simp) x (by simpa using hx)
     simpa[e2]using this) q hq
  grind
theorem P.YAI (p:Pattern)(list:List Pattern)(i:Nat)(v:List Pattern)(hq:∀q,q∈list->q.kids.length<=1048576)(hb:list.length*v.length<=60000000)(hll:list.length<=1048576):
  ∀(m k:Nat) (more:List Pattern),list.length-k=m->k<=list.length->more.length=k*v.length->F.f152 p list i v more k=some (more++ZAs (list.drop k) v)
 |0,k,more,hm,hk,ho=>by
  rw[F.f152,iN (by omega),zX (by omega)]
  simp[ZAs]
 |m+1,k,more,hm,hk,ho=>by
  have hkl:k<list.length:=by omega
  have hmul:(k+1)*v.length<=list.length*v.length:=zC _ hkl
  rw[zE,zI]at hmul
  rw[F.f152,iP hkl,gQ hkl]
  simp only[oE,oS]
  rw[P.YAW p list i v k list[k] (hq _ (gM hkl)) _ 0 more rfl (by omega)]
  simp only[oS]
  rw[iP (by omega),P.YAI p list i v hq hb hll m (k+1) _ (by omega) (by omega) (by rw[zZ,yH,zY,ho,zE,zI]),zW hkl,zY]
  simp only[ZAs,yF,yI]
theorem P.YAM {w:List Data}:∀(d:Nat) (t:Ty) (p:Pattern),Zi w d t p->p.wt<=1048576->p.alts<=400->F.f153 p=some p.splits
 |0,_,_,h,_,_=>h.elim
 |d+1,t,p,⟨ho,hl,hk⟩,hw,ha=>by
  have hwk:∀i (h:i<p.kids.length),1+p.kids[i].wt<=p.wt:=fun i h=>by rw[p.wt_eq];exact Zt Pattern.wt (gM h)
  have hkl:p.kids.length<=p.wt:=by rw[p.wt_eq];exact ZA9 Pattern.wt p.kids
  have hsh:∀i (h:i<p.kids.length),∃u,Zi w d u p.kids[i]:=fun i h=>⟨_,hk i (zB _) (by omega) (by omega) h⟩
  have hpos:∀x,x∈p.kids.map Pattern.alts->1<=x:=fun x hx=>by
   obtain⟨k,hk2,rfl⟩:=yD.1 hx
   obtain⟨i,hi,rfl⟩:=yG hk2
   obtain⟨u,hu⟩:=hsh i hi
   exact ZFo hu
  have e:=ZFp p
  rw[F.f153,ZCG]
  by_cases h5:p.op=5
  ·rw[iP h5]at e ⊢
   rw[iP h5]
   have e5:=Zz ho h5
   have h2:p.kids.length=2:=by rw[hl,e5];rfl
   have e2:p.kids=[p.kids[0]'(by omega),p.kids[1]'(by omega)]:=ZDZ h2
   have es:p.alts=(p.kids[0]'(by omega)).alts+(p.kids[1]'(by omega)).alts:=by grind
   obtain⟨u0,s0⟩:=hsh 0 (by omega)
   obtain⟨u1,s1⟩:=hsh 1 (by omega)
   have w0:=hwk 0 (by omega)
   have w1:=hwk 1 (by omega)
   have ea:=P.YAM d u0 _ s0 (by omega) (by omega)
   have eb:=P.YAM d u1 _ s1 (by omega) (by omega)
   have la:=ZAE (p.kids[0]'(by omega))
   have lb:=ZAE (p.kids[1]'(by omega))
   have es2:(p.kids.map Pattern.splits).flatten=(p.kids[0]'(by omega)).splits++(p.kids[1]'(by omega)).splits:=by grind
   rw[gQ (by omega),gQ (by omega)]
   simp only[oE,oS]
   grind
  ·rw[iN h5]at e ⊢
   rw[iN h5]
   have key:∀(m i:Nat) (list:List Pattern),p.kids.length-i=m->i<=p.kids.length->list.length=ZAg ((p.kids.map Pattern.alts).take i)->(∀q,q∈list->q.kids.length=i)->
     F.f154 p list i=some (((p.kids.map Pattern.splits).drop i).foldl ZAs list):=by
    intro m
    induction m with
    |zero=>
     intro i list hm hi hlen hq
     rw[F.f154,iN (by omega),zX (by simp;omega)]
     rfl
    |succ m ihm=>
     intro i list hm hi hlen hq
     have hik:i<p.kids.length:=by omega
     obtain⟨u,hu⟩:=hsh i hik
     have hm1:p.kids[i].alts<=ZAg (p.kids.map Pattern.alts):=ZKg hpos (yD.2 ⟨_,gM hik,rfl⟩)
     have hm2:=ZEg hpos i
     have hwi:=hwk i hik
     have ev:=P.YAM d u _ hu (by omega) (by omega)
     have lv:=ZAE p.kids[i]
     have hts:(p.kids.map Pattern.alts).take (i+1)=(p.kids.map Pattern.alts).take i++[p.kids[i].alts]:=by
      rw[xF (by simpa using hik)];simp
     have hprod:list.length*p.kids[i].splits.length=ZAg ((p.kids.map Pattern.alts).take (i+1)):=by rw[hts,ZJO,hlen,lv]
     have hm3:=ZEg hpos (i+1)
     have el:=P.YAI p list i p.kids[i].splits (fun q h=>by rw[hq q h];omega) (by rw[hprod];omega) (by omega) _ 0 [] rfl (zB _) (by simp)
     rw[yM,zY]at el
     rw[F.f154,iP hik,gQ hik]
     simp only[oE,oS]
     rw[ev]
     simp only[oS]
     rw[el]
     simp only[oS]
     rw[iP (by omega),ihm (i+1) _ (by omega) (by omega) (by rw[ZE5,hprod]) fun q h=>by
      obtain⟨q0,h0,h⟩:=yU.1 h
      obtain⟨x,_,rfl⟩:=yD.1 h
      simp[hq q0 h0]]
     rw[zW (show i<(p.kids.map Pattern.splits).length by simpa using hik),yY,xB]
   have k0:=key _ 0 [⟨p.op,p.ctor,p.n,p.m,p.var,[]⟩] rfl (zB _) (by simp[ZAg]) (fun q h=>by rw[yO.1 h];rfl)
   grind
theorem ZII {f:Ty×Pattern->List VarType}:∀(ts:List Ty) (qs ks:List Pattern),qs.length=ts.length->ks.length=ts.length->(∀i (h:i<ts.length) (h1:i<qs.length) (h2:i<ks.length),((f (ts[i],qs[i])).map VarType.var).Perm ((f (ts[i],ks[i])).map VarType.var))->
  (((ts.zip qs).flatMap f).map VarType.var).Perm (((ts.zip ks).flatMap f).map VarType.var)
 | [],_,_,_,_,_=>by simp
 |t::ts,[],_,h,_,_=>by simp at h
 |t::ts,_::_,[],_,h,_=>by simp at h
 |t::ts,q::qs,k::ks,h1,h2,h=>by
  have h0:=h 0 (by simp) (by simp) (by simp)
  have hr:=ZII ts qs ks (by simpa using h1) (by simpa using h2) fun i a b c=>by have:=h (i+1) (by simpa using a) (by simpa using b) (by simpa using c);simpa using this
  rw[yZ,yZ,yF,yF,yN,yN]
  grind
theorem ZJB {a b:List VarType}(ha:ZG6 a)(h:ZHK a b):(a.map VarType.var).Perm (b.map VarType.var):=by
 obtain⟨hl,hs⟩:=h
 have sub:∀l l':List VarType,l.length=l'.length->l.Nodup->(∀x,x∈l->x∈l')->l.Perm l':=by
  intro l
  induction l with
  |nil=>intro l' h _ _;rw[List.eq_nil_of_length_eq_zero (l:=l') (by simpa using h.symm)]
  |cons x r ih=>
   intro l' h hn hs
   obtain⟨s,t,rfl⟩:=xU (hs x (yJ ..))
   rw[yX]at hn
   refine((ih (s++t) (by simp at h ⊢;omega) hn.2 fun y hy=> ?_).cons x).trans xW.symm
   grind
 have hn:a.Nodup:=by
  unfold ZG6 at ha
  exact List.Pairwise.of_map VarType.var (fun a b h e=>h (congrArg _ e)) ha
 grind
theorem ZNR {f g:Ty×Pattern->List VarType}:∀(ts:List Ty) (ks:List Pattern),ks.length=ts.length->(∀i (h:i<ts.length) (h2:i<ks.length),f (ts[i],ks[i])=g (ts[i],ks[i]))->(ts.zip ks).flatMap f=(ts.zip ks).flatMap g
 | [],_,_,_=>by simp
 |t::ts,[],h,_=>by simp at h
 |t::ts,k::ks,h2,h=>by
  have h0:=h 0 (by simp) (by simp)
  have hr:=ZNR ts ks (by simpa using h2) fun i a c=>by have:=h (i+1) (by simpa using a) (by simpa using c);simpa using this
  simp_all
theorem ZCp {w:List Data}:∀(d:Nat) (t:Ty) (q:Pattern),ZFu w d t q->ZW w (d+1) t q=ZW w d t q
 |0,_,_,h=>h.elim
 |d+1,t,q,⟨h1,h5,hl,hk⟩=>by
  rw[ZW,ZW,iN h5,yC (by simp;omega)]
  congr 1
  exact ZNR _ _ hl fun i h h2=>ZCp d _ _ (hk i h h2)
theorem ZBR {w:List Data}:∀(d:Nat) (t:Ty) (p:Pattern),Zi w d t p->ZFv w d t p->∀q,q∈p.splits->ZFu w d t q/\((ZW w d t q).map VarType.var).Perm ((ZW w d t p).map VarType.var)/\q.wt<=p.wt
 |0,_,_,h,_,_,_=>h.elim
 |d+1,t,p,⟨ho,hl,hk⟩,⟨hlk,hlin⟩,q,hq=>by
  have hwk:∀i (h:i<p.kids.length),1+p.kids[i].wt<=p.wt:=fun i h=>by rw[p.wt_eq];exact Zt Pattern.wt (gM h)
  have ih:∀i (h:i<(ZF w t p).length) (h':i<p.kids.length) q,q∈p.kids[i].splits->ZFu w d (ZF w t p)[i] q/\((ZW w d (ZF w t p)[i] q).map VarType.var).Perm ((ZW w d (ZF w t p)[i] p.kids[i]).map VarType.var)/\q.wt<=p.kids[i].wt:=
   fun i h h' q hq=>ZBR d _ _ (hk i (zB _) h h h') (hlk i (zB _) h h h') q hq
  rw[ZCG]at hq
  by_cases h5:p.op=5
  ·rw[iP h5]at hq hlin
   have et:=Zz ho h5
   have h2:p.kids.length=2:=by rw[hl,et];rfl
   have ev:=ZDW (d:=d) ho h5 (by omega)
   have es2:(p.kids.map Pattern.splits).flatten=(p.kids[0]'(by omega)).splits++(p.kids[1]'(by omega)).splits:=by
    have e9:(([p.kids[0]'(by omega),p.kids[1]'(by omega)]:List Pattern).map Pattern.splits).flatten=(p.kids[0]'(by omega)).splits++(p.kids[1]'(by omega)).splits:=by simp
    rw[←ZDZ h2]at e9;exact e9
   rw[es2]at hq
   have hall:∀x,x∈ZF w t p->x=t:=by rw[et];simp
   have t0:∀i (h:i<(ZF w t p).length),(ZF w t p)[i]=t:=fun i h=>hall _ (gM h)
   have i0:=ih 0 (by omega) (by omega)
   have i1:=ih 1 (by omega) (by omega)
   have s0:=hk 0 (zB _) (by omega) (by omega) (by omega)
   have l0:=hlk 0 (zB _) (by omega) (by omega) (by omega)
   have s1:=hk 1 (zB _) (by omega) (by omega) (by omega)
   have l1:=hlk 1 (zB _) (by omega) (by omega) (by omega)
   rw[t0]at i0 i1 s0 l0 s1 l1
   have w0:=hwk 0 (by omega)
   have w1:=hwk 1 (by omega)
   rcases yB.1 hq with hq|hq
   ·obtain⟨a1,a2,a3⟩:=i0 q hq
    exact⟨ZDh a1,by rw[ZCp d t q a1,ev];exact a2,by omega⟩
   ·obtain⟨a1,a2,a3⟩:=i1 q hq
    refine⟨ZDh a1,?_,by omega⟩
    rw[ZCp d t q a1,ev]
    exact a2.trans (ZJB (ZBi s0 l0) (hlin (by omega) (by omega))).symm
  ·rw[iN h5]at hq
   obtain⟨e1,e2,e3⟩:=ZGf (G:=fun k x=>∀h:k<p.kids.length,x∈p.kids[k].splits) (p:=p) _ 0 _ (fun k h x hx h'=>by
    have e:(0+k)=k:=zL k
    simp only[xB]at hx
    simpa only[e]using hx) (fun q hq=>by rw[yO.1 hq];exact⟨rfl,rfl,fun k h=>absurd h (by simp)⟩) q hq
   rw[yH,zL]at e2
   have eo:q.op=p.op:=by rw[e1]
   have ec:q.ctor=p.ctor:=by rw[e1]
   have en:q.n=p.n:=by rw[e1]
   have em:q.m=p.m:=by rw[e1]
   have ew:q.var=p.var:=by rw[e1]
   have ety:ZF w t q=ZF w t p:=by unfold ZF;rw[eo,ec]
   have eow:ZAw w t q:=by unfold ZAw at ho ⊢;rw[eo,ec,en,em,ew];exact ho
   have ihq:∀i (h:i<(ZF w t p).length) (h1:i<q.kids.length) (h':i<p.kids.length),ZFu w d (ZF w t p)[i] q.kids[i]/\((ZW w d (ZF w t p)[i] q.kids[i]).map VarType.var).Perm ((ZW w d (ZF w t p)[i] p.kids[i]).map VarType.var)/\q.kids[i].wt<=p.kids[i].wt:=
    fun i h h1 h'=>ih i h h' _ (e3 i h1 h')
   refine⟨⟨eow,by omega,by rw[ety];omega,fun i h h'=> ?_⟩,?_,?_⟩
   ·grind
   ·have vp:ZW w (d+1) t p=(if p.op=2∨p.op=6 then[⟨p.var,t⟩]else[])++((ZF w t p).zip p.kids).flatMap fun x=>ZW w d x.1 x.2:=by
     rw[ZW,iN h5,yC (by rw[xY];omega)]
    have vq:ZW w (d+1) t q=(if p.op=2∨p.op=6 then[⟨p.var,t⟩]else[])++((ZF w t p).zip q.kids).flatMap fun x=>ZW w d x.1 x.2:=by
     rw[ZW,iN (show ¬q.op=5 by omega),yC (by rw[xY];omega),ety,eo,ew]
    rw[vp,vq,yN,yN]
    exact(ZII _ _ _ (by omega) hl fun i h h1 h2=>(ihq i h h1 h2).2.1).append_left _
   ·rw[q.wt_eq,p.wt_eq]
    exact ZKC (by omega) fun i h h'=>(ihq i (by omega) h h').2.2
theorem ZDE {w:List Data}{d:Nat}{t:Ty}{p:Pattern}(h1:Zi w d t p)(h2:ZFv w d t p){q:Pattern}(hq:q∈p.splits)(path:List Int):((q.bnd path).map PathBind.var).Nodup:=by
 obtain⟨s1,s2,_⟩:=ZBR d t p h1 h2 q hq
 rw[ZIp w d t q s1 path]
 exact s2.nodup_iff.2 (ZBi h1 h2)
/-! The reference cuts a pattern's choices off at 401. -/
theorem ZBK {α:Type}(n:Nat)(a b:List α):((a.take n)++b).take n=(a++b).take n:=by
 rw[yR,yR,xI,Nat.min_self]
 grind
theorem P.YAo {lists:List (List Pattern)}{i:Nat}(hi:i<lists.length){out:List (List Pattern)}{k:Nat}(hk:k<out.length)(hR:out[k].length<=1048576)(hx:lists[i].length<=401):
  ∀(m j:Nat) (next:List (List Pattern)),lists[i].length-j=m->next.length<=401->F.f176 lists out i k next j=some ((next++(lists[i].drop j).map fun x=>out[k]++[x]).take 401)
 |m,j,next,hm,hn=>by
  rw[F.f176,gQ hi]
  simp only[oE,oS]
  by_cases hj:j<lists[i].length
  ·rw[iP hj]
   by_cases h4:next.length<=400
   ·rw[iP h4,gQ hk]
    simp only[oS]
    rw[iP (by omega),gQ hj]
    simp only[oS]
    rw[iP (by omega),iP (by omega),iP (by omega)]
    match m,hm with
    |0,hm=>omega
    |m+1,hm=>
     rw[P.YAo hi hk hR hx m (j+1) _ (by omega) (by simp;omega),zW hj,yA,yI]
     rfl
   ·grind
  ·rw[iN hj,zX (by omega),xG,xZ,yC (by omega)]
def addT (out:List (List Pattern))(v:List Pattern):List (List Pattern):=out.flatMap fun x=>v.map fun y=>x++[y]
theorem P.YAp {lists:List (List Pattern)}{i:Nat}(hi:i<lists.length){out:List (List Pattern)}(ho:out.length<=401)(hR:∀x,x∈out->x.length<=1048576)(hx:lists[i].length<=401):
  ∀(m k:Nat) (next:List (List Pattern)),out.length-k=m->next.length<=401->F.f177 lists out i next k=some ((next++addT (out.drop k) lists[i]).take 401)
 |m,k,next,hm,hn=>by
  rw[F.f177]
  by_cases hk:k<out.length
  ·rw[iP hk]
   by_cases h4:next.length<=400
   ·rw[iP h4,P.YAo hi hk (hR _ (gM hk)) hx _ 0 next rfl hn]
    simp only[oE,oS]
    rw[iP (by omega)]
    match m,hm with
    |0,hm=>omega
    |m+1,hm=>
     rw[P.YAp hi ho hR hx m (k+1) _ (by omega) (by rw[yS];omega),ZBK,zY,zW hk]
     simp only[addT,yF,yI]
   ·grind
  ·rw[iN hk,zX (by omega)]
   simp only[addT,List.flatMap_nil,xZ]
   rw[yC (by omega)]
theorem ZFz {α β:Type}{f:α->List β}(hf:∀x,f x≠[])(n:Nat):∀l:List α,((l.take n).flatMap f).take n=(l.flatMap f).take n:=by
 have key:∀(l:List α) (n m:Nat),m<=n->((l.take n).flatMap f).take m=(l.flatMap f).take m:=by
  intro l
  induction l with
  |nil=>intro n m _;simp
  |cons x r ih=>
   intro n m hm
   cases n with
   |zero=>grind
   |succ n=>
    rw[xE,yF,yF,yR,yR,ih n (m- (f x).length) (by have:=xS.2 (hf x);omega)]
 grind
theorem ZEX {α β γ:Type}(g:α->β->γ)(n:Nat)(v:List β):∀(l:List α) (m:Nat),m<=n->(l.flatMap fun x=>(v.take n).map (g x)).take m=(l.flatMap fun x=>v.map (g x)).take m
 | [],m,_=>by simp
 |x::r,m,hm=>by
  rw[yF,yF,yR,yR,yH,yH,yS,←vA,←vA,xI,zJ hm]
  by_cases h:v.length<=n
  ·rw[zM h,ZEX g n v r _ (by omega)]
  ·rw[show m-min n v.length=0 by omega,show m-v.length=0 by omega]
   simp
theorem ZLb {v:List Pattern}(hv:v≠[])(out:List (List Pattern)):(addT (out.take 401) (v.take 401)).take 401=(addT out v).take 401:=by
 unfold addT
 rw[ZEX (fun(x:List Pattern) y=>x++[y]) 401 v _ 401 (zA _),ZFz (fun x h=>hv (List.map_eq_nil_iff.1 h))]
theorem P.YAq {Ls:List (List Pattern)}(hb:Ls.length<=1048576)(hne:∀L,L∈Ls->L≠[]):
  ∀(m i:Nat) (out:List (List Pattern)),Ls.length-i=m->(∀x,x∈out->x.length=i)->i<=Ls.length->F.f178 (Ls.map fun L=>L.take 401) (out.take 401) i=some (((Ls.drop i).foldl addT out).take 401)
 |m,i,out,hm,hR,hi=>by
  rw[F.f178]
  by_cases h:i<Ls.length
  ·have h':i<(Ls.map fun L=>L.take 401).length:=by simpa using h
   have ei:(Ls.map fun L=>L.take 401)[i]=Ls[i].take 401:=xB ..
   rw[iP h',P.YAp h' (by rw[yS];omega) (fun x hx=>by rw[hR x (xP hx)];omega) (by rw[ei,yS];omega) _ 0 [] rfl (by simp)]
   simp only[oE,oS,yM,zY]
   rw[iP (by omega),ei,ZLb (hne _ (gM h))]
   match m,hm with
   |0,hm=>omega
   |m+1,hm=>
    rw[P.YAq hb hne m (i+1) _ (by omega) (fun x hx=>by
     obtain⟨y,hy,hx⟩:=yU.1 hx
     obtain⟨z,_,rfl⟩:=yD.1 hx
     simp[hR y hy]) (by omega),zW h,yY]
  ·grind
theorem ZEt (mk:List Pattern->Pattern)(hmk:∀q,mk q=⟨(mk q).op,(mk q).ctor,(mk q).n,(mk q).m,(mk q).var,q⟩)(hmk2:∀a b,(⟨(mk a).op,(mk a).ctor,(mk a).n,(mk a).m,(mk a).var,b⟩:Pattern)=mk b)(hk:∀a,(mk a).kids=a):
  ∀(Ls:List (List Pattern)) (out:List (List Pattern)),Ls.foldl ZAs (out.map mk)=(Ls.foldl addT out).map mk
 | [],out=>rfl
 |L::Ls,out=>by
  have e:ZAs (out.map mk) L=(addT out L).map mk:=by
   unfold ZAs addT
   rw[List.flatMap_map,List.map_flatMap]
   refine congrArg (fun f=>out.flatMap f) (funext fun x=> ?_)
   simp_all
  rw[yY,yY,e,ZEt mk hmk hmk2 hk Ls]
theorem P.YAJ (p:Pattern)(h:∀i (h:i<p.kids.length),F.f181 p.kids[i]=some (p.kids[i].splits.take 401))(hk:p.kids.length<=67108863):
  ∀(m i:Nat) (out:List (List Pattern)),p.kids.length-i=m->out.length=i->F.f182 p out i=some (out++(p.kids.drop i).map fun k=>k.splits.take 401)
 |0,i,out,hm,ho=>by rw[F.f182,iN (by omega),zX (by omega)];simp
 |m+1,i,out,hm,ho=>by
  have hi':i<p.kids.length:=by omega
  rw[F.f182,iP hi',gQ hi']
  simp only[oE,oS]
  rw[h i hi']
  simp only[oS]
  rw[iP (by omega),P.YAJ p h hk m (i+1) _ (by omega) (by simp[ho]),zW hi',yA,yI]
  rfl
theorem P.YY (w:List Data):∀(d:Nat) (t:Ty) (p:Pattern),Zi w d t p->p.wt<=1048576->F.f181 p=some (p.splits.take 401)
 |0,_,_,h,_=>h.elim
 |d+1,t,p,⟨h1,h2,h3⟩,hw=>by
  have hwk:∀i (h:i<p.kids.length),1+p.kids[i].wt<=p.wt:=fun i h=>by rw[p.wt_eq];exact Zt Pattern.wt (gM h)
  have hkl:p.kids.length<=p.wt:=by rw[p.wt_eq];exact ZA9 Pattern.wt p.kids
  have hsh:∀i (h:i<p.kids.length),∃u,Zi w d u p.kids[i]:=fun i h=>⟨_,h3 i (zB _) (by omega) (by omega) h⟩
  have ih:∀i (h':i<p.kids.length),F.f181 p.kids[i]=some (p.kids[i].splits.take 401):=fun i h'=>by
   obtain⟨u,hu⟩:=hsh i h'
   exact P.YY w d _ _ hu (by have:=hwk i h';omega)
  rw[F.f181,ZCG]
  by_cases h5:p.op=5
  ·have ht:ZF w t p=[t,t]:=Zz h1 h5
   have k2:p.kids.length=2:=by rw[h2,ht];rfl
   have es2:(p.kids.map Pattern.splits).flatten=(p.kids[0]'(by omega)).splits++(p.kids[1]'(by omega)).splits:=by
    have e9:(([p.kids[0]'(by omega),p.kids[1]'(by omega)]:List Pattern).map Pattern.splits).flatten=(p.kids[0]'(by omega)).splits++(p.kids[1]'(by omega)).splits:=by simp
    rw[←ZDZ k2]at e9;exact e9
   rw[iP h5,iP h5,es2,gQ (by omega),gQ (by omega)]
   simp only[oE,oS]
   rw[ih 0 (by omega),ih 1 (by omega)]
   simp only[oS]
   generalize(p.kids[0]'(by omega)).splits=a
   generalize(p.kids[1]'(by omega)).splits=b
   have e:((a.take 401)++(b.take 401)).take 401=(a++b).take 401:=by
    rw[ZBK,yR,yR,xI]
    grind
   have l1:(a.take 401).length<=401:=by rw[yS];omega
   have l2:(b.take 401).length<=401:=by rw[yS];omega
   rw[iP (by omega)]
   by_cases hc:401<(a.take 401++b.take 401).length
   ·grind
   ·have e2:(a.take 401++b.take 401).take 401=a.take 401++b.take 401:=yC (by omega)
    rw[iN hc,←e,e2]
  ·have key:=P.YAJ p ih (by omega) _ 0 [] rfl rfl
   rw[zY,yM]at key
   have hne:∀L,L∈p.kids.map Pattern.splits->L≠[]:=fun L hL hn=>by
    obtain⟨k,hk,rfl⟩:=yD.1 hL
    obtain⟨i,hi,rfl⟩:=xD.1 hk
    obtain⟨u,hu⟩:=hsh i hi
    have l1:=ZAE p.kids[i]
    have l2:=ZFo hu
    grind
   have t1:=P.YAq (Ls:=p.kids.map Pattern.splits) (by simp;omega) hne _ 0 [[]] rfl (by simp) (zB _)
   rw[xA,zY]at t1
   rw[iN h5,iN h5,key]
   simp only[oE,oS]
   unfold F.f179
   rw[show F.f178 (p.kids.map fun k=>k.splits.take 401) [[]] 0=some (((p.kids.map Pattern.splits).foldl addT [[]]).take 401)from t1]
   simp only[oE,oS]
   rw[P.YAy p _ _ 0 [] rfl (by rw[yS,yK];omega),zY,yM]
   have e:=ZEt (fun ks=>⟨p.op,p.ctor,p.n,p.m,p.var,ks⟩) (fun q=>rfl) (fun a b=>rfl) (fun a=>rfl) (p.kids.map Pattern.splits) [[]]
   simp_all
/-! The code of clauses. -/
theorem ZDV {α:Type}{f:α->α}{L:List α->Nat->Option (List α)}{n:Nat}(hL:∀out k,out.length=n->L out k=if h:k<out.length then L (out.set k (f out[k])) (k+1)else some out):
  ∀(m k:Nat) (out:List α),out.length=n->out.length-k=m->k<=out.length->L out k=some (out.take k++(out.drop k).map f)
 |0,k,out,hn,hm,hk=>by
  rw[hL out k hn,dif_neg (by omega),zX (by omega),yC (by omega)]
  simp
 |m+1,k,out,hn,hm,hk=>by
  have hk':k<out.length:=by omega
  rw[hL out k hn,dif_pos hk',ZDV hL m (k+1) _ (by simpa using hn) (by simp;omega) (by simp;omega)]
  have e1:(out.set k (f out[k])).take (k+1)=out.take k++[f out[k]]:=by
   rw[xF (by simpa using hk'),List.take_set_of_le (zA _)]
   simp
  have e2:(out.set k (f out[k])).drop (k+1)=out.drop (k+1):=List.drop_set_of_lt (by omega)
  rw[e1,e2,zW hk',yA]
  simp
def ZI6 (i:Nat)(q:Pattern)(e:Int):Step:=⟨2,[],0,0,0,(i:Int),sortI (fun x=>x.var) (q.bnd []),e⟩
def toS (e:Int)(s:Step):Step:=⟨s.op,s.path,s.ctor,s.n,s.m,s.clause,s.binds,e⟩
def ZP (g:Nat->Int)(i:Nat):Nat->List Pattern->List Step
 |_,[]=>[]
 |n,q::r=>((q.tst []).map (toS ((n+(q.tst []).length+1:Nat):Int))++[ZI6 i q (g (n+(q.tst []).length+1))])++ZP g i (n+(q.tst []).length+1) r
theorem ZCo (g g':Nat->Int)(i:Nat):∀(qs:List Pattern) (n:Nat),(ZP g i n qs).length=(ZP g' i n qs).length
 | [],n=>rfl
 |q::r,n=>by simp only[ZP,zZ,ZCo g g' i r];simp
theorem ZGS {β:Type}{R:β->Prop}(op:Int)(g:Pattern->List Int->List β)(path:List Int):∀(l:List Pattern) (h:∀k,k∈l->∀path s,s∈g k path->R s) (i:Nat) (s:β),s∈ZAC op path i (l.map g)->R s
 | [],h,i,s,hs=>by simp[ZAC]at hs
 |k::r,h,i,s,hs=>by
  rw[yA,ZAC,yB]at hs
  rcases hs with hs|hs
  ·grind
  ·exact ZGS op g path r (fun k hk=>h k (yE _ hk)) (i+1) s hs
theorem ZNT (p:Pattern):∀path s,s∈p.tst path->s.op=1:=by
 induction p using Pattern.ind with
 |_ p ih=>
  intro path s hs
  rw[ZFx,yB]at hs
  rcases hs with hs|hs
  ·grind
  ·exact ZGS p.op Pattern.tst path p.kids ih 0 s hs
theorem P.Yy (v4:List (List Pattern)×Bool)(out:List Step)(i:Nat)(x:List Pattern)(hx:∀q,q∈x->q.wt<=900/\((q.bnd []).map PathBind.var).Nodup)(hxl:x.length<=1000):
  ∀(m j:Nat) (o:List Step),x.length-j=m->o.length+m*1000<=67108000->F.f166 v4 out i x o j=some (o++ZP (fun _=>0) i o.length (x.drop j))
 |0,j,o,hm,hb=>by
  rw[F.f166,iN (by omega),zX (by omega)]
  simp[ZP]
 |m+1,j,o,hm,hb=>by
  have hj:j<x.length:=by omega
  obtain⟨w1,n1⟩:=hx _ (gM hj)
  have t1:=ZCh x[j] []
  have b1:=ZD9 x[j] []
  rw[F.f166,iP hj,gQ hj]
  simp only[oE,oS]
  rw[P.YAj x[j] [] o [] (by simp;omega) (by omega) (by simp;omega)]
  simp only[oS,yM]
  unfold F.f164
  rw[iP ⟨n1,by omega⟩]
  simp only[oS]
  have hl:(o++x[j].tst []).length=o.length+(x[j].tst []).length:=zZ
  have key:=ZDV (f:=toS ((o.length+(x[j].tst []).length+1:Nat):Int)) (n:=o.length+(x[j].tst []).length) (L:=fun a k=>F.f165 v4 out i x j (sortI (fun x=>x.var) (x[j].bnd [])) a k)
   (fun a k ha=>by
    show F.f165 v4 out i x j _ a k=_
    rw[F.f165]
    by_cases hk:k<a.length
    ·rw[iP hk,dif_pos hk,iP (by omega),gQ hk]
     simp only[oE,oS]
     rw[ha]
     rfl
    ·rw[iN hk,dif_neg hk]) _ o.length (o++x[j].tst []) hl rfl (by omega)
  rw[key,xJ,xK]
  simp only[oS]
  rw[iP (by simp;omega),iP (by omega),P.Yy v4 out i x hx hxl m (j+1) _ (by omega) (by simp;omega),zW hj]
  have el:(o++(x[j].tst []).map (toS ((o.length+(x[j].tst []).length+1:Nat):Int))++[(⟨2,[],0,0,0,(i:Int),sortI (fun x=>x.var) (x[j].bnd []),0⟩:Step)]).length=o.length+(x[j].tst []).length+1:=by simp;omega
  rw[el,ZP]
  simp only[ZI6,yI]
theorem ZEl {α:Type}:∀l l':List α,l.Nodup->l'.Nodup->(∀x,x∈l↔x∈l')->l.Perm l'
 | [],l',_,_,h=>by
  cases l' with
  |nil=>exact .refl _
  |cons a r=>exact absurd ((h a).2 (yJ ..)) (by simp)
 |x::r,l',hn,hn',h=>by
  obtain⟨s,t,rfl⟩:=xU ((h x).1 (yJ ..))
  rw[yX]at hn
  have hp:(s++x::t).Perm (x::(s++t)):=xW
  have hn2:=hp.nodup_iff.1 hn'
  rw[yX]at hn2
  refine((ZEl r (s++t) hn.2 hn2.2 fun y=> ?_).cons x).trans hp.symm
  grind
def ZD8 (l:List PathBind)(n m:Nat):List PathBind:=(List.range' n m).flatMap fun(k:Nat)=>l.filter fun b=>decide (b.var=(k:Int))
theorem ZGy {l:List PathBind}{n m:Nat}{x:PathBind}:x∈ZD8 l n m↔x∈l/\(n:Int)<=x.var/\x.var<(n+m:Nat):=by
 unfold ZD8
 simp only[yU,xC,decide_eq_true_eq,List.mem_range'_1]
 constructor
 ·grind
 ·rintro⟨hx,h1,h2⟩
  exact⟨x.var.toNat,by omega,hx,by omega⟩
theorem ZMn {l:List PathBind}(h:(l.map PathBind.var).Nodup)(n:Int):(l.filter fun b=>decide (b.var=n)).Pairwise fun x y=>x.var<y.var:=by
 induction l with
 |nil=>simp
 |cons b r ih=>
  rw[yA,yX]at h
  by_cases e:b.var=n
  all_goals simp_all
theorem ZFm {l:List PathBind}(h:(l.map PathBind.var).Nodup):∀m n,(ZD8 l n m).Pairwise fun x y=>x.var<y.var
 |0,n=>by simp[ZD8]
 |m+1,n=>by
  have ih:=ZFm h m (n+1)
  have e:ZD8 l n (m+1)=(l.filter fun b=>decide (b.var=(n:Int)))++ZD8 l (n+1) m:=by
   unfold ZD8;rw[xV,yF]
  rw[e,List.pairwise_append]
  refine⟨ZMn h _,ih,fun a ha b hb=> ?_⟩
  have h1:=(xC.1 ha).2
  have h2:=(ZGy.1 hb).2.1
  grind
theorem ZJv {l:List PathBind}(h:(l.map PathBind.var).Nodup)(hv:∀b,b∈l->0<=b.var/\b.var<=5):ZD8 l 0 6=sortI (fun x=>x.var) l:=by
 have nd:∀l:List PathBind,l.Pairwise (fun x y=>x.var<y.var)->l.Nodup:=fun l h=>h.imp fun{a b} hab e=>by subst e;omega
 refine ZHc (key:=fun x=>x.var) _ _ (ZEl _ _ (nd _ (ZFm h 6 0)) (nd _ (ZDT l h)) fun x=> ?_) (ZFm h 6 0) (ZDT l h)
 rw[ZGy,ZDf]
 grind
theorem P.YBB (list:List PathBind)(n:Nat)(hp:∀b,b∈list->b.path.length<=67108864):∀(m i:Nat) (out:List PathBind),list.length-i=m->out.length+m<=67108864->F.f190 list n out i=some (out++(list.drop i).filter fun b=>decide (b.var=(n:Int)))
 |0,i,out,hm,hb=>by rw[F.f190,iN (by omega),zX (by omega)];simp
 |m+1,i,out,hm,hb=>by
  have hi:i<list.length:=by omega
  rw[F.f190,iP hi,gQ hi,zW hi,List.filter_cons]
  simp only[oE,oS]
  by_cases e:list[i].var=(n:Int)
  ·rw[iP e,iP (hp _ (gM hi)),iP (by omega),iP (by simpa using e),P.YBB list n hp m (i+1) _ (by omega) (by simp;omega),←e,yI]
   rfl
  ·rw[iN e,iN (by simpa using e),P.YBB list n hp m (i+1) _ (by omega) (by omega)]
theorem P.YBF (list:List PathBind)(hp:∀b,b∈list->b.path.length<=67108864)(hl:list.length<=1048576):∀(m n:Nat) (out:List PathBind),6-n=m->n<=6->out.length+m*1048576<=67108864->F.f191 list out n=some (out++ZD8 list n m)
 |0,n,out,hm,hn,hb=>by rw[F.f191,iN (by omega)];simp[ZD8]
 |m+1,n,out,hm,hn,hb=>by
  have hf:(list.filter fun b=>decide (b.var=(n:Int))).length<=list.length:=List.length_filter_le ..
  rw[F.f191,iP (by omega),P.YBB list n hp _ 0 out rfl (by omega)]
  simp only[oE,oS,zY]
  rw[iP (by omega),P.YBF list hp hl m (n+1) _ (by omega) (by omega) (by rw[zZ];omega)]
  unfold ZD8
  rw[xV,yF,yI]
theorem P.YAi (list:List PathBind)(hp:∀b,b∈list->b.path.length<=67108864)(hl:list.length<=1048576)(h:(list.map PathBind.var).Nodup)(hv:∀b,b∈list->0<=b.var/\b.var<=5):F.f192 list=some (sortI (fun x=>x.var) list):=by
 unfold F.f192
 rw[P.YBF list hp hl 6 0 [] rfl (by omega) (by simp),ZJv h hv]
 rfl
theorem ZDv {β:Type}(op:Int)(g:Pattern->List Int->List β)(path:List Int):∀(l:List Pattern) (i:Nat) (s:β),s∈ZAC op path i (l.map g)->∃k,k∈l/\∃path',path'.length<=path.length+1/\s∈g k path'
 | [],i,s,hs=>by simp[ZAC]at hs
 |k::r,i,s,hs=>by
  rw[yA,ZAC,yB]at hs
  rcases hs with hs|hs
  ·grind
  ·obtain⟨k',h1,h2⟩:=ZDv op g path r (i+1) s hs
   grind
theorem ZIq (p:Pattern):∀path b,b∈p.bnd path->b.path.length<=path.length+p.wt:=by
 induction p using Pattern.ind with
 |_ p ih=>
  intro path b hb
  rw[ZEA,yB]at hb
  rcases hb with hb|hb
  ·grind
  ·obtain⟨k,hk,path',hp,hb⟩:=ZDv p.op Pattern.bnd path p.kids 0 b hb
   have h1:=ih k hk path' b hb
   have h2:1+k.wt<=p.wt:=by rw[p.wt_eq];exact Zt Pattern.wt hk
   omega
theorem ZH6 {w:List Data}:∀(d:Nat) (t:Ty) (p:Pattern),ZFu w d t p->∀path b,b∈p.bnd path->0<=b.var/\b.var<=5
 |0,_,_,h,_,_,_=>h.elim
 |d+1,t,p,⟨h1,h5,hl,hk⟩,path,b,hb=>by
  rw[ZEA,yB]at hb
  rcases hb with hb|hb
  ·split at hb
   ·next h26=>
    rw[yO.1 hb]
    show 0<=p.var/\p.var<=5
    unfold ZAw at h1
    omega
   ·cases hb
  ·obtain⟨k,hm,path',hp,hb⟩:=ZDv p.op Pattern.bnd path p.kids 0 b hb
   obtain⟨i,hi,rfl⟩:=xD.1 hm
   exact ZH6 d _ _ (hk i (by omega) hi) path' b hb
theorem P.YA0 (w:List Data)(list:List Clause)(out:List Step)(i:Nat)(x:List Pattern)(hx:∀q,q∈x->q.wt<=900/\((q.bnd []).map PathBind.var).Nodup/\∃d t,ZFu w d t q)(hxl:x.length<=1000):
  ∀(m j:Nat) (o:List Step),x.length-j=m->o.length+m*1000<=67108000->F.f194 list out i x o j=some (o++ZP (fun n=>(n:Int)) i o.length (x.drop j))
 |0,j,o,hm,hb=>by
  rw[F.f194,iN (by omega),zX (by omega)]
  simp[ZP]
 |m+1,j,o,hm,hb=>by
  have hj:j<x.length:=by omega
  obtain⟨w1,n1,d,t,s1⟩:=hx _ (gM hj)
  have t1:=ZCh x[j] []
  have b1:=ZD9 x[j] []
  rw[F.f194,iP hj,gQ hj]
  simp only[oE,oS]
  rw[P.YAr w d t x[j] s1 [] o (by simp;omega) (by omega)]
  simp only[oS]
  rw[P.YA5 x[j] [] [] (by simp;omega) (by simp;omega),yM]
  simp only[oS]
  rw[P.YAi _ (fun b hb=>by have:=ZIq x[j] [] b hb;simp at this;omega) (by omega) n1 (ZH6 d t x[j] s1 [])]
  simp only[oS]
  have hl:(o++x[j].tst []++[(⟨2,[],0,0,0,(i:Int),sortI (fun x=>x.var) (x[j].bnd []),0⟩:Step)]).length=o.length+(x[j].tst []).length+1:=by simp;omega
  have key:=ZDV (f:=toS ((o.length+(x[j].tst []).length+1:Nat):Int)) (n:=o.length+(x[j].tst []).length+1) (L:=fun a k=>F.f193 list out i x j a k)
   (fun a k ha=>by
    show F.f193 list out i x j a k=_
    rw[F.f193]
    by_cases hk:k<a.length
    ·rw[iP hk,dif_pos hk,gQ hk]
     simp only[oE,oS]
     rw[ha]
     rfl
    ·rw[iN hk,dif_neg hk]) _ o.length _ hl rfl (by omega)
  rw[iP (by rw[zZ];omega),key,yI,xJ,xK]
  simp only[oS]
  rw[iP (by omega),P.YA0 w list out i x hx hxl m (j+1) _ (by omega) (by simp;omega),zW hj]
  have el:(o++(x[j].tst []++[(⟨2,[],0,0,0,(i:Int),sortI (fun x=>x.var) (x[j].bnd []),0⟩:Step)]).map (toS ((o.length+(x[j].tst []).length+1:Nat):Int))).length=o.length+(x[j].tst []).length+1:=by simp;omega
  rw[el,ZP,yN]
  simp only[ZI6,yI]
  rfl
def ZOw (e:Int)(s:Step):Step:=if s.op=2 then toS e s else s
theorem ZEj (g:Nat->Int)(e:Int)(i:Nat):∀(qs:List Pattern) (n:Nat),(ZP g i n qs).map (ZOw e)=ZP (fun _=>e) i n qs
 | [],n=>rfl
 |q::r,n=>by
  simp only[ZP,yN,ZEj g e i r,xA,yA,xG]
  congr 2
  refine List.map_congr_left fun s hs=> ?_
  have:=ZNT q [] s hs
  show ZOw e (toS _ s)=toS _ s
  unfold ZOw
  rw[iN (by show ¬s.op=2;omega)]
theorem ZCQ (g:Nat->Int)(i:Nat):∀(qs:List Pattern) (n:Nat),(∀q,q∈qs->q.wt<=900)->(ZP g i n qs).length<=qs.length*1000
 | [],n,_=>by simp[ZP]
 |q::r,n,h=>by
  have h1:=ZCQ g i r (n+(q.tst []).length+1) fun q hq=>h q (yE _ hq)
  have h2:=ZCh q []
  have h3:=h q (yJ ..)
  simp only[ZP,zZ,yH,yL,yK]at h1 ⊢
  omega
def clS (i:Nat)(o:List Step)(x:List Pattern):List Step:=o++ZP (fun _=>((o.length+(ZP (fun _=>0) i o.length x).length:Nat):Int)) i o.length x
def ZAn :Nat->List Step->List (List Pattern)->List Step
 |_,o,[]=>o
 |i,o,x::r=>ZAn (i+1) (clS i o x) r
def ZGG (q:Pattern):Prop:=q.wt<=900/\((q.bnd []).map PathBind.var).Nodup
theorem ZIn {L:List Step->Nat->Option (List Step)}(hL:∀o k,L o k=if k<o.length then(o[k]?)>>=fun x=>if x.op=2 then L (o.set k (⟨x.op,x.path,x.ctor,x.n,x.m,x.clause,x.binds,(o.length:Int)⟩:Step)) (k+1)else L o (k+1)else some o)
  (o:List Step) (k:Nat) (hk:k<=o.length):L o k=some (o.take k++(o.drop k).map (ZOw (o.length:Int))):=by
 refine ZDV (f:=ZOw (o.length:Int)) (n:=o.length) (L:=L) (fun a k ha=> ?_) _ k o rfl rfl hk
 rw[hL]
 by_cases h:k<a.length
 ·rw[iP h,dif_pos h,gQ h]
  simp only[oE,oS]
  unfold ZOw
  by_cases h2:a[k].op=2
  ·rw[iP h2,iP h2,ha];rfl
  ·rw[iN h2,iN h2,List.set_getElem_self]
 ·rw[iN h,dif_neg h]
theorem ZLQ (g:Nat->Int)(i:Nat)(o:List Step)(x:List Pattern):(o++ZP g i o.length x).take o.length++((o++ZP g i o.length x).drop o.length).map (ZOw ((o++ZP g i o.length x).length:Int))=clS i o x:=by
 rw[xJ,xK,ZEj,zZ,ZCo g (fun _=>0)]
 rfl
theorem ZFj {i:Nat}{o:List Step}{x:List Pattern}(h:∀q,q∈x->q.wt<=900):(clS i o x).length<=o.length+x.length*1000:=by
 unfold clS
 rw[zZ]
 have:=ZCQ (fun _=>((o.length+(ZP (fun _=>0) i o.length x).length:Nat):Int)) i x o.length h
 omega
theorem P.YAL (vs:List (List Pattern))(b:Bool)(hv:∀x,x∈vs->x.length<=40/\∀q,q∈x->ZGG q)(hl:vs.length<=1000):∀(m i:Nat) (o:List Step),vs.length-i=m->o.length+m*40000<=67000000->F.f168 (vs,b) o i=some (ZAn i o (vs.drop i))
 |0,i,o,hm,hb=>by
  rw[F.f168,iN (by show ¬i<vs.length;omega),zX (by omega)]
  rfl
 |m+1,i,o,hm,hb=>by
  have hi:i<vs.length:=by omega
  obtain⟨h40,hq⟩:=hv _ (gM hi)
  have hw:∀q,q∈vs[i]->q.wt<=900:=fun q h=>(hq q h).1
  have cl:=ZFj (i:=i) (o:=o) hw
  rw[F.f168,iP (show i<vs.length from hi),show(vs,b).1[i]? =some vs[i]from gQ hi]
  simp only[oE,oS]
  rw[P.Yy (vs,b) o i vs[i] hq (by omega) _ 0 o rfl (by omega),zY]
  simp only[oS]
  rw[ZIn (L:=F.f167 (vs,b) i) (fun o k=>by rw[F.f167]) _ _ (by rw[zZ];omega),ZLQ]
  simp only[oS]
  rw[iP (by omega),P.YAL vs b hv hl m (i+1) _ (by omega) (by omega),zW hi]
  rfl
theorem P.Yh (w:List Data)(list:List Clause)(hv:∀c,c∈list->F.f181 c.pat=some c.pat.splits/\c.pat.splits.length<=40/\∀q,q∈c.pat.splits->ZGG q/\∃d t,ZFu w d t q)(hl:list.length<=1000):
  ∀(m i:Nat) (o:List Step),list.length-i=m->o.length+m*40000<=67000000->F.f196 list o i=some (ZAn i o ((list.map fun c=>c.pat.splits).drop i))
 |0,i,o,hm,hb=>by
  rw[F.f196,iN (by omega),zX (by simp;omega)]
  rfl
 |m+1,i,o,hm,hb=>by
  have hi:i<list.length:=by omega
  obtain⟨e,h40,hq⟩:=hv _ (gM hi)
  have hw:∀q,q∈list[i].pat.splits->q.wt<=900:=fun q h=>(hq q h).1.1
  have cl:=ZFj (i:=i) (o:=o) hw
  rw[F.f196,iP hi,gQ hi]
  simp only[oE,oS]
  rw[e]
  simp only[oS]
  rw[P.YA0 w list o i _ (fun q h=>⟨(hq q h).1.1,(hq q h).1.2,(hq q h).2⟩) (by omega) _ 0 o rfl (by omega),zY]
  simp only[oS]
  rw[ZIn (L:=F.f195 list i) (fun o k=>by rw[F.f195]) _ _ (by rw[zZ];omega),ZLQ]
  simp only[oS]
  rw[iP (by omega),P.Yh w list hv hl m (i+1) _ (by omega) (by omega),zW (show i<(list.map fun c=>c.pat.splits).length by simpa using hi),xB]
  rfl
theorem P.Yd (l:List Clause)(hv:∀c,c∈l->c.pat.alts<=40->F.f153 c.pat=some c.pat.splits)(hl:l.length<=1000):
  ∀(m i:Nat) (out:List (List Pattern)),l.length-i=m->out.length=i->F.f155 l out i=some (if ∀c,c∈l.drop i->c.pat.alts<=40 then .go (out++(l.drop i).map fun c=>c.pat.splits)else .ret ([],false))
 |0,i,out,hm,ho=>by
  rw[F.f155,iN (by omega),zX (by omega),iP (by simp)]
  simp
 |m+1,i,out,hm,ho=>by
  have hi:i<l.length:=by omega
  rw[F.f155,iP hi,gQ hi,zW hi]
  simp only[oE,oS]
  rw[P.YAm]
  simp only[oS]
  by_cases h:l[i].pat.alts<=40
  ·rw[iN (by omega),hv _ (gM hi) h]
   simp only[oS]
   rw[iP (by omega),P.Yd l hv hl m (i+1) _ (by omega) (by simp[ho])]
   grind
  ·grind
theorem P.YJ (l:List Clause)(hv:∀c,c∈l->F.f181 c.pat=some (c.pat.splits.take 401)):
  ∀(m i:Nat),l.length-i=m->F.f198 l i=some (if ∀c,c∈l.drop i->c.pat.alts<=40 then .go ()else .ret ([],false))
 |0,i,hm=>by rw[F.f198,iN (by omega),zX (by omega),iP (by simp)]
 |m+1,i,hm=>by
  have hi:i<l.length:=by omega
  rw[F.f198,iP hi,gQ hi,zW hi]
  simp only[oE,oS]
  rw[hv _ (gM hi)]
  simp only[oS]
  have hl:(l[i].pat.splits.take 401).length=min 401 l[i].pat.alts:=by rw[yS,ZAE]
  by_cases h:l[i].pat.alts<=40
  ·rw[iN (by omega),P.YJ l hv m (i+1) (by omega)]
   grind
  ·grind
theorem ZD3 :∀(vs:List (List Pattern)) (i:Nat) (o:List Step),(∀x,x∈vs->x.length<=40/\∀q,q∈x->q.wt<=900)->(ZAn i o vs).length<=o.length+vs.length*40000
 | [],i,o,_=>by simp[ZAn]
 |x::r,i,o,h=>by
  obtain⟨h1,h2⟩:=h x (yJ ..)
  have h3:=ZFj (i:=i) (o:=o) h2
  have h4:=ZD3 r (i+1) (clS i o x) fun y hy=>h y (yE _ hy)
  rw[ZAn,yL]
  omega
def ZGj :Step:=⟨3,[],0,0,0,0,[],0⟩
theorem P.YAT (w:List Data)(hw:ZAU w)(t:Ty)(l:List Clause)(hp:∀c,c∈l->c.pat.wt<=1048576)(hpat:ZMz w t l->∀c,c∈l->ZBD w t c.pat):∃r b,F.f169 w t l=some (r,b)/\F.f199 w t l=some (r,b)/\
  (b=true->ZMz w t l/\(∀c,c∈l->c.pat.alts<=40)/\r=ZAn 0 [] (l.map fun c=>c.pat.splits)++[ZGj]):=by
 unfold F.f169 F.f199
 rw[P.Yf w hw t l hp,P.YH w hw t l hp]
 simp only[oE,oS]
 by_cases hc:ZMz w t l
 ·have hpc:=hpat hc
  have hl8:l.length<=8:=hc.2.1
  rw[ZG hc,iP rfl,iP rfl]
  have h1:∀c,c∈l->F.f181 c.pat=some (c.pat.splits.take 401):=fun c h=>P.YY w 10 t c.pat (hpc c h).1 (hp c h)
  unfold F.f156
  rw[P.Yd l (fun c h ha=>P.YAM 10 t c.pat (hpc c h).1 (hp c h) (by omega)) (by omega) _ 0 [] rfl rfl,P.YJ l h1 _ 0 rfl,zY,yM]
  by_cases ha:∀c,c∈l->c.pat.alts<=40
  ·rw[iP ha,iP ha]
   simp only[oE,oS]
   have hq:∀c,c∈l->∀q,q∈c.pat.splits->ZGG q/\∃d u,ZFu w d u q:=fun c h q hq=>by
    obtain⟨s1,s2,s3⟩:=ZBR 10 t c.pat (hpc c h).1 (hpc c h).2.1 q hq
    have:=(hpc c h).2.2
    exact⟨⟨by omega,ZDE (hpc c h).1 (hpc c h).2.1 hq []⟩,10,t,s1⟩
   have hlen:∀c,c∈l->c.pat.splits.length<=40:=fun c h=>by rw[ZAE];exact ha c h
   have hvs:∀x,x∈l.map (fun c=>c.pat.splits)->x.length<=40/\∀q,q∈x->ZGG q:=fun x hx=>by
    grind
   have e1:=P.YAL (l.map fun c=>c.pat.splits) true hvs (by simp;omega) _ 0 [] rfl (by simp;omega)
   have e2:=P.Yh w l (fun c h=>⟨by rw[h1 c h,yC (by have:=hlen c h;omega)],hlen c h,hq c h⟩) (by omega) _ 0 [] rfl (by simp;omega)
   have cl:=ZD3 (l.map fun c=>c.pat.splits) 0 [] fun x hx=>⟨(hvs x hx).1,fun q hq=>((hvs x hx).2 q hq).1⟩
   rw[yH,yK]at cl
   unfold F.f197
   rw[iP True.intro,e1,e2,zY]
   simp only[oE,oS]
   rw[iP (by omega),iP (by omega)]
   exact⟨_,_,rfl,rfl,fun _=>⟨hc,ha,rfl⟩⟩
  ·rw[iN ha,iN ha]
   simp_all
 ·simp_all
noncomputable def ZJt (n:Nat):ByteArray:=⟨(Lib.decDigits n).toArray⟩
theorem ZGr (n:Nat)(h:n<10):ZDD [IntKind.u8.wrap (i64.wrap (48+(n:Int)))]=⟨#[vQ (48+n)]⟩:=by
 have e1:IntKind.u8.wrap (i64.wrap (48+(n:Int)))=48+(n:Int):=by rw[ZNq,ZFw];omega
 have e2:(48+(n:Int)).toNat=48+n:=by omega
 refine ZCc ?_
 simp[ZDD,e1,e2]
theorem ZFd {n:Nat}(h:n<10):ZJt n=⟨#[vQ (48+n)]⟩:=by unfold ZJt;rw[Lib.decDigits,dif_pos h]
theorem ZLO {n:Nat}(h:¬n<10):ZJt n=ZJt (n/10)++⟨#[vQ (48+n%10)]⟩:=by
 refine ZCc ?_
 rw[ZCd]
 unfold ZJt
 rw[Lib.decDigits,dif_neg h]
theorem ZD2 :∀(f n:Nat),n<10^ (f+1)->(ZJt n).size<=f+1
 |0,n,h=>by rw[ZFd (by omega)];exact zA _
 |f+1,n,h=>by
  by_cases h9:n<10
  ·rw[ZFd h9];show 1<=_;omega
  ·rw[ZLO h9,ZM]
   have:=ZD2 f (n/10) (by rw[zH]at h;omega)
   show _+1<=_
   omega
theorem P.Yv :∀(f n:Nat) (out:ByteArray),n<10^ (f+1)->(n:Int)<=9223372036854775807->out.size+f<=1000->
  ∃(m:Nat) (o2:ByteArray),F.f25 (n:Int) out=some ((m:Int),o2)/\m<10/\⟨#[vQ (48+m)]⟩++o2=ZJt n++out/\o2.size<=out.size+f
 |0,n,out,h,h63,hs=>⟨n,out,by rw[F.f25,iN (by omega)],by omega,by rw[ZFd (by omega)],by omega⟩
 |f+1,n,out,h,h63,hs=>by
  by_cases h9:n<10
  ·exact⟨n,out,by rw[F.f25,iN (by omega)],h9,by rw[ZFd h9],by omega⟩
  ·have e1:(n:Int).tmod 10=((n%10:Nat):Int):=by rw[Int.tmod_eq_emod_of_nonneg (by omega)];omega
   have e2:i64.wrap ((n:Int).tdiv 10)=((n/10:Nat):Int):=by
    rw[Int.tdiv_eq_ediv_of_nonneg (by omega),ZD (by omega) (by omega)];omega
   have e3:(⟨#[vQ (48+n%10)]⟩:ByteArray).size=1:=rfl
   obtain⟨m,o2,q1,q2,q3,q4⟩:=P.Yv f (n/10) (⟨#[vQ (48+n%10)]⟩++out) (by rw[zH]at h;omega) (by omega) (by rw[ZM,e3];omega)
   refine⟨m,o2,?_,q2,?_,by rw[ZM,e3]at q4;omega⟩
   ·rw[F.f25,iP (by omega),e1,ZGr _ (Nat.mod_lt _ (by omega)),e2,iP (by rw[e3];omega)]
    exact q1
   ·rw[q3,ZLO h9,ZAS]
theorem ZGT (n:Nat):ZBE (n:Int)=ZJt n:=by unfold ZBE ZJt Lib.itoa;rw[iN (by omega)];rfl
theorem ZA0 {n:Int}(h:n<0):ZBE n=⟨#[45]⟩++ZJt n.natAbs:=by
 refine ZCc ?_
 rw[ZCd]
 unfold ZBE ZJt Lib.itoa
 rw[iP h]
 rfl
theorem P.Ya (n:Nat)(h63:(n:Int)<=9223372036854775807):F.f26 (n:Int)=some (ZJt n):=by
 have e:(10:Nat)^ (18+1)=10000000000000000000:=by decide
 obtain⟨m,o2,q1,q2,q3,q4⟩:=P.Yv 18 n vK (by omega) h63 (by decide)
 have e0:vK.size=0:=rfl
 have e1:(⟨#[vQ (48+m)]⟩:ByteArray).size=1:=rfl
 rw[F.f26,iN (by omega),iN (by omega),q1]
 simp only[oE,oS]
 rw[ZGr m q2,iP (by rw[e1];omega),q3,ZNm]
theorem ZO {n:Int}(h:inR n):(ZBE n).size<=20:=by
 have e:(10:Nat)^ (18+1)=10000000000000000000:=by decide
 have h1:=h.1
 have h2:=h.2
 by_cases hn:n<0
 ·rw[ZA0 hn,ZM]
  have:=ZD2 18 n.natAbs (by omega)
  have e1:(⟨#[45]⟩:ByteArray).size=1:=rfl
  omega
 ·obtain⟨k,rfl⟩:=vD (show 0<=n by omega)
  rw[ZGT]
  have:=ZD2 18 k (by omega)
  omega
theorem ZK4 :ZBE (-9223372036854775808)=⟨#[45,57,50,50,51,51,55,50,48,51,54,56,53,52,55,55,53,56,48,56]⟩:=by
 rw[ZA0 (by decide)]
 refine ZCc ?_
 rw[ZCd]
 have e:(-9223372036854775808).natAbs=9223372036854775808:=by decide
 rw[e]
 unfold ZJt
 simp[Lib.decDigits]
theorem P.Yb {n:Int}(h:inR n):F.f26 n=some (ZBE n):=by
 have h1:=h.1
 have h2:=h.2
 by_cases hm:n< -9223372036854775807
 ·have:n= -9223372036854775808:=by omega
  subst this
  rw[F.f26,iP (by decide),ZK4]
 by_cases hn:n<0
 ·rw[F.f26,iN hm,iP hn]
  have e:i64.wrap (0-n)=((n.natAbs:Nat):Int):=by rw[ZD (by omega) (by omega)];omega
  have hs:=ZO h
  rw[ZA0 hn,ZM]at hs
  rw[e,P.Ya _ (by omega)]
  simp only[oE,oS]
  rw[iP (by omega),ZA0 hn]
 ·obtain⟨k,rfl⟩:=vD (show 0<=n by omega)
  rw[P.Ya k (by omega),ZGT]
theorem P.YC {n:Int}(h:inR n):F.f208 n=some (ZBE n):=by
 have h1:=h.1
 unfold F.f208
 by_cases hn:n<0
 ·rw[iP hn]
  by_cases hm: -1000000<n
  ·have e:i64.wrap (0-n)=((n.natAbs:Nat):Int):=by rw[ZD (by omega) (by omega)];omega
   have hs:=ZO h
   rw[ZA0 hn,ZM]at hs
   rw[iP hm,e,P.Ya _ (by omega)]
   simp only[oE,oS]
   rw[iP (by omega),ZA0 hn]
  ·rw[iN hm,P.Yb h];rfl
 ·rw[iN hn,P.Yb h];rfl
theorem P.YD {n:Int}(h:inR n):F.f200 n=some (ZBE n):=by unfold F.f200;exact iP h
theorem ZAc (a b:ByteArray):Zb (a++b)=Zb a++Zb b:=by unfold Zb;rw[ZCd,yN]
theorem ZGx :Zb vK=[]:=rfl
theorem ZAN (a:ByteArray):(Zb a).length=a.size:=by unfold Zb;rw[yH,ZFn]
theorem ZKq (a:ByteArray):okB (Zb a):=by
 intro x hx
 obtain⟨b,_,rfl⟩:=yD.1 hx
 have:=b.toNat_lt
 omega
theorem ZI8 (a:ByteArray):ZDD (Zb a)=a:=by
 have key:∀(l:List UInt8) (r:ByteArray),((l.map fun b=>(b.toNat:Int)).foldl (fun r n=>r.push (vQ n.toNat)) r).data.toList=r.data.toList++l:=by
  intro l
  induction l with
  |nil=>intro r;simp
  |cons b l ih=>simp_all
 refine ZCc ?_
 unfold ZDD Zb
 rw[key]
 rfl
noncomputable def ZLq :List ByteArray->ByteArray
 | []=>vK
 |x::r=>x++ZLq r
theorem ZA4 :∀xs:List ByteArray,(ZLq xs).size=(xs.map vL).sum
 | []=>rfl
 |x::r=>by rw[ZLq,ZM,ZA4 r];rfl
theorem ZFk {α β:Type}{a:List α}{g:α->ByteArray}{c:ByteArray->β}{L:β->Nat->Option β}{M:Nat}(h0:∀o k,¬k<a.length->L (c o) k=some (c o))
  (h1:∀o k (h:k<a.length),o.size+(g a[k]).size<=M->L (c o) k=L (c (o++g a[k])) (k+1)):
  ∀n k o,a.length-k=n->o.size+((a.drop k).map fun x=>(g x).size).sum<=M->L (c o) k=some (c (o++ZLq ((a.drop k).map g)))
 |0,k,o,hn,hs=>by
  have e:a.drop k=[]:=zX (by omega)
  rw[h0 o k (by omega),e,xG,ZLq,ZNm]
 |n+1,k,o,hn,hs=>by
  have hk:k<a.length:=by omega
  have e:a.drop k=a[k]::a.drop (k+1):=zW hk
  rw[e]at hs ⊢
  simp only[yA,yV]at hs
  rw[h1 o k hk (by omega),ZFk h0 h1 n (k+1) _ (by omega) (by rw[ZM];omega),yA,ZLq,ZAS]
theorem ZDa {α:Type}{a:List α}{g:α->ByteArray}{L:ByteArray->Nat->Option ByteArray}{M:Nat}(h0:∀o k,¬k<a.length->L o k=some o)
  (h1:∀o k (h:k<a.length),o.size+(g a[k]).size<=M->L o k=L (o++g a[k]) (k+1)) (o:ByteArray) (hs:o.size+(a.map fun x=>(g x).size).sum<=M):L o 0=some (o++ZLq (a.map g)):=by
 have:=ZFk (c:=id) (L:=L) h0 h1 a.length 0 o rfl (by rw[zY];exact hs)
 grind
theorem ZNw {α:Type}{f g:α->Nat}{xs:List α}(h:∀x,x∈xs->f x<=g x):(xs.map f).sum<=(xs.map g).sum:=by
 induction xs with
 |nil=>simp
 |cons x r ih=>grind
theorem ZKF {α:Type}(k m:Nat)(f:α->Nat)(xs:List α):(xs.map fun x=>k+m*f x).sum=k*xs.length+m*(xs.map f).sum:=by
 induction xs with
 |nil=>simp
 |cons x r ih=>simp only[yA,yV,yL,ih,zO,zV];omega
theorem z1a :(⟨#[46]⟩:ByteArray).size=1:=rfl
theorem z1b :(⟨#[118]⟩:ByteArray).size=1:=rfl
theorem z1c :(⟨#[32]⟩:ByteArray).size=1:=rfl
theorem z1d :(⟨#[61]⟩:ByteArray).size=1:=rfl
theorem z1e :(⟨#[45]⟩:ByteArray).size=1:=rfl
theorem z1f :(⟨#[10]⟩:ByteArray).size=1:=rfl
theorem z1g :(⟨#[35]⟩:ByteArray).size=1:=rfl
theorem z2a :(⟨#[32,35]⟩:ByteArray).size=2:=rfl
theorem z5a :(⟨#[116,101,115,116,32]⟩:ByteArray).size=5:=rfl
theorem z5b :(⟨#[116,97,107,101,32]⟩:ByteArray).size=5:=rfl
theorem z5c :(⟨#[102,97,105,108,10]⟩:ByteArray).size=5:=rfl
theorem z4a :(⟨#[102,97,105,108]⟩:ByteArray).size=4:=rfl
noncomputable def ZMy (x:Int):ByteArray:=⟨#[46]⟩++ZBE x
theorem ZLN {x:Int}(h:inR x):(ZMy x).size<=21:=by
 have:=ZO h
 unfold ZMy;rw[ZM,z1a];omega
noncomputable def ZJQ (p:List Int):ByteArray:=⟨#[118]⟩++ZLq (p.map ZMy)
theorem ZD0 {p:List Int}(h:∀x,x∈p->inR x):(p.map fun x=>(ZMy x).size).sum<=21*p.length:=by
 have h1:=ZNw (f:=fun x=>(ZMy x).size) (g:=fun _=>21+0*0) (xs:=p) fun x hx=>by have:=ZLN (h x hx);omega
 have h2:=ZKF 21 0 (fun _=>0) p
 omega
theorem ZBh {p:List Int}(h:∀x,x∈p->inR x):(ZJQ p).size<=1+21*p.length:=by
 have:=ZD0 h
 unfold ZJQ
 rw[ZM,z1b,ZA4,xA]
 exact Nat.add_le_add_left this 1
theorem P.YW {p:List Int}(h:∀x,x∈p->inR x)(hl:p.length<=10000000):F.f207 p=some (ZJQ p):=by
 have hd:=ZD0 h
 unfold F.f207
 rw[ZDa (a:=p) (g:=ZMy) (M:=1000000000) (L:=F.f206 p) (fun o k hk=>by rw[F.f206,iN hk]) (fun o k hk hs=>by
  have hx:=ZO (h _ (gM hk))
  unfold ZMy at hs ⊢
  rw[ZM,z1a]at hs
  rw[F.f206,iP hk,gQ hk]
  simp only[oE,oS,P.Yb (h _ (gM hk))]
  rw[iP (by rw[z1a];omega),iP (by rw[ZM,z1a];omega),ZAS]) _ (by rw[z1b];omega)]
 rfl
theorem P.Yc {p:List Int}(h:∀x,x∈p->inR x)(hl:p.length<=10000000):F.f202 p=some (ZJQ p):=by
 have hd:=ZD0 h
 unfold F.f202
 rw[ZDa (a:=p) (g:=ZMy) (M:=1000000000) (L:=F.f201 p) (fun o k hk=>by rw[F.f201,iN hk]) (fun o k hk hs=>by
  have hx:=ZO (h _ (gM hk))
  unfold ZMy at hs ⊢
  rw[ZM,z1a]at hs
  rw[F.f201,iP hk,gQ hk]
  simp only[oE,oS,P.YD (h _ (gM hk))]
  rw[iP (by rw[z1a];omega),iP (by rw[ZM,z1a];omega)]) _ (by rw[z1b];omega)]
 rfl
noncomputable def ZC1 (b:PathBind):ByteArray:=⟨#[32]⟩++ZBE b.var++⟨#[61]⟩++ZJQ b.path
theorem ZJx {b:PathBind}(h:b.Ok):(ZC1 b).size<=23+21*b.wt:=by
 have:=ZO h.var
 have:=ZBh h.path.2
 have e:b.wt=b.path.length:=ZBA b.path
 unfold ZC1
 simp only[ZM,z1c,z1d]
 omega
noncomputable def ZCa (bs:List PathBind):ByteArray:=ZLq (bs.map ZC1)
theorem ZA6 {bs:List PathBind}(h:∀b,b∈bs->b.Ok):(bs.map fun b=>(ZC1 b).size).sum<=23*wtL PathBind.wt bs:=by
 have h1:=ZNw (f:=fun b=>(ZC1 b).size) (g:=fun b=>23+21*b.wt) (xs:=bs) fun b hb=>ZJx (h b hb)
 have h2:=ZKF 23 21 PathBind.wt bs
 rw[ZDA,zO]
 omega
noncomputable def ZI9 (x:Step):ByteArray:=
 if x.op=1 then⟨#[116,101,115,116,32]⟩++ZJQ x.path++(if x.ctor= -1 then⟨#[32]⟩++ZBE x.n++⟨#[45]⟩++ZBE x.m else⟨#[32,35]⟩++ZBE x.ctor)++⟨#[32]⟩++ZBE x.to
 else if x.op=2 then⟨#[116,97,107,101,32]⟩++ZBE x.clause++ZCa x.binds++⟨#[32]⟩++ZBE x.to
 else⟨#[102,97,105,108]⟩
theorem ZEZ {x:Step}(h:x.Ok):(ZI9 x).size<=70+23*x.wt:=by
 have a1:=ZO h.ctor;have a2:=ZO h.n;have a3:=ZO h.m;have a4:=ZO h.to;have a5:=ZO h.clause
 have a6:=ZBh h.path.2
 have a7:=ZA6 h.binds.2
 have e1:x.wt=x.path.length+wtL PathBind.wt x.binds:=by unfold Step.wt;rw[ZBA]
 have e2:(ZCa x.binds).size=(x.binds.map fun b=>(ZC1 b).size).sum:=by unfold ZCa;rw[ZA4,xA];rfl
 unfold ZI9
 split
 ·split
  ·simp only[ZM,z5a,z1c,z1e];omega
  ·simp only[ZM,z5a,z1c,z2a];omega
 ·split
  ·simp only[ZM,z5b,z1c,e2];omega
  ·rw[z4a];omega
theorem P.YAa {x:Step}(h:∀b,b∈x.binds->b.Ok)(hw:wtL PathBind.wt x.binds<=10000000)(o:ByteArray)(ho:o.size<=1000):F.f209 x o 0=some (o++ZCa x.binds):=by
 have hd:=ZA6 h
 exact ZDa (a:=x.binds) (g:=ZC1) (M:=1000000000) (L:=F.f209 x) (fun o k hk=>by rw[F.f209,iN hk]) (fun o k hk hs=>by
  have hb:=h _ (gM hk)
  have hx:=ZO hb.var
  have hm:=Zt PathBind.wt (gM hk)
  have e:x.binds[k].wt=x.binds[k].path.length:=ZBA x.binds[k].path
  unfold ZC1 at hs ⊢
  simp only[ZM,z1c,z1d]at hs
  rw[F.f209,iP hk,gQ hk]
  simp only[oE,oS,P.YC hb.var,P.YW hb.path.2 (by omega)]
  rw[iP (by rw[z1c];omega),iP (by rw[ZM,z1c];omega),iP (by simp only[ZM,z1c,z1d];omega),iP (by simp only[ZM,z1c,z1d];omega)]
  simp only[ZAS]) o (by omega)
theorem P.YAe {x:Step}{l:List Step}{i:Nat}(h:∀b,b∈x.binds->b.Ok)(hw:wtL PathBind.wt x.binds<=10000000)(o:ByteArray)(ho:o.size+(x.binds.map fun b=>(ZC1 b).size).sum<=1000000000):F.f203 l i x (Zb o) 0=some (Zb (o++ZCa x.binds)):=by
 have hd:=ZA6 h
 have:=ZFk (c:=Zb) (a:=x.binds) (g:=ZC1) (M:=1000000000) (L:=F.f203 l i x) (fun o k hk=>by rw[F.f203,iN hk]) (fun o k hk hs=>by
  have hb:=h _ (gM hk)
  have hx:=ZO hb.var
  have hm:=Zt PathBind.wt (gM hk)
  have e:x.binds[k].wt=x.binds[k].path.length:=ZBA x.binds[k].path
  unfold ZC1 at hs ⊢
  simp only[ZM,z1c,z1d]at hs
  rw[F.f203,iP hk,gQ hk]
  simp only[oE,oS,P.YD hb.var,P.Yc hb.path.2 (by omega)]
  rw[iP (by rw[z1c];omega),iP (by rw[ZM,z1c,z1d];omega),iP (by simp only[ZM,z1c,z1d];omega),iP (by simp only[ZM,z1c,z1d,ZAN];omega),←ZAc]) x.binds.length 0 o rfl (by rw[zY];omega)
 rw[zY]at this
 exact this
theorem P.YAf {x:Step}(h:x.Ok)(hw:x.wt<=10000000):F.f210 x=some (ZI9 x):=by
 have a1:=ZO h.ctor;have a2:=ZO h.n;have a3:=ZO h.m;have a4:=ZO h.to;have a5:=ZO h.clause
 have a6:=ZBh h.path.2
 have a7:=ZA6 h.binds.2
 have e1:x.wt=x.path.length+wtL PathBind.wt x.binds:=by unfold Step.wt;rw[ZBA]
 have e2:(ZCa x.binds).size=(x.binds.map fun b=>(ZC1 b).size).sum:=by unfold ZCa;rw[ZA4,xA];rfl
 unfold F.f210 ZI9
 by_cases h1:x.op=1
 ·rw[iP h1,iP h1]
  by_cases hc:x.ctor= -1
  ·rw[iP hc,iP hc]
   simp only[oE,oS,P.YC h.n,P.YC h.m,P.YC h.to,P.YW h.path.2 (by omega)]
   rw[iP (by simp only[ZM,z5a];omega),iP (by simp only[ZM,z5a,z1c];omega),iP (by simp only[ZM,z5a,z1c];omega),iP (by simp only[ZM,z5a,z1c,z1e];omega),iP (by simp only[ZM,z5a,z1c,z1e];omega),
    iP (by simp only[ZM,z5a,z1c,z1e];omega),iP (by simp only[ZM,z5a,z1c,z1e];omega)]
   simp only[ZAS]
  ·rw[iN hc,iN hc]
   simp only[oE,oS,P.YC h.ctor,P.YC h.to,P.YW h.path.2 (by omega)]
   rw[iP (by simp only[ZM,z5a];omega),iP (by simp only[ZM,z5a,z2a];omega),iP (by simp only[ZM,z5a,z2a];omega),iP (by simp only[ZM,z5a,z1c,z2a];omega),iP (by simp only[ZM,z5a,z1c,z2a];omega)]
   simp only[ZAS]
 ·rw[iN h1,iN h1]
  by_cases h2:x.op=2
  ·rw[iP h2,iP h2]
   simp only[oE,oS,P.YC h.clause,P.YC h.to]
   rw[iP (by simp only[z5b];omega),P.YAa h.binds.2 (by omega) _ (by simp only[ZM,z5b];omega)]
   simp only[oS]
   rw[iP (by simp only[ZM,z5b,z1c,e2];omega),iP (by simp only[ZM,z5b,z1c,e2];omega)]
  ·rw[iN h2,iN h2]
noncomputable def ZFU (x:Step):ByteArray:=ZI9 x++⟨#[10]⟩
noncomputable def ZNY (l:List Step):ByteArray:=ZLq (l.map ZFU)
theorem ZGQ {l:List Step}(h:∀x,x∈l->x.Ok):(l.map fun x=>(ZFU x).size).sum<=71*wtL Step.wt l:=by
 have h1:=ZNw (f:=fun x=>(ZFU x).size) (g:=fun x=>71+23*x.wt) (xs:=l) fun x hx=>by
  have:=ZEZ (h x hx)
  unfold ZFU;rw[ZM,z1f];omega
 have h2:=ZKF 71 23 Step.wt l
 rw[ZDA,zO]
 omega
theorem P.YAX {l:List Step}(h:∀x,x∈l->x.Ok)(hw:wtL Step.wt l<=10000000):F.f212 l=some (ZNY l):=by
 have hd:=ZGQ h
 unfold F.f212
 rw[ZDa (a:=l) (g:=ZFU) (M:=1000000000) (L:=F.f211 l) (fun o k hk=>by rw[F.f211,iN hk]) (fun o k hk hs=>by
  have hb:=h _ (gM hk)
  have hm:=Zt Step.wt (gM hk)
  unfold ZFU at hs ⊢
  simp only[ZM,z1f]at hs
  rw[F.f211,iP hk,gQ hk]
  simp only[oE,oS,P.YAf hb (by omega)]
  rw[iP (by omega),iP (by simp only[ZM,z1f];omega),ZAS]) _ (by show 0+_<=_;omega),ZNf]
 rfl
theorem P.YAd {l:List Step}(h:∀x,x∈l->x.Ok)(hw:wtL Step.wt l<=10000000):F.f205 l=some (ZNY l):=by
 have hd:=ZGQ h
 have hll:=ZA9 Step.wt l
 unfold F.f205
 have key:=ZFk (c:=Zb) (a:=l) (g:=ZFU) (M:=800000000) (L:=F.f204 l) (fun o k hk=>by rw[F.f204,iN hk]) (fun o k hk hs=>by
  have h':=h _ (gM hk)
  have hm:=Zt Step.wt (gM hk)
  have hz:=ZEZ h'
  have e1:(l[k]).wt=(l[k]).path.length+wtL PathBind.wt (l[k]).binds:=by unfold Step.wt;rw[ZBA]
  have e2:(ZCa (l[k]).binds).size=((l[k]).binds.map fun b=>(ZC1 b).size).sum:=by unfold ZCa;rw[ZA4,xA];rfl
  have a1:=ZO h'.ctor;have a2:=ZO h'.n;have a3:=ZO h'.m;have a4:=ZO h'.to;have a5:=ZO h'.clause
  have a6:=ZBh h'.path.2
  have a7:=ZA6 h'.binds.2
  unfold ZFU at hs ⊢
  simp only[ZM,z1f]at hs
  rw[F.f204,iP hk,gQ hk]
  simp only[oE,oS]
  unfold ZI9 at hs ⊢
  by_cases h1:l[k].op=1
  ·rw[iP h1]at hs ⊢
   rw[iP h1]
   simp only[P.YD h'.ctor,oS]
   rw[iP (by rw[z1g];omega)]
   by_cases hc:l[k].ctor= -1
   ·rw[iP hc]at hs ⊢
    rw[iP hc]
    simp only[ZM,z5a,z1c,z1e]at hs
    simp only[oS,P.YD h'.n,P.YD h'.m,P.YD h'.to,P.Yc h'.path.2 (by omega)]
    rw[iP (by simp only[z1e];omega),iP (by simp only[ZM,z1e];omega),iP (by simp only[z5a];omega),iP (by simp only[ZM,z5a,z1c];omega),iP (by simp only[ZM,z5a,z1c,z1e];omega),iP (by simp only[ZM,z5a,z1c,z1e];omega),
     iP (by simp only[ZM,z5a,z1c,z1e];omega),iP (by simp only[ZM,z5a,z1c,z1e,z1f];omega),iP (by simp only[ZM,z5a,z1c,z1e,z1f,ZAN];omega),←ZAc]
    simp only[ZAS]
   ·rw[iN hc]at hs ⊢
    rw[iN hc]
    simp only[ZM,z5a,z1c,z2a]at hs
    simp only[oS,P.YD h'.to,P.Yc h'.path.2 (by omega)]
    rw[iP (by simp only[z5a];omega),iP (by simp only[ZM,z5a,z1c];omega),iP (by simp only[ZM,z5a,z1c,z1g];omega),iP (by simp only[ZM,z5a,z1c,z1g];omega),iP (by simp only[ZM,z5a,z1c,z1g];omega),
     iP (by simp only[ZM,z5a,z1c,z1g,z1f];omega),iP (by simp only[ZM,z5a,z1c,z1g,z1f,ZAN];omega),←ZAc]
    have e3:(⟨#[32,35]⟩:ByteArray)=⟨#[32]⟩++⟨#[35]⟩:=ZCc (by rw[ZCd];rfl)
    rw[e3]
    simp only[ZAS]
  ·rw[iN h1]at hs ⊢
   rw[iN h1]
   by_cases h2:l[k].op=2
   ·rw[iP h2]at hs ⊢
    rw[iP h2]
    simp only[ZM,z5b,z1c]at hs
    simp only[P.YD h'.clause,P.YD h'.to,oS]
    rw[iP (by simp only[z5b];omega),iP (by simp only[ZM,z5b,ZAN];omega),←ZAc,P.YAe h'.binds.2 (by omega) _ (by simp only[ZM,z5b];omega)]
    simp only[oS]
    rw[iP (by simp only[z1c];omega),iP (by simp only[ZM,z1c,z1f];omega),iP (by simp only[ZM,z5b,z1c,z1f,ZAN];omega),iP (by omega),←ZAc]
    simp only[ZAS]
   ·rw[iN h2]at hs ⊢
    rw[iN h2]
    rw[z4a]at hs
    rw[iP (by rw[z5c,ZAN];omega),←ZAc]
    rfl) l.length 0 vK rfl (by rw[zY];show 0+_<=_;omega)
 rw[ZGx]at key
 rw[key]
 simp only[oE,oS,zY,ZNf]
 rw[iP ⟨ZKq _,by
  rw[ZAN,ZA4,xA]
  show(l.map fun x=>(ZFU x).size).sum<=_
  omega⟩,ZI8]
 rfl
theorem ZFW {β:Type}(op:Int)(g:Pattern->List Int->List β)(path:List Int):∀(l:List Pattern) (i:Nat) (s:β),s∈ZAC op path i (l.map g)->∃(j:Nat) (h:j<l.length),s∈g l[j] (if op=4 then path++[((i+j:Nat):Int)]else path)
 | [],i,s,hs=>by simp[ZAC]at hs
 |k::r,i,s,hs=>by
  rw[yA,ZAC,yB]at hs
  rcases hs with hs|hs
  ·grind
  ·obtain⟨j,h,hj⟩:=ZFW op g path r (i+1) s hs
   exact⟨j+1,by simpa using h,by rw[show i+(j+1)=i+1+j by omega];simpa using hj⟩
def ZGE (p:List Int):Prop:=∀x,x∈p->0<=x/\x<=1048576
theorem ZEh {p:List Int}(h:ZGE p){j:Nat}(hj:j<=1048576):ZGE (p++[(j:Int)]):=by
 intro x hx
 rcases yB.1 hx with hx|hx
 ·exact h x hx
 ·grind
theorem ZIY {p:List Int}(h:ZGE p)(hl:p.length<=1048576):okL inR p:=⟨zF hl (by decide),fun x hx=>by have:=h x hx;exact⟨by omega,by omega⟩⟩
theorem ZRL {n:Int}(h: -9223372036854775808<=n)(h':n<=9223372036854775807):inR n:=⟨h,h'⟩
theorem ZLA :inR 0:=⟨by decide,by decide⟩
theorem ZSd :inR 1:=⟨by decide,by decide⟩
theorem ZSc :inR 2:=⟨by decide,by decide⟩
theorem ZSb :inR 3:=⟨by decide,by decide⟩
theorem ZSa :inR (-1):=⟨by decide,by decide⟩
theorem okN {α:Type}{Q:α->Prop}:okL Q []:=⟨zB _,fun x hx=>by cases hx⟩
theorem ZNl {w:List Data}:∀(d:Nat) (t:Ty) (p:Pattern),ZFu w d t p->∀path b,ZGE path->p.wt<=1048576->b∈p.bnd path->ZGE b.path
 |0,_,_,h,_,_,_,_,_=>h.elim
 |d+1,t,p,⟨h1,h5,hl,hk⟩,path,b,hp,hw,hb=>by
  rw[ZEA,yB]at hb
  rcases hb with hb|hb
  ·grind
  ·obtain⟨j,hj,hb⟩:=ZFW p.op Pattern.bnd path p.kids 0 b hb
   have hm:=Zt Pattern.wt (gM hj)
   have hlen:=ZA9 Pattern.wt p.kids
   rw[p.wt_eq]at hw
   refine ZNl d _ _ (hk j (by omega) hj) _ b ?_ (by omega) hb
   split
   ·exact ZEh hp (by omega)
   ·exact hp
theorem ZNU {w:List Data}(hwo:ZN w):∀(d:Nat) (t:Ty) (p:Pattern),ZY w t->ZFu w d t p->∀path s,ZGE path->p.wt<=1048576->s∈p.tst path->
  s.op=1/\s.binds=[]/\s.clause=0/\ZGE s.path/\s.path.length<=path.length+p.wt/\inR s.ctor/\inR s.n/\inR s.m
 |0,_,_,_,h,_,_,_,_,_=>h.elim
 |d+1,t,p,ht,⟨h1,h5,hl,hk⟩,path,s,hp,hw,hs=>by
  have hw':=hw
  rw[p.wt_eq]at hw'
  have hlen:=ZA9 Pattern.wt p.kids
  rw[ZFx,yB]at hs
  rcases hs with hs|hs
  ·split at hs
   ·next h3=>
    rw[yO.1 hs]
    have hn:0<=p.n/\p.n<=p.m/\p.m<=9:=by unfold ZAw at h1;omega
    exact⟨rfl,rfl,rfl,hp,zR _ _,ZSa,ZRL (n:=p.n) (by omega) (by omega),ZRL (n:=p.m) (by omega) (by omega)⟩
   ·split at hs
    ·next h3 h4=>
     rw[yO.1 hs]
     have hc:p.ctor∈ZT w t:=by
      rcases h1 with h|h|h|h|h|h
      all_goals grind
     obtain⟨c0,c1,c2⟩:=ZX hc
     have hcs:=(Zl hwo (ZBQ ht.1) c0).1
     exact⟨rfl,rfl,rfl,hp,zR _ _,ZRL (n:=p.ctor) (by omega) (by omega),ZLA,ZLA⟩
    ·cases hs
  ·obtain⟨j,hj,hs⟩:=ZFW p.op Pattern.tst path p.kids 0 s hs
   have hm:=Zt Pattern.wt (gM hj)
   have hq:ZGE (if p.op=4 then path++[((0+j:Nat):Int)]else path):=by
    split
    ·exact ZEh hp (by omega)
    ·exact hp
   have hql:(if p.op=4 then path++[((0+j:Nat):Int)]else path).length<=path.length+1:=by split<;>simp
   have hj':j<(ZF w t p).length:=by omega
   obtain⟨a1,a2,a3,a4,a5,a6⟩:=ZNU hwo d _ _ (ZAb hwo ht h1 _ (gM hj')) (hk j hj' hj) _ s hq (by omega) hs
   exact⟨a1,a2,a3,a4,by rw[p.wt_eq];omega,a6⟩
theorem ZBe {α:Type}(f:α->Nat)(a b:List α):wtL f (a++b)=wtL f a+wtL f b:=by
 simp only[ZDA,zZ,yN,List.sum_append_nat]
 omega
theorem ZE9 {α:Type}{f:α->Nat}{k:Nat}:∀{l:List α},(∀x,x∈l->f x<=k)->wtL f l<=l.length*(1+k)
 | [],_=>by simp
 |x::r,h=>by
  have h1:=h x (yJ ..)
  have h2:=ZE9 (l:=r) fun y hy=>h y (yE _ hy)
  rw[ZAQ,yL,zE]
  omega
def ZOI (w:List Data)(q:Pattern):Prop:=q.wt<=60/\∃d t,ZY w t/\ZFu w d t q
theorem ZLy {w:List Data}{q:Pattern}(h:ZOI w q){i:Nat}(hi:i<=1000){e:Int}(he:inR e):(ZI6 i q e).Ok/\(ZI6 i q e).wt<=61*61:=by
 obtain⟨hw,d,t,ht,hs⟩:=h
 have hb:∀b,b∈q.bnd []->b.Ok/\b.wt<=60:=fun b hb=>by
  have h1:=ZH6 d t q hs [] b hb
  have h2:=ZNl d t q hs [] b (fun x hx=>by cases hx) (by omega) hb
  have h3:=ZIq q [] b hb
  simp only[yK]at h3
  have e:b.wt=b.path.length:=ZBA b.path
  exact⟨⟨⟨by omega,by omega⟩,ZIY h2 (by omega)⟩,by omega⟩
 have hl:=ZD9 q []
 have hl2:(sortI (fun x:PathBind=>x.var) (q.bnd [])).length=(q.bnd []).length:=ZDg _
 have hm:∀b,b∈sortI (fun x:PathBind=>x.var) (q.bnd [])->b∈q.bnd []:=fun b hb=>ZDf.1 hb
 refine⟨⟨ZSc,okN,ZLA,ZLA,ZLA,ZRL (n:=(i:Int)) (by omega) (by omega),⟨?_,fun b h=>(hb b (hm b h)).1⟩,he⟩,?_⟩
 ·show(sortI (fun x:PathBind=>x.var) (q.bnd [])).length<=_
  rw[hl2];exact zF hl (zF (show 1+q.wt<=61 by omega) (by decide))
 ·have:=ZE9 (f:=PathBind.wt) (k:=60) (l:=sortI (fun x:PathBind=>x.var) (q.bnd [])) fun b h=>(hb b (hm b h)).2
  show wtL (fun _=>0) ([]:List Int)+wtL PathBind.wt (sortI (fun x:PathBind=>x.var) (q.bnd []))<=_
  rw[hl2]at this
  have h9:(q.bnd []).length*(1+60)<=61*61:=zK (by omega) (zA _)
  simp only[ZDb]
  omega
theorem ZGF {w:List Data}(hwo:ZN w)(g:Nat->Int)(hg:∀m,inR (g m))(i:Nat)(hi:i<=1000):∀(qs:List Pattern) (n:Nat),(∀q,q∈qs->ZOI w q)->n+(ZP g i n qs).length<=1000000000->
  (∀s,s∈ZP g i n qs->s.Ok)/\wtL Step.wt (ZP g i n qs)<=qs.length*8000
 | [],n,_,_=>⟨fun s hs=>(by cases hs),by simp[ZP]⟩
 |q::r,n,h,hn=>by
  have hq:=h q (yJ ..)
  obtain⟨hw,d,t,ht,hs⟩:=hq
  have hl:=ZCh q []
  have hlen:(ZP g i n (q::r)).length=(q.tst []).length+1+(ZP g i (n+(q.tst []).length+1) r).length:=by simp[ZP];omega
  obtain⟨r1,r2⟩:=ZGF hwo g hg i hi r (n+(q.tst []).length+1) (fun q hq=>h q (yE _ hq)) (by omega)
  obtain⟨k1,k2⟩:=ZLy (h q (yJ ..)) hi (hg (n+(q.tst []).length+1))
  have hto:inR ((n+(q.tst []).length+1:Nat):Int):=⟨by omega,by omega⟩
  have hts:∀s,s∈(q.tst []).map (toS ((n+(q.tst []).length+1:Nat):Int))->s.Ok/\s.wt<=60:=fun s hs'=>by
   obtain⟨s0,h0,rfl⟩:=yD.1 hs'
   obtain⟨a1,a2,a3,a4,a5,a6,a7,a8⟩:=ZNU hwo d t q ht hs [] s0 (fun x hx=>by cases hx) (zF hw (by decide)) h0
   simp only[yK]at a5
   refine⟨⟨?_,ZIY a4 (show s0.path.length<=1048576 by omega),a6,a7,a8,?_,?_,hto⟩,?_⟩
   ·show inR s0.op;rw[a1];exact ZSd
   ·show inR s0.clause;rw[a3];exact ZLA
   ·show okL PathBind.Ok s0.binds;rw[a2];exact okN
   ·show wtL (fun _=>0) s0.path+wtL PathBind.wt s0.binds<=60
    rw[a2,ZBA,ZDb];exact zF a5 (by omega)
  refine⟨fun s hs'=> ?_,?_⟩
  ·rw[ZP,yB,yB]at hs'
   grind
  ·have u:=ZE9 (f:=Step.wt) (k:=60) fun s hs'=>(hts s hs').2
   rw[yH]at u
   have h9:(q.tst []).length*(1+60)<=61*61:=zK (by omega) (zA _)
   rw[ZP,ZBe,ZBe,ZAQ,ZDb,yL,zE]
   omega
theorem ZIo {w:List Data}(hwo:ZN w):∀(vs:List (List Pattern)) (i:Nat) (o:List Step),(∀x,x∈vs->x.length<=40/\∀q,q∈x->ZOI w q)->i+vs.length<=1000->o.length+vs.length*40000<=500000000->(∀s,s∈o->s.Ok)->
  (∀s,s∈ZAn i o vs->s.Ok)/\wtL Step.wt (ZAn i o vs)<=wtL Step.wt o+vs.length*320000
 | [],i,o,_,_,_,ho=>⟨ho,by simp[ZAn]⟩
 |x::r,i,o,h,hi,hb,ho=>by
  obtain⟨h1,h2⟩:=h x (yJ ..)
  rw[yL]at hi hb
  have h900:∀q,q∈x->q.wt<=900:=fun q hq=>by have:=(h2 q hq).1;omega
  have hcl:=ZFj (i:=i) (o:=o) h900
  have hpl:=ZCQ (fun _=>0) i x o.length h900
  have hpl2:=ZCQ (fun _=>((o.length+(ZP (fun _=>0) i o.length x).length:Nat):Int)) i x o.length h900
  obtain⟨p1,p2⟩:=ZGF hwo (fun _=>((o.length+(ZP (fun _=>0) i o.length x).length:Nat):Int)) (fun m=>⟨by show _<=((_:Nat):Int);omega,by show((_:Nat):Int)<=_;omega⟩) i (by omega) x o.length h2 (by omega)
  have ho2:∀s,s∈clS i o x->s.Ok:=fun s hs=>by
   rw[clS,yB]at hs
   grind
  obtain⟨q1,q2⟩:=ZIo hwo r (i+1) (clS i o x) (fun y hy=>h y (yE _ hy)) (by omega) (by omega) ho2
  refine⟨q1,?_⟩
  have hw:wtL Step.wt (clS i o x)<=wtL Step.wt o+320000:=by
   rw[clS,ZBe]
   grind
  rw[ZAn,yL,zE]
  omega
theorem ZMo :ZGj.Ok:=⟨ZSb,okN,ZLA,ZLA,ZLA,ZLA,okN,ZLA⟩
theorem ZLP {w:List Data}{t:Ty}{l:List Clause}(hc:ZMz w t l)(hpat:∀c,c∈l->ZBD w t c.pat)(ha:∀c,c∈l->c.pat.alts<=40):
  (∀s,s∈ZAn 0 [] (l.map fun c=>c.pat.splits)++[ZGj]->s.Ok)/\wtL Step.wt (ZAn 0 [] (l.map fun c=>c.pat.splits)++[ZGj])<=10000000:=by
 have hl8:=hc.2.1
 obtain⟨h1,h2⟩:=ZIo hc.1.1 (l.map fun c=>c.pat.splits) 0 [] (fun x hx=>by
  obtain⟨c,h,rfl⟩:=yD.1 hx
  have hpo:=hpat c h
  refine⟨by rw[ZAE];exact ha c h,fun q hq=> ?_⟩
  obtain⟨s1,_,s3⟩:=ZBR 10 t c.pat hpo.1 hpo.2.1 q hq
  have:=hpo.2.2
  exact⟨by omega,10,t,hc.1.2,s1⟩) (by rw[yH];omega) (by rw[yH,yK];omega) (fun s hs=>by cases hs)
 rw[yH,ZDb]at h2
 refine⟨fun s hs=> ?_,?_⟩
 ·rcases yB.1 hs with hs|hs
  ·exact h1 s hs
  ·rw[yO.1 hs];exact ZMo
 ·have e:ZGj.wt=0:=by simp[ZGj,Step.wt]
  rw[ZBe,ZAQ,ZDb,e]
  omega
theorem P.YAB (w:List Data)(hw:ZAU w)(t:Ty)(l:List Clause)(hp:∀c,c∈l->c.pat.wt<=1048576)(hpat:ZMz w t l->∀c,c∈l->ZBD w t c.pat):∃r b,F.f199 w t l=some (r,b)/\(b=false->r=[])/\
  (b=true->ZMz w t l/\(∀c,c∈l->c.pat.alts<=40)/\r=ZAn 0 [] (l.map fun c=>c.pat.splits)++[ZGj]):=by
 unfold F.f199
 rw[P.YH w hw t l hp]
 simp only[oE,oS]
 by_cases hc:ZMz w t l
 ·have hpc:=hpat hc
  have hl8:l.length<=8:=hc.2.1
  rw[ZG hc,iP rfl]
  have h1:∀c,c∈l->F.f181 c.pat=some (c.pat.splits.take 401):=fun c h=>P.YY w 10 t c.pat (hpc c h).1 (hp c h)
  rw[P.YJ l h1 _ 0 rfl,zY]
  by_cases ha:∀c,c∈l->c.pat.alts<=40
  ·rw[iP ha]
   simp only[oS]
   have hq:∀c,c∈l->∀q,q∈c.pat.splits->ZGG q/\∃d u,ZFu w d u q:=fun c h q hq=>by
    obtain⟨s1,s2,s3⟩:=ZBR 10 t c.pat (hpc c h).1 (hpc c h).2.1 q hq
    have:=(hpc c h).2.2
    exact⟨⟨by omega,ZDE (hpc c h).1 (hpc c h).2.1 hq []⟩,10,t,s1⟩
   have hlen:∀c,c∈l->c.pat.splits.length<=40:=fun c h=>by rw[ZAE];exact ha c h
   have e2:=P.Yh w l (fun c h=>⟨by rw[h1 c h,yC (by have:=hlen c h;omega)],hlen c h,hq c h⟩) (by omega) _ 0 [] rfl (by simp;omega)
   have cl:=ZD3 (l.map fun c=>c.pat.splits) 0 [] fun x hx=>by
    obtain⟨c,h,rfl⟩:=yD.1 hx
    exact⟨hlen c h,fun q hq'=>(hq c h q hq').1.1⟩
   rw[yH,yK]at cl
   unfold F.f197
   rw[e2,zY]
   simp only[oE,oS]
   rw[iP (by omega)]
   exact⟨_,_,rfl,fun h=>(by cases h),fun _=>⟨hc,ha,rfl⟩⟩
  ·rw[iN ha]
   simp_all
 ·simp_all
def ZOs (o:List Step):Prop:=∀k (h:k<o.length),(o[k].op=1∨o[k].op=2)/\(k:Int)<o[k].to/\o[k].to<=(o.length:Int)
theorem ZEi (g:Nat->Int)(i:Nat)(e:Nat)(hg:∀m,g m=(e:Int)):∀(qs:List Pattern) (n:Nat),n+(ZP g i n qs).length<=e->∀k (h:k<(ZP g i n qs).length),
  ((ZP g i n qs)[k].op=1∨(ZP g i n qs)[k].op=2)/\((n+k:Nat):Int)<(ZP g i n qs)[k].to/\(ZP g i n qs)[k].to<=(e:Int)
 | [],n,he,k,h=>by simp[ZP]at h
 |q::r,n,he,k,h=>by
  have hlen:(ZP g i n (q::r)).length=(q.tst []).length+1+(ZP g i (n+(q.tst []).length+1) r).length:=by simp[ZP];omega
  rw[hlen]at he h
  by_cases h1:k<(q.tst []).length
  ·have e1:(ZP g i n (q::r))[k]'(by rw[hlen];omega)=toS ((n+(q.tst []).length+1:Nat):Int) ((q.tst [])[k]):=by
    simp only[ZP]
    grind
   rw[e1]
   exact⟨.inl (ZNT q [] ((q.tst [])[k]) (gM h1)),by show _<((_:Nat):Int);omega,by show((_:Nat):Int)<=_;omega⟩
  ·by_cases h2:k=(q.tst []).length
   ·have e1:(ZP g i n (q::r))[k]'(by rw[hlen];omega)=ZI6 i q (g (n+(q.tst []).length+1)):=by
     simp only[ZP]
     grind
    rw[e1]
    exact⟨.inr rfl,by show _<g _;rw[hg];omega,by show g _<=_;rw[hg];omega⟩
   ·have hk:k- ((q.tst []).length+1)<(ZP g i (n+(q.tst []).length+1) r).length:=by omega
    have e1:(ZP g i n (q::r))[k]'(by rw[hlen];omega)=(ZP g i (n+(q.tst []).length+1) r)[k- ((q.tst []).length+1)]:=by
     simp only[ZP]
     grind
    rw[e1]
    obtain⟨a1,a2,a3⟩:=ZEi g i e hg r (n+(q.tst []).length+1) (by omega) _ hk
    exact⟨a1,by omega,a3⟩
theorem ZMe {o p:List Step}(h:ZOs o)(hp:∀k (h:k<p.length),(p[k].op=1∨p[k].op=2)/\((o.length+k:Nat):Int)<p[k].to/\p[k].to<=((o.length+p.length:Nat):Int)):ZOs (o++p):=by
 intro k hk
 have hk':=hk
 rw[zZ]at hk'
 by_cases h1:k<o.length
 ·rw[xM h1]
  obtain⟨a1,a2,a3⟩:=h k h1
  grind
 ·grind
theorem ZPJ (i:Nat){o:List Step}(x:List Pattern)(h:ZOs o):ZOs (clS i o x):=by
 have hlen:=ZCo (fun _=>((o.length+(ZP (fun _=>0) i o.length x).length:Nat):Int)) (fun _=>0) i x o.length
 refine ZMe h fun k hk=> ?_
 rw[hlen]
 exact ZEi (fun _=>((o.length+(ZP (fun _=>0) i o.length x).length:Nat):Int)) i (o.length+(ZP (fun _=>0) i o.length x).length) (fun _=>rfl) x o.length (by omega) k hk
theorem ZGs :∀(vs:List (List Pattern)) (i:Nat) (o:List Step),ZOs o->ZOs (ZAn i o vs)
 | [],_,_,h=>h
 |x::r,i,o,h=>ZGs r (i+1) (clS i o x) (ZPJ i x h)
end Go.Vl
