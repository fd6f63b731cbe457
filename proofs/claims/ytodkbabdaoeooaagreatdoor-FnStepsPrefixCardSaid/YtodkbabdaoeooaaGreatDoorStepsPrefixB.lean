import Derived.Test.YtodkbabdaoeooaaGreatDoorStepsPrefixE
set_option linter.all false
set_option maxRecDepth 100000
open Option.some renaming inj->zA
open Nat renaming le_refl->zB,zero_le->zC,mul_le_mul_right->zD,sub_self->zE,add_mul->zF,le_trans->zG,mul_le_mul_left->zH,pow_succ->zI,one_mul->zJ,min_eq_left->zK,mul_le_mul->zL,zero_add->zM,min_eq_right->zN,mul_assoc->zO,mul_add->zP,eq_zero_or_pos->zQ,lt_trichotomy->zR,le_add_right->zS,succ_mul->zT,sub_zero->zU,lt_trans->zV,mul_one->zW
open List renaming drop_eq_getElem_cons->zX,drop_eq_nil_of_le->zY,drop_zero->zZ,length_append->yA,map_cons->yB,mem_append->yC,take_of_length_le->yD,mem_map->yE,mem_cons_of_mem->yF,flatMap_cons->yG,getElem_of_mem->yH,length_map->yI,length_cons->yJ,append_assoc->yK,mem_cons_self->yL,length_nil->yM,nil_append->yN,map_append->yO,mem_singleton->yP,getD_eq_getElem?_getD->yQ,mem_take_iff_getElem->yR,take_append->yS,length_take->yT,exists_cons_of_length_pos->yU,mem_flatMap->yV,sum_cons->yW,mem_cons->yX,nodup_cons->yY,foldl_cons->yZ,zip_cons_cons->xA,map_map->xB,getElem_map->xC,mem_filter->xD,mem_iff_getElem->xE,take_succ_cons->xF,take_succ_eq_append_getElem->xG,map_nil->xH,all_eq_true->xI,take_take->xJ,take_left->xK,drop_left->xL,getElem_append_right->xM,sizeOf_lt_of_mem->xN,mem_append_right->xO,mem_of_mem_take->xP,mem_of_mem_drop->xQ,mem_append_left->xR,length_pos_iff->xS,range->xT,append_of_mem->xU,range'_succ->xV,perm_middle->xW,not_mem_nil->xX,cons_append->xY,length_zip->xZ,append_nil->vA,map_take->vB,length->vC
open Classical renaming byContradiction->vD
open Int renaming eq_ofNat_of_zero_le->vE,toNat_of_nonneg->vF,le_refl->vG,tmod_lt_of_pos->vH,tdiv_le_self->vI,tmod_nonneg->vJ,tdiv_nonneg->vK
open ByteArray renaming empty->vL,size->vM,data_append->vN
open Bool renaming false_eq_true->vO,and_eq_true->vP,or_eq_true->vQ
open UInt8 renaming ofNat->vR
namespace Go.Vl
open Go Go.RowKit
open F renaming f53->vS,f109->vT,f108->vU,f135->vV,f74->vW,f38->vX,f137->vY,f100->vZ,f68->uA,f95->uB,f82->uC,f80->uD,f59->uE,f55->uF,f22->uG,f20->uH,f19->uI,f18->uJ,f16->uK,f149->uL,f148->uM,f143->uN,f133->uO,f131->uP,f13->uQ,f128->uR,f124->uS,f115->uT,f1->uU,f84->uV,f78->uW,f76->uX,f73->uY,f71->uZ,f70->kA,f64->kB,f61->kC,f56->kD,f180->kE,f174->kF,f151->kG,f121->kH,f120->kI,f117->kJ,f104->kK,f94->kL,f91->kM,f89->kN,f87->kO,f86->kP,f83->kQ,f79->kR,f72->kS,f60->kT,f57->kU,f48->kV,f41->kW,f24->kX,f23->kY
open E renaming f53_le->kZ
open Go.IntKind (i64)
theorem oS {α β:Type}{a:α}{f:α->Option β}:(some a).bind f=f a:=rfl
theorem oE {α β:Type}:(bind:Option α->(α->Option β)->Option β)=Option.bind:=rfl
theorem gQ {α:Type}{l:List α}{i:Nat}(h:i<l.length):l[i]? =some l[i]:=List.getElem?_eq_getElem h
theorem gM {α:Type}{l:List α}{n:Nat}(h:n<l.length):l[n]∈l:=List.getElem_mem h
noncomputable def ZG5 {α:Type}(p:α->Prop):Nat->List α->Option Nat
 |_,[]=>none
 |k,x::r=>if dec (p x)=true then some k else ZG5 p (k+1) r
theorem ZA3 {α:Type}{p:α->Prop}:∀{l:List α} {k j:Nat},ZG5 p k l=some j->k<=j/\∃h:j-k<l.length,p l[j-k]/\∀i (hi:i<l.length),i<j-k->¬p l[i]
 |x::r,k,j,h=>by
  simp only[ZG5]at h
  split at h
  ·next hp=>
   obtain rfl:=zA h
   refine⟨zB _,by simp,?_,fun i _ hi=>by omega⟩
   simpa using ZDz.1 hp
  ·next hp=>
   obtain⟨h1,h2,h3,h4⟩:=ZA3 h
   have e:j-k=(j- (k+1))+1:=by omega
   refine⟨by omega,by simp;omega,?_,fun i hi hlt=> ?_⟩
   ·simp only[e,List.getElem_cons_succ];exact h3
   ·cases i with
    |zero=>exact fun hq=>hp (ZG hq)
    |succ i=>exact h4 i (by simpa using hi) (by omega)
theorem ZA4 {α:Type}{p:α->Prop}:∀{l:List α} {k:Nat},ZG5 p k l=none->∀x,x∈l->¬p x
 | [],_,_=>fun x hx=>by cases hx
 |x::r,k,h=>by
  simp only[ZG5]at h
  split at h
  ·cases h
  ·next hp=>
   intro y hy
   rcases yX.1 hy with rfl|hy
   ·exact fun hq=>hp (ZG hq)
   ·exact ZA4 h y hy
theorem ZMl {α:Type}{a:List α}{p:α->Prop}{L:Nat->Option (Lo Int Unit)}(h0:∀k,a.length<=k->L k=some (.go ()))(h1:∀k (h:k<a.length),¬p a[k]->L k=L (k+1))
  (h2:∀k (h:k<a.length),p a[k]->L k=some (.ret (k:Int))):∀(m k:Nat),a.length-k=m->L k=some (match ZG5 p k (a.drop k)with|some j=>.ret (j:Int)|none=>.go ()):=by
 intro m
 induction m with
 |zero=>intro k hm;rw[h0 k (by omega),zY (by omega)];rfl
 |succ m ih=>
  intro k hm
  have hk:k<a.length:=by omega
  rw[zX hk]
  by_cases hp:p a[k]
  ·rw[h2 k hk hp];simp only[ZG5];rw[iP (ZG hp)]
  ·rw[h1 k hk hp,ih (k+1) (by omega)];simp only[ZG5];rw[iN (by rw[ZE hp];simp)]
def ZPV (c:Nat):Prop:=65<=c/\c<=90
def ZFe (s:ByteArray):Prop:=s.size=1/\ZPV (byteAt s 0)/\s≠⟨#[73]⟩
def ZGL (s:ByteArray):Prop:=1<=s.size/\s.size<=5/\ZPV (byteAt s 0)/\∀i,1<=i->i<s.size->97<=byteAt s i/\byteAt s i<=122
def ZBq (n:Nat)(t:Ty):Prop:=(t.data= -1/\t.index=0)∨(0<=t.data/\t.data<n/\-1<=t.index/\t.index<=3)
def ZEy (n:Nat)(c:Ctor):Prop:=ZGL c.name/\c.args.length<=3/\0<=c.index/\c.index<=3/\∀j,0<=j->(h:j<c.args.length)->ZBq n c.args[j]
theorem P.Yr (c:Nat):F.f11 c=some (dec (ZPV c)):=by
 unfold F.f11
 by_cases h:65<=(c:Int)
 ·rw[iP h];congr 1;rw[←ZAM];exact ZL ⟨fun h'=>⟨by omega,by omega⟩,fun h'=>by have:=h'.2;omega⟩
 ·rw[iN h,ZE fun h'=>h (by have:=h'.1;omega)]
theorem P.YAb (s:ByteArray):F.f12 s=some (dec (ZFe s)):=by
 unfold F.f12
 by_cases h:s.size=1
 ·rw[iP h,iP (by omega),P.Yr]
  simp only[oE,oS]
  by_cases hb:ZPV (byteAt s 0)
  ·rw[iP (ZG hb)];congr 1;rw[←ZAM];exact ZL ⟨fun h'=>⟨h,hb,fun e=>h' (by rw[e])⟩,fun h' e=>h'.2.2 (ZAZ.1 e)⟩
  ·rw[iN (by rw[ZE hb];simp),ZE fun h'=>hb h'.2.1]
 ·rw[iN h,ZE fun h'=>h h'.1]
theorem P.YAQ (s:ByteArray)(hs:s.size<=1048576):uQ s 1=some (if dec (∀i,1<=i->i<s.size->97<=byteAt s i/\byteAt s i<=122)=true then .go ()else .ret false):=by
 refine ZJ8 (L:=uQ s) (fun k hk=> ?_) (fun k hk hq=> ?_) (fun k hk hq=> ?_) _ 1 rfl
 ·rw[uQ,iN (by omega)]
 ·rw[uQ,iP hk,iN (by omega),iN (by omega),iP (by omega)]
 ·rw[uQ,iP hk]
  by_cases h:byteAt s k<97
  ·rw[iP h]
  ·rw[iN h,iP (by omega)]
theorem P.YAT (s:ByteArray)(hs:s.size<=1048576):vZ s 1=some (if dec (∀i,1<=i->i<s.size->97<=byteAt s i/\byteAt s i<=122)=true then .go ()else .ret false):=by
 refine ZJ8 (L:=vZ s) (fun k hk=> ?_) (fun k hk hq=> ?_) (fun k hk hq=> ?_) _ 1 rfl
 ·rw[vZ,iN (by omega)]
 ·rw[vZ,iP hk,iN (by omega),iN (by omega),iP (by omega)]
 ·rw[vZ,iP hk]
  by_cases h:byteAt s k<97
  ·rw[iP h]
  ·rw[iN h,iP (by omega)]
theorem P.Yt (s:ByteArray)(hs:s.size<=1048576):F.f14 s=some (dec (ZGL s)):=by
 unfold F.f14
 by_cases h0:s.size=0
 ·rw[iP h0,ZE fun h=>by have:=h.1;omega]
 by_cases h5:5<s.size
 ·rw[iN h0,iP h5,ZE fun h=>by have:=h.2.1;omega]
 rw[iN h0,iN h5,iP (by omega),P.Yr]
 simp only[oE,oS]
 by_cases hb:ZPV (byteAt s 0)
 ·rw[iP (ZG hb),P.YAQ s hs]
  simp only[oS]
  by_cases hall:∀i,1<=i->i<s.size->97<=byteAt s i/\byteAt s i<=122
  ·rw[iP (ZG hall),ZG ⟨by omega,by omega,hb,hall⟩]
  ·rw[iN (by rw[ZE hall];simp),ZE fun h=>hall h.2.2.2]
 ·rw[iN (by rw[ZE hb];simp),ZE fun h=>hb h.2.2.1]
theorem P.YJ (n low high:Int):F.f99 n low high=some (dec (low<=n/\n<=high)):=by
 unfold F.f99
 by_cases h:low<=n
 ·rw[iP h];congr 1;rw[←ZAM];exact ZL ⟨fun h'=>⟨h,h'⟩,fun h'=>h'.2⟩
 ·rw[iN h,ZE fun h'=>h h'.1]
theorem P.Yz (s:ByteArray)(hs:s.size<=1048576):F.f101 s=some (dec (ZGL s)):=by
 unfold F.f101
 rw[P.YJ]
 simp only[oE,oS]
 by_cases h0:1<=(s.size:Int)/\(s.size:Int)<=5
 ·rw[iP (ZG h0),iP (by omega)]
  by_cases a1:byteAt s 0<65
  ·rw[iP a1,ZE fun h=>by have:=h.2.2.1.1;omega]
  by_cases a2:90<byteAt s 0
  ·rw[iN a1,iP a2,ZE fun h=>by have:=h.2.2.1.2;omega]
  rw[iN a1,iN a2,P.YAT s hs]
  simp only[oS]
  by_cases hall:∀i,1<=i->i<s.size->97<=byteAt s i/\byteAt s i<=122
  ·rw[iP (ZG hall),ZG ⟨by omega,by omega,⟨by omega,by omega⟩,hall⟩]
  ·rw[iN (by rw[ZE hall];simp),ZE fun h=>hall h.2.2.2]
 ·rw[iN (by rw[ZE h0];simp),ZE fun h=>h0 ⟨by have:=h.1;omega,by have:=h.2.1;omega⟩]
theorem P.YY (n:Nat)(t:Ty):F.f15 n t=some (dec (ZBq n t)):=by
 unfold F.f15
 by_cases h:t.data= -1
 ·rw[iP h];congr 1;rw[←ZAM];exact ZL ⟨fun h'=>.inl ⟨h,h'⟩,fun h'=>h'.elim (·.2) (fun h'=>by have:=h'.1;omega)⟩
 rw[iN h]
 by_cases h1:0<=t.data
 ·by_cases h2:t.data<n
  ·by_cases h3: -1<=t.index
   ·rw[iP h1,iP h2,iP h3];congr 1;rw[←ZAM];exact ZL ⟨fun h'=>.inr ⟨h1,h2,h3,h'⟩,fun h'=>h'.elim (fun h'=>absurd h'.1 h) (fun h'=>h'.2.2.2)⟩
   ·rw[iP h1,iP h2,iN h3,ZE fun h'=>h'.elim (fun h'=>h h'.1) (fun h'=>h3 h'.2.2.1)]
  ·rw[iP h1,iN h2,ZE fun h'=>h'.elim (fun h'=>h h'.1) (fun h'=>h2 h'.2.1)]
 ·rw[iN h1,ZE fun h'=>h'.elim (fun h'=>h h'.1) (fun h'=>h1 h'.1)]
theorem P.YAm (w:List Data)(t:Ty)(hw:w.length<=1048576):F.f102 w t=some (dec (ZBq w.length t)):=by
 unfold F.f102
 by_cases h:eq2 (t.data,t.index) (-1,0)
 ·rw[iP (ZG h),ZG (.inl h)]
 rw[iN (by rw[ZE h];simp),P.YJ,ZD (by omega) (by omega)]
 simp only[oE,oS]
 by_cases h1:0<=t.data/\t.data<=(w.length:Int) -1
 ·rw[iP (ZG h1),P.YJ]
  simp only[oS]
  congr 1;exact ZL ⟨fun h'=>.inr ⟨h1.1,by omega,h'.1,h'.2⟩,fun h'=>h'.elim (fun h'=>absurd h' h) (fun h'=>h'.2.2)⟩
 ·rw[iN (by rw[ZE h1];simp),ZE fun h'=>h'.elim (fun h'=>h h') (fun h'=>h1 ⟨h'.1,by have:=h'.2.1;omega⟩)]
theorem P.Yk (n:Nat)(c:Ctor)(hs:c.name.size<=1048576):F.f17 n c=some (dec (ZEy n c)):=by
 unfold F.f17
 rw[P.Yt _ hs]
 simp only[oE,oS]
 by_cases h1:ZGL c.name
 ·rw[iP (ZG h1)]
  by_cases h2:3<c.args.length
  ·rw[iP h2,ZE fun h=>by have:=h.2.1;omega]
  by_cases h3:c.index<0
  ·rw[iN h2,iP h3,ZE fun h=>by have:=h.2.2.1;omega]
  by_cases h4:3<c.index
  ·rw[iN h2,iN h3,iP h4,ZE fun h=>by have:=h.2.2.2.1;omega]
  rw[iN h2,iN h3,iN h4]
  have key:uK n c 0=some (if dec (∀j,0<=j->j<c.args.length->∀h:j<c.args.length,ZBq n c.args[j])=true then .go ()else .ret false):=by
   refine ZJ8 (n:=c.args.length) (Q:=fun j=>∀h:j<c.args.length,ZBq n c.args[j]) (L:=uK n c) (fun k hk=> ?_) (fun k hk hq=> ?_) (fun k hk hq=> ?_) _ 0 rfl
   ·rw[uK,iN (by omega)]
   ·rw[uK,iP hk,gQ hk]
    simp only[oE,oS]
    rw[P.YY]
    simp only[oS]
    rw[iP (ZG (hq hk))]
   ·rw[uK,iP hk,gQ hk]
    simp only[oE,oS]
    rw[P.YY]
    simp only[oS]
    rw[iN (by rw[ZE fun h=>hq fun _=>h];simp)]
  rw[key]
  simp only[oS]
  by_cases hall:∀j,0<=j->j<c.args.length->∀h:j<c.args.length,ZBq n c.args[j]
  ·rw[iP (ZG hall),ZG ⟨h1,by omega,by omega,by omega,fun j h0 hj=>hall j h0 hj hj⟩]
  ·rw[iN (by rw[ZE hall];simp),ZE fun h=>hall fun j h0 _ hj=>h.2.2.2.2 j h0 hj]
 ·rw[iN (by rw[ZE h1];simp),ZE fun h=>h1 h.1]
theorem P.YAH (t:Ty)(w:List Data)(hw:w.length<=1048576):F.f103 t w=some (!dec (ZBq w.length t)):=by
 unfold F.f103
 rw[P.YAm w t hw];rfl
theorem P.YAo (w:List Data)(hw:w.length<=1048576)(s:List Ty):∃v,F.f105 s w=some v/\(0<=v↔¬∀j,0<=j->(h:j<s.length)->ZBq w.length s[j]):=by
 unfold F.f105
 have key:∀(m k:Nat),s.length-k=m->∃r,kK s w k=some r/\
   match r with| .ret j=>0<=j/\¬∀j,k<=j->(h:j<s.length)->ZBq w.length s[j]| .go _=>∀j,k<=j->(h:j<s.length)->ZBq w.length s[j]:=by
  intro m
  induction m with
  |zero=>
   intro k hm
   rw[kK,iN (by omega)]
   exact⟨_,rfl,fun j hj h=>by omega⟩
  |succ m ih=>
   intro k hm
   have hk:k<s.length:=by omega
   rw[kK,iP hk,gQ hk]
   simp only[oE,oS]
   rw[P.YAH _ _ hw]
   simp only[oS]
   by_cases h:ZBq w.length s[k]
   ·rw[iN (by rw[ZG h];simp)]
    obtain⟨r,hr,hx⟩:=ih (k+1) (by omega)
    refine⟨r,hr,?_⟩
    cases r with
    |ret j=>exact⟨hx.1,fun hh=>hx.2 fun j hj hl=>hh j (by omega) hl⟩
    |go _=>
     intro j hj hl
     by_cases e:k=j
     ·subst e;exact h
     ·exact hx j (by omega) hl
   ·rw[iP (by rw[ZE h];simp)]
    exact⟨_,rfl,by omega,fun hh=>h (hh k (zB _) hk)⟩
 obtain⟨r,hr,hx⟩:=key _ 0 rfl
 rw[hr]
 cases r with
 |ret j=>exact⟨j,rfl,fun _=>hx.2,fun _=>hx.1⟩
 |go _=>exact⟨-1,rfl,fun h=>by omega,fun h=>absurd hx h⟩
theorem P.Yn (w:List Data)(c:Ctor)(hw:w.length<=1048576)(hs:c.name.size<=1048576):F.f107 w c=some (dec (ZEy w.length c)):=by
 unfold F.f107
 rw[P.Yz _ hs]
 simp only[oE,oS]
 by_cases h1:ZGL c.name
 ·rw[iP (ZG h1)]
  by_cases h2:c.args.length<=3
  ·rw[iP h2,P.YJ]
   simp only[oS]
   by_cases h3:0<=c.index/\c.index<=3
   ·rw[iP (ZG h3)]
    unfold F.f106
    obtain⟨v,hv,hx⟩:=P.YAo w hw c.args
    rw[hv]
    simp only[oE,oS]
    by_cases hall:∀j,0<=j->(h:j<c.args.length)->ZBq w.length c.args[j]
    ·have:¬0<=v:=fun h=>(hx.1 h) hall
     rw[ZG ⟨h1,h2,h3.1,h3.2,hall⟩];simp[this]
    ·have:0<=v:=hx.2 hall
     rw[ZE fun h=>hall h.2.2.2.2];simp[this]
   ·rw[iN (by rw[ZE h3];simp),ZE fun h=>h3 ⟨h.2.2.1,h.2.2.2.1⟩]
  ·rw[iN h2,ZE fun h=>h2 h.2.1]
 ·rw[iN (by rw[ZE h1];simp),ZE fun h=>h1 h.1]
abbrev ZAI (d:Data):List ByteArray:=d.ctors.map (·.name)
structure ctorAt (w:List Data)(i:Nat)(d:Data)(k:Nat)(c:Ctor):Prop where
 ok:ZEy w.length c
 new:c.name∉(w.take i).flatMap ZAI++(d.ctors.take k).map (·.name)
structure dataAt (w:List Data)(i:Nat)(d:Data):Prop where
 name:ZFe d.name
 new:d.name∉(w.take i).map (·.name)
 some:1<=d.ctors.length
 few:d.ctors.length<=4
 ctors:∀k,0<=k->k<d.ctors.length->∀h:k<d.ctors.length,ctorAt w i d k d.ctors[k]
def ZN (w:List Data):Prop:=w.length<=4/\∀i,0<=i->i<w.length->∀h:i<w.length,dataAt w i w[i]
def ZAL (w:List Data):Prop:=w.length<=1048576/\∀d,d∈w->∀c,c∈d.ctors->c.name.size<=1048576
theorem P.YW (w:List Data)(hw:ZAL w)(met4:List ByteArray)(i:Nat)(hi:i<w.length):vU w met4 i w[i] ((w.take i).flatMap ZAI) 0=
  some (if dec (∀k,0<=k->k<w[i].ctors.length->∀h:k<w[i].ctors.length,ctorAt w i w[i] k w[i].ctors[k])=true then .go ((w.take i).flatMap ZAI++ZAI w[i])else .ret false):=by
 have key:=ZR3 (n:=w[i].ctors.length) (r:=false) (p:=(w.take i).flatMap ZAI++ZAI w[i]) (Q:=fun k=>∀h:k<w[i].ctors.length,ctorAt w i w[i] k w[i].ctors[k]) (L:=fun k=>vU w met4 i w[i] ((w.take i).flatMap ZAI++(w[i].ctors.take k).map (·.name)) k)
  (fun k hk=>by
   show vU w met4 i w[i] ((w.take i).flatMap ZAI++(w[i].ctors.take k).map (·.name)) k=_
   rw[vU,iN (by omega),yD hk])
  (fun k hk hq=>by
   show vU w met4 i w[i] ((w.take i).flatMap ZAI++(w[i].ctors.take k).map (·.name)) k=vU w met4 i w[i] ((w.take i).flatMap ZAI++(w[i].ctors.take (k+1)).map (·.name)) (k+1)
   have hc:=hq hk
   rw[vU,iP hk,gQ hk]
   simp only[oE,oS]
   rw[P.Yn w _ hw.1 (hw.2 _ (gM hi) _ (gM hk))]
   simp only[oS]
   rw[iP (ZG hc.ok),iN (by rw[ZE hc.new];simp),ZCT,iN (by rw[ZE hc.new];simp),ZCD hk,yK])
  (fun k hk hq=>by
   show vU w met4 i w[i] ((w.take i).flatMap ZAI++(w[i].ctors.take k).map (·.name)) k=_
   rw[vU,iP hk,gQ hk]
   simp only[oE,oS]
   rw[P.Yn w _ hw.1 (hw.2 _ (gM hi) _ (gM hk))]
   simp only[oS]
   by_cases h1:ZEy w.length w[i].ctors[k]
   ·rw[iP (ZG h1),iP (ZG ?_)]
    apply vD
    intro h2
    exact hq fun _=>⟨h1,h2⟩
   ·rw[iN (by rw[ZE h1];simp)]) _ 0 rfl
 simpa using key
theorem P.YAE (w:List Data)(hw:ZAL w):vT w [] [] 0=some (if dec (∀i,0<=i->i<w.length->∀h:i<w.length,dataAt w i w[i])=true then .go (w.flatMap ZAI,w.map (·.name))else .ret false):=by
 have key:=ZR3 (n:=w.length) (r:=false) (p:=(w.flatMap ZAI,w.map (·.name))) (Q:=fun i=>∀h:i<w.length,dataAt w i w[i]) (L:=fun i=>vT w ((w.take i).flatMap ZAI) ((w.take i).map (·.name)) i)
  (fun i hi=>by
   show vT w ((w.take i).flatMap ZAI) ((w.take i).map (·.name)) i=_
   rw[vT,iN (by omega),yD hi])
  (fun i hi hq=>by
   show vT w ((w.take i).flatMap ZAI) ((w.take i).map (·.name)) i=vT w ((w.take (i+1)).flatMap ZAI) ((w.take (i+1)).map (·.name)) (i+1)
   have hd:=hq hi
   have hn:=hd.name
   have hbig:=hn.2.1
   unfold ZPV at hbig
   have:=hw.1
   rw[vT,iP hi,gQ hi]
   simp only[oE,oS]
   have:=hd.some;have:=hd.few
   rw[iP hn.1,iP (by have:=hn.1;omega),iN (by omega),iN (by omega),iN (fun h=>hn.2.2 (ZAZ.1 h)),iN (by rw[ZE hd.new];simp),P.YJ]
   simp only[oS]
   rw[iP (ZG (by omega)),P.YW w hw _ i hi,iP (ZG hd.ctors)]
   simp only[oS]
   rw[iP (by omega),ZCT,iN (by rw[ZE hd.new];simp),ZCD hi,ZCi hi])
  (fun i hi hq=>by
   show vT w ((w.take i).flatMap ZAI) ((w.take i).map (·.name)) i=_
   have:=hw.1
   rw[vT,iP hi,gQ hi]
   simp only[oE,oS]
   by_cases h1:w[i].name.size=1
   ·rw[iP h1,iP (by omega)]
    by_cases h2:byteAt w[i].name 0<65
    ·rw[iP h2]
    by_cases h3:90<byteAt w[i].name 0
    ·rw[iN h2,iP h3]
    by_cases h4:w[i].name.toList=(⟨#[73]⟩:ByteArray).toList
    ·rw[iN h2,iN h3,iP h4]
    by_cases h5:w[i].name∈(w.take i).map (·.name)
    ·rw[iN h2,iN h3,iN h4,iP (ZG h5)]
    rw[iN h2,iN h3,iN h4,iN (by rw[ZE h5];simp),P.YJ]
    simp only[oS]
    by_cases h6:1<=(w[i].ctors.length:Int)/\(w[i].ctors.length:Int)<=4
    ·rw[iP (ZG h6),P.YW w hw _ i hi,iN (by
      rw[ZE fun hh=>hq fun _=>⟨⟨h1,⟨by omega,by omega⟩,fun e=>h4 (by rw[e])⟩,h5,by omega,by omega,hh⟩];simp)]
     rfl
    ·rw[iN (by rw[ZE h6];simp)]
   ·rw[iN h1]) _ 0 rfl
 simpa using key
theorem P.Yo (w:List Data)(hw:ZAL w):F.f110 w=some (dec (ZN w)):=by
 unfold F.f110
 by_cases h:4<w.length
 ·rw[iP h,ZE fun hh=>by have:=hh.1;omega]
 rw[iN h,P.YAE w hw]
 simp only[oE,oS]
 by_cases hall:∀i,0<=i->i<w.length->∀h:i<w.length,dataAt w i w[i]
 ·rw[iP (ZG hall),ZG ⟨by omega,hall⟩]
 ·rw[iN (by rw[ZE hall];simp),ZE fun hh=>hall hh.2]
theorem P.YAX (w:List Data)(hw:ZAL w)(d k i:Nat)(hd:d<w.length)(hk:k<w[d].ctors.length)(hi:i<d)(hl:w[d].ctors.length<=4)(hli:w[i].ctors.length<=4):uJ w d k i 0=
  some (if dec (∀j,0<=j->j<w[i].ctors.length->∀h:j<w[i].ctors.length,w[i].ctors[j].name≠w[d].ctors[k].name)=true then .go ()else .ret true):=by
 have hi':i<w.length:=by omega
 refine ZJ8 (n:=w[i].ctors.length) (r:=true) (Q:=fun j=>∀h:j<w[i].ctors.length,w[i].ctors[j].name≠w[d].ctors[k].name) (L:=uJ w d k i) (fun j hj=> ?_) (fun j hj hq=> ?_) (fun j hj hq=> ?_) _ 0 rfl
 ·rw[uJ,gQ hi']
  simp only[oE,oS]
  rw[iN (by omega)]
 ·rw[uJ,gQ hi']
  simp only[oE,oS]
  rw[iP hj,iP (by omega),ZD9 hd]
  simp only[oS]
  rw[iP (by omega),gQ hj,ZD9 hk]
  simp only[oS]
  rw[iN (fun h=>hq hj (ZAZ.1 h)),iP (by omega)]
 ·rw[uJ,gQ hi']
  simp only[oE,oS]
  rw[iP hj,iP (by omega),ZD9 hd]
  simp only[oS]
  rw[iP (by omega),gQ hj,ZD9 hk]
  simp only[oS]
  rw[iP (ZAZ.2 (vD fun h=>hq fun _=>h))]
theorem P.YAW (w:List Data)(hw:ZAL w)(d k:Nat)(hd:d<w.length)(hk:k<w[d].ctors.length)(hl:w[d].ctors.length<=4):uI w d k d 0=
  some (if dec (∀j,0<=j->j<k->∀h:j<w[d].ctors.length,w[d].ctors[j].name≠w[d].ctors[k].name)=true then .go ()else .ret true):=by
 refine ZJ8 (n:=k) (r:=true) (Q:=fun j=>∀h:j<w[d].ctors.length,w[d].ctors[j].name≠w[d].ctors[k].name) (L:=uI w d k d) (fun j hj=> ?_) (fun j hj hq=> ?_) (fun j hj hq=> ?_) _ 0 rfl
 ·rw[uI,gQ hd]
  simp only[oE,oS]
  rcases Nat.lt_or_ge j w[d].ctors.length with h|h
  ·rw[iP h,iN (by omega),iN (by omega)]
  ·rw[iN (by omega)]
 ·have hj':j<w[d].ctors.length:=zV hj hk
  rw[uI,gQ hd]
  simp only[oE,oS]
  rw[iP hj',iN (by omega),iP (by omega),ZD9 hd]
  simp only[oS]
  rw[iP (by omega),gQ hj',ZD9 hk]
  simp only[oS]
  rw[iN (fun h=>hq hj' (ZAZ.1 h)),iP (by omega)]
 ·have hj':j<w[d].ctors.length:=zV hj hk
  rw[uI,gQ hd]
  simp only[oE,oS]
  rw[iP hj',iN (by omega),iP (by omega),ZD9 hd]
  simp only[oS]
  rw[iP (by omega),gQ hj',ZD9 hk]
  simp only[oS]
  rw[iP (ZAZ.2 (vD fun h=>hq fun _=>h))]
structure fresh (w:List Data)(d k i:Nat)(hd:d<w.length)(hk:k<w[d].ctors.length):Prop where
 data:i<d->∀h:i<w.length,w[i].name≠w[d].name
 ctor:i<d->∀h:i<w.length,∀j,0<=j->j<w[i].ctors.length->∀h:j<w[i].ctors.length,w[i].ctors[j].name≠w[d].ctors[k].name
 own:i=d->∀j,0<=j->j<k->∀h:j<w[d].ctors.length,w[d].ctors[j].name≠w[d].ctors[k].name
theorem P.Ye (w:List Data)(hw:ZAL w)(d k:Nat)(hd:d<w.length)(hk:k<w[d].ctors.length)(hw4:w.length<=4)(hl:∀i,i<=d->∀h:i<w.length,w[i].ctors.length<=4):F.f21 w d k=some (!dec (∀i,0<=i->i<d+1->fresh w d k i hd hk)):=by
 unfold F.f21
 have key:uH w d k 0=some (if dec (∀i,0<=i->i<d+1->fresh w d k i hd hk)=true then .go ()else .ret true):=by
  refine ZJ8 (n:=d+1) (r:=true) (Q:=fun i=>fresh w d k i hd hk) (L:=uH w d k) (fun i hi=> ?_) (fun i hi hq=> ?_) (fun i hi hq=> ?_) _ 0 rfl
  ·rw[uH,iN (by omega)]
  ·rw[uH,iP (by omega)]
   by_cases h:i<d
   ·have hi':i<w.length:=by omega
    rw[iP (by omega),gQ hi',ZD9 hd]
    simp only[oE,oS]
    rw[iN (fun e=>hq.data h hi' (ZAZ.1 e)),P.YAX w hw d k i hd hk h (hl d (zB _) hd) (hl i (by omega) hi'),iP (ZG (hq.ctor h hi'))]
    simp only[oS]
    rw[iP (by omega)]
   ·obtain rfl:i=d:=by omega
    rw[iN (by omega),P.YAW w hw i k hd hk (hl i (zB _) hd),iP (ZG (hq.own rfl))]
    simp only[oE,oS]
    rw[iP (by omega)]
  ·rw[uH,iP (by omega)]
   by_cases h:i<d
   ·have hi':i<w.length:=by omega
    rw[iP (by omega),gQ hi',ZD9 hd]
    simp only[oE,oS]
    by_cases hn:w[i].name=w[d].name
    ·rw[iP (ZAZ.2 hn)]
    ·rw[iN (fun e=>hn (ZAZ.1 e)),P.YAX w hw d k i hd hk h (hl d (zB _) hd) (hl i (by omega) hi'),iN (by rw[ZE fun hh=>hq ⟨fun _ _=>hn,fun _ _=>hh,fun e=>by omega⟩];simp)]
     rfl
   ·obtain rfl:i=d:=by omega
    rw[iN (by omega),P.YAW w hw i k hd hk (hl i (zB _) hd),iN (by rw[ZE fun hh=>hq ⟨fun e=>by omega,fun e=>by omega,fun _=>hh⟩];simp)]
    rfl
 rw[key]
 simp only[oE,oS]
 by_cases hall:∀i,0<=i->i<d+1->fresh w d k i hd hk
 ·rw[iP (ZG hall),ZG hall];rfl
 ·rw[iN (by rw[ZE hall];simp),ZE hall];rfl
theorem ZDw (w:List Data)(d k:Nat)(hd:d<w.length)(hk:k<w[d].ctors.length):(∀i,0<=i->i<d+1->fresh w d k i hd hk)↔w[d].name∉(w.take d).map (·.name)/\w[d].ctors[k].name∉(w.take d).flatMap ZAI++(w[d].ctors.take k).map (·.name):=by
 constructor
 ·intro h
  refine⟨fun hm=> ?_,fun hm=> ?_⟩
  ·obtain⟨x,hx,e⟩:=yE.1 hm
   obtain⟨i,hi,rfl⟩:=yR.1 hx
   exact(h i (by omega) (by omega)).data (by omega) (by omega) e
  ·rcases yC.1 hm with hm|hm
   ·obtain⟨x,hx,hc⟩:=yV.1 hm
    obtain⟨i,hi,rfl⟩:=yR.1 hx
    obtain⟨c,hc,e⟩:=yE.1 hc
    obtain⟨j,hj,rfl⟩:=yH hc
    exact(h i (by omega) (by omega)).ctor (by omega) (by omega) j (by omega) hj hj e
   ·obtain⟨c,hc,e⟩:=yE.1 hm
    obtain⟨j,hj,rfl⟩:=yR.1 hc
    exact(h d (by omega) (by omega)).own rfl j (by omega) (by omega) (by omega) e
 ·rintro⟨h1,h2⟩ i _ hi
  refine⟨fun hid hiw e=>h1 (yE.2 ⟨w[i],yR.2 ⟨i,by omega,rfl⟩,e⟩),fun hid hiw j _ hj hj' e=>h2 (xR _ (yV.2 ⟨w[i],yR.2 ⟨i,by omega,rfl⟩,yE.2 ⟨_,gM hj,e⟩⟩)),fun e j _ hj hj' e=>h2 (xO _ (yE.2 ⟨_,yR.2 ⟨j,by omega,rfl⟩,e⟩))⟩
theorem P.YAB (w:List Data)(hw:ZAL w)(d:Nat)(hd:d<w.length)(hw4:w.length<=4)(hl:∀i,i<=d->∀h:i<w.length,w[i].ctors.length<=4):uG w d 0=
  some (if dec (∀k,0<=k->k<w[d].ctors.length->∀h:k<w[d].ctors.length,w[d].name∉(w.take d).map (·.name)/\ctorAt w d w[d] k w[d].ctors[k])=true then .go ()else .ret false):=by
 have hl0:=hl d (zB _) hd
 refine ZJ8 (n:=w[d].ctors.length) (r:=false) (Q:=fun k=>∀h:k<w[d].ctors.length,w[d].name∉(w.take d).map (·.name)/\ctorAt w d w[d] k w[d].ctors[k]) (L:=uG w d) (fun k hk=> ?_) (fun k hk hq=> ?_) (fun k hk hq=> ?_) _ 0 rfl
 ·rw[uG,gQ hd]
  simp only[oE,oS]
  rw[iN (by omega)]
 ·obtain⟨h1,h2⟩:=hq hk
  rw[uG,gQ hd]
  simp only[oE,oS]
  rw[iP hk,gQ hk]
  simp only[oS]
  rw[P.Yk _ _ (hw.2 _ (gM hd) _ (gM hk))]
  simp only[oS]
  rw[iP (ZG h2.ok),P.Ye w hw d k hd hk hw4 hl]
  simp only[oS]
  rw[ZG ((ZDw w d k hd hk).2 ⟨h1,h2.new⟩),iN (by simp),iP (by omega)]
 ·rw[uG,gQ hd]
  simp only[oE,oS]
  rw[iP hk,gQ hk]
  simp only[oS]
  rw[P.Yk _ _ (hw.2 _ (gM hd) _ (gM hk))]
  simp only[oS]
  by_cases h1:ZEy w.length w[d].ctors[k]
  ·rw[iP (ZG h1),P.Ye w hw d k hd hk hw4 hl]
   simp only[oS]
   rw[ZE fun hh=>hq fun _=>⟨((ZDw w d k hd hk).1 hh).1,⟨h1,((ZDw w d k hd hk).1 hh).2⟩⟩,iP (by simp)]
  ·rw[iN (by rw[ZE h1];simp)]
theorem P.YR (w:List Data)(hw:ZAL w):kX w=some (dec (ZN w)):=by
 unfold kX
 by_cases h4:4<w.length
 ·rw[iP h4,ZE fun hh=>by have:=hh.1;omega]
 rw[iN h4]
 -- the loop runs only on over types that are right
 have key:∀(m d:Nat),w.length-d=m->(∀i,i<d->∀h:i<w.length,w[i].ctors.length<=4)->kY w d=some (if dec (∀i,d<=i->i<w.length->∀h:i<w.length,dataAt w i w[i])=true then .go ()else .ret false):=by
  intro m
  induction m with
  |zero=>
   intro d hm hl
   rw[kY,iN (by omega),iP (ZG fun i h1 h2=>by omega)]
  |succ m ih=>
   intro d hm hl
   have hd:d<w.length:=by omega
   rw[kY,iP hd,gQ hd]
   simp only[oE,oS]
   rw[P.YAb]
   simp only[oS]
   have no:¬dataAt w d w[d]->¬∀i,d<=i->i<w.length->∀h:i<w.length,dataAt w i w[i]:=fun h hh=>h (hh d (zB _) hd hd)
   by_cases h1:ZFe w[d].name
   ·rw[iP (ZG h1)]
    by_cases h2:w[d].ctors.length=0
    ·rw[iP h2,iN (by rw[ZE (no fun h=>by have:=h.some;omega)];simp)]
    by_cases h3:4<w[d].ctors.length
    ·rw[iN h2,iP h3,iN (by rw[ZE (no fun h=>by have:=h.few;omega)];simp)]
    have hl':∀i,i<=d->∀h:i<w.length,w[i].ctors.length<=4:=fun i hi h=>by
     by_cases e:i=d
     ·subst e;omega
     ·exact hl i (by omega) h
    rw[iN h2,iN h3,P.YAB w hw d hd (by omega) hl']
    simp only[oS]
    by_cases hq:∀k,0<=k->k<w[d].ctors.length->∀h:k<w[d].ctors.length,w[d].name∉(w.take d).map (·.name)/\ctorAt w d w[d] k w[d].ctors[k]
    ·have hda:dataAt w d w[d]:=⟨h1,(hq 0 (by omega) (by omega) (by omega)).1,by omega,by omega,fun k a b c=>(hq k a b c).2⟩
     rw[iP (ZG hq)]
     simp only
     rw[iP (by omega),ih (d+1) (by omega) fun i hi h=>hl' i (by omega) h]
     by_cases hall:∀i,d+1<=i->i<w.length->∀h:i<w.length,dataAt w i w[i]
     ·rw[iP (ZG hall),iP (ZG fun i a b c=> ?_)]
      by_cases e:i=d
      ·subst e;exact hda
      ·exact hall i (by omega) b c
     ·rw[iN (by rw[ZE hall];simp),iN (by rw[ZE fun hh=>hall fun i a b c=>hh i (by omega) b c];simp)]
    ·rw[iN (by rw[ZE hq];simp)]
     simp only
     rw[iN (by rw[ZE (no fun h=>hq fun k a b c=>⟨h.new,h.ctors k a b c⟩)];simp)]
   ·rw[iN (by rw[ZE h1];simp),iN (by rw[ZE (no fun h=>h1 h.name)];simp)]
 rw[key _ 0 rfl fun i hi=>by omega]
 simp only[oE,oS]
 by_cases hall:∀i,0<=i->i<w.length->∀h:i<w.length,dataAt w i w[i]
 ·rw[iP (ZG hall),ZG ⟨by omega,hall⟩]
 ·rw[iN (by rw[ZE hall];simp),ZE fun hh=>hall hh.2]
def ZX (w:List Data)(t:Ty):Prop:=ZBq w.length t/\0<=t.index
theorem P.YAv (w:List Data)(t:Ty):F.f170 w t=some (dec (ZX w t)):=by
 unfold F.f170
 rw[P.YY]
 simp only[oE,oS]
 by_cases h:ZBq w.length t
 ·rw[iP (ZG h),←ZAM];congr 1;exact ZL ⟨fun h'=>⟨h,h'⟩,fun h'=>h'.2⟩
 ·rw[iN (by rw[ZE h];simp),ZE fun h'=>h h'.1]
theorem P.YAe (w:List Data)(t:Ty)(hw:w.length<=1048576):F.f111 w t=some (dec (ZX w t)):=by
 unfold F.f111
 by_cases h:eq2 (t.data,t.index) (-1,0)
 ·rw[iP (ZG h),ZG ⟨.inl h,by have:=h.2;simp at this;omega⟩]
 rw[iN (by rw[ZE h];simp),P.YJ,ZD (by omega) (by omega)]
 simp only[oE,oS]
 by_cases h1:0<=t.data/\t.data<=(w.length:Int) -1
 ·rw[iP (ZG h1),P.YJ]
  simp only[oS]
  congr 1;exact ZL ⟨fun h'=>⟨.inr ⟨h1.1,by omega,by omega,h'.2⟩,h'.1⟩,fun h'=>h'.1.elim (fun h'=>absurd h' h) (fun h2=>⟨h'.2,h2.2.2.2⟩)⟩
 ·rw[iN (by rw[ZE h1];simp),ZE fun h'=>h'.1.elim (fun h'=>h h') (fun h'=>h1 ⟨h'.1,by have:=h'.2.1;omega⟩)]
def ZBP (w:List Data)(t:Ty):Prop:=ZN w/\ZX w t
theorem P.Ys (w:List Data)(t:Ty)(hw:ZAL w):F.f171 w t=some (dec (ZBP w t)):=by
 unfold F.f171
 rw[P.YR w hw]
 simp only[oE,oS]
 by_cases h:ZN w
 ·rw[iP (ZG h),P.YAv]
  simp only[oS]
  congr 1;exact ZL ⟨fun h'=>⟨h,h'⟩,fun h'=>h'.2⟩
 ·rw[iN (by rw[ZE h];simp),ZE fun h'=>h h'.1]
theorem P.Yy (w:List Data)(t:Ty)(hw:ZAL w):F.f112 w t=some (dec (ZBP w t)):=by
 unfold F.f112
 rw[P.Yo w hw]
 simp only[oE,oS]
 by_cases h:ZN w
 ·rw[iP (ZG h),P.YAe w t hw.1]
  simp only[oS]
  congr 1;exact ZL ⟨fun h'=>⟨h,h'⟩,fun h'=>h'.2⟩
 ·rw[iN (by rw[ZE h];simp),ZE fun h'=>h h'.1]
theorem ZKH {w:List Data}(h:wtL Data.wt w<=1048576):ZAL w:=by
 refine⟨by have:=ZBB Data.wt w;omega,fun d hd c hc=> ?_⟩
 have h1:=Zt Data.wt hd
 have h2:=Zt Ctor.wt hc
 have e1:d.wt=d.name.size+wtL Ctor.wt d.ctors:=rfl
 have e2:c.wt=c.name.size+wtL Ty.wt c.args:=rfl
 omega
def tOk (w:List Data)(t:Ty):Prop:=t.data= -1∨(0<=t.data/\t.data<w.length)
theorem ZBR {w:List Data}{t:Ty}(h:ZBq w.length t):tOk w t:=h.elim (fun h=>.inl h.1) (fun h=>.inr ⟨h.1,h.2.1⟩)
def ZMj (i:Int)(c:Ctor):Prop:=i=0∨c.index=0∨c.index=i
noncomputable def ZFt (i:Int):Nat->List Ctor->List Int
 |_,[]=>[]
 |k,c::r=>(if dec (ZMj i c)=true then[(k:Int)]else[])++ZFt i (k+1) r
theorem ZIP (i:Int):∀(k:Nat) (l:List Ctor),(ZFt i k l).length<=l.length
 |_,[]=>by simp[ZFt]
 |k,c::r=>by
  have:=ZIP i (k+1) r
  unfold ZFt
  split<;>simp<;>omega
theorem ZIO (i:Int){x:Int}:∀{k:Nat} {l:List Ctor},x∈ZFt i k l->(k:Int)<=x/\x<k+l.length
 |_,[],h=>by simp[ZFt]at h
 |k,c::r,h=>by
  unfold ZFt at h
  rcases yC.1 h with h|h
  ·split at h
   ·simp at h;subst h;simp;omega
   ·simp at h
  ·have:=ZIO i h
   simp;omega
def ZY (w:List Data)(t:Ty):Data:=w.getD t.data.toNat Data.z
noncomputable def ZS (w:List Data)(t:Ty):List Int:=if t.data= -1 then[]else ZFt t.index 0 (ZY w t).ctors
def Zf (w:List Data)(t:Ty)(c:Int):Ctor:=(ZY w t).ctors.getD c.toNat Ctor.z
def ZC3 (t:Ty)(c:Ctor)(a:Ty):Ty:=if a.index= -1 then⟨a.data,if c.index=0 then t.index else c.index⟩else a
def ZP (w:List Data)(t:Ty)(c:Int):List Ty:=(Zf w t c).args.map (ZC3 t (Zf w t c))
theorem ZC2 {w:List Data}{t:Ty}(h:tOk w t)(hn:t.data≠-1):at? w t.data=some (ZY w t)/\ZY w t∈w/\∃h:t.data.toNat<w.length,ZY w t=w[t.data.toNat]:=by
 obtain⟨h1,h2⟩:=h.resolve_left hn
 have hlt:t.data.toNat<w.length:=by omega
 unfold at? ZY
 rw[iP h1,gQ hlt,yQ,gQ hlt]
 exact⟨rfl,gM hlt,hlt,rfl⟩
theorem Zl {w:List Data}(hw:ZN w){t:Ty}(h:tOk w t)(hn:t.data≠-1):(ZY w t).ctors.length<=4/\∀c,c∈(ZY w t).ctors->ZEy w.length c:=by
 obtain⟨_,_,hlt,e⟩:=ZC2 h hn
 have hd:=hw.2 t.data.toNat (by omega) hlt hlt
 rw[e]
 refine⟨hd.few,fun c hc=> ?_⟩
 obtain⟨k,hk,rfl⟩:=yH hc
 exact(hd.ctors k (by omega) hk hk).ok
theorem P.YAC (w:List Data)(hw:ZN w)(t:Ty)(h:tOk w t)(hn:t.data≠-1):∀(m k:Nat) (out:List Int),(ZY w t).ctors.length-k=m->out.length<=k->k<=(ZY w t).ctors.length->
  kW w t out k=some (out++ZFt t.index k ((ZY w t).ctors.drop k)):=by
 have h4:=(Zl hw h hn).1
 intro m
 induction m with
 |zero=>
  intro k out hm ho hk
  rw[kW,(ZC2 h hn).1]
  simp only[oE,oS]
  rw[iN (by omega),zY (by omega)];simp[ZFt]
 |succ m ih=>
  intro k out hm ho hk
  have hlt:k<(ZY w t).ctors.length:=by omega
  rw[kW,(ZC2 h hn).1]
  simp only[oE,oS]
  rw[iP hlt,gQ hlt,zX hlt]
  simp only[oS,ZFt]
  have hf:F.f40 (ZY w t).ctors[k] t.index=some (dec (ZMj t.index (ZY w t).ctors[k])):=by
   unfold F.f40
   by_cases h1:(ZY w t).ctors[k].index=0
   ·rw[iP h1,ZG (.inr (.inl h1))]
   ·by_cases h2:t.index=0
    ·rw[iN h1,iP h2,ZG (.inl h2)]
    ·rw[iN h1,iN h2,←ZAM];congr 1;exact ZL ⟨fun h=>.inr (.inr h),fun h=>h.elim (fun h=>absurd h h2) (fun h=>h.elim (fun h=>absurd h h1) id)⟩
  rw[hf]
  simp only[oS]
  by_cases hfit:ZMj t.index (ZY w t).ctors[k]
  ·rw[iP (ZG hfit),iP (by omega),iP (by omega),ih (k+1) _ (by omega) (by simp;omega) (by omega),iP (ZG hfit)];simp
  ·rw[iN (by rw[ZE hfit];simp),iP (by omega),ih (k+1) _ (by omega) (by omega) (by omega),iN (by rw[ZE hfit];simp)];simp
theorem P.YP (w:List Data)(hw:ZN w)(t:Ty)(h:tOk w t):F.f42 w t=some (ZS w t):=by
 unfold F.f42 ZS
 by_cases hn:t.data= -1
 ·rw[iP hn,iP hn]
 ·rw[iN hn,iN hn,P.YAC w hw t h hn _ 0 [] rfl (by simp) (by omega)];simp
theorem P.YAG (w:List Data)(hw:ZN w)(t:Ty)(h:tOk w t)(hn:t.data≠-1):∀(m k:Nat) (out:List Int),(ZY w t).ctors.length-k=m->out.length<=k->k<=(ZY w t).ctors.length->
  uT t (ZY w t) k out=some (out++ZFt t.index k ((ZY w t).ctors.drop k)):=by
 have h4:=(Zl hw h hn).1
 intro m
 induction m with
 |zero=>
  intro k out hm ho hk
  rw[uT,iN (by omega),zY (by omega)];simp[ZFt]
 |succ m ih=>
  intro k out hm ho hk
  have hlt:k<(ZY w t).ctors.length:=by omega
  rw[uT,iP hlt,gQ hlt,zX hlt]
  simp only[oE,oS,ZFt]
  have yes:ZMj t.index (ZY w t).ctors[k]->(if out.length+1<=67108864 then uT t (ZY w t) (k+1) (out++[(k:Int)])else none)=
    some (out++((if dec (ZMj t.index (ZY w t).ctors[k])=true then[(k:Int)]else[])++ZFt t.index (k+1) ((ZY w t).ctors.drop (k+1)))):=by
   intro hfit
   rw[iP (by omega),ih (k+1) _ (by omega) (by simp;omega) (by omega),iP (ZG hfit)];simp
  by_cases h1:t.index=0
  ·rw[iP h1];exact yes (.inl h1)
  by_cases h2:(ZY w t).ctors[k].index=0
  ·rw[iN h1,iP h2];exact yes (.inr (.inl h2))
  by_cases h3:(ZY w t).ctors[k].index=t.index
  ·rw[iN h1,iN h2,iP h3];exact yes (.inr (.inr h3))
  ·have hfit:¬ZMj t.index (ZY w t).ctors[k]:=fun h=>h.elim h1 (fun h=>h.elim h2 h3)
   rw[iN h1,iN h2,iN h3,ih (k+1) _ (by omega) (by omega) (by omega),iN (by rw[ZE hfit];simp)];simp
theorem P.YAV (w:List Data)(hw:ZN w)(t:Ty)(h:tOk w t):F.f116 w t=some (ZS w t):=by
 unfold F.f116 ZS
 by_cases hn:t.data= -1
 ·rw[iP hn,iP hn]
 ·rw[iN hn,iN hn,(ZC2 h hn).1]
  simp only[oE,oS]
  rw[P.YAG w hw t h hn _ 0 [] rfl (by simp) (by omega)];simp
theorem ZW {w:List Data}{t:Ty}{c:Int}(h:c∈ZS w t):t.data≠-1/\0<=c/\c<(ZY w t).ctors.length:=by
 unfold ZS at h
 split at h
 ·cases h
 ·next hn=>
  have:=ZIO t.index h
  exact⟨hn,by omega,by omega⟩
theorem ZBZ {w:List Data}{t:Ty}{c:Int}(h:c∈ZS w t):at? (ZY w t).ctors c=some (Zf w t c)/\Zf w t c∈(ZY w t).ctors:=by
 obtain⟨_,h1,h2⟩:=ZW h
 have hlt:c.toNat<(ZY w t).ctors.length:=by omega
 unfold at? Zf
 rw[iP h1,gQ hlt,yQ,gQ hlt]
 exact⟨rfl,gM hlt⟩
theorem ZPG {w:List Data}(hw:ZN w){t:Ty}(ht:tOk w t){c:Int}(h:c∈ZS w t):(ZP w t c).length<=3/\∀a,a∈ZP w t c->tOk w a:=by
 have hc:=(Zl hw ht (ZW h).1).2 _ (ZBZ h).2
 refine⟨by unfold ZP;rw[yI];exact hc.2.1,fun a ha=> ?_⟩
 obtain⟨b,hb,rfl⟩:=yE.1 ha
 obtain⟨j,hj,rfl⟩:=yH hb
 have:=ZBR (hc.2.2.2.2 j (by omega) hj)
 unfold ZC3
 split
 ·exact this
 ·exact this
theorem P.YI (w:List Data)(hw:ZN w)(t:Ty)(ht:tOk w t)(c:Int)(h:c∈ZS w t):F.f45 w t c=some (ZP w t c):=by
 have hc:=(Zl hw ht (ZW h).1).2 _ (ZBZ h).2
 unfold F.f45
 rw[(ZC2 ht (ZW h).1).1]
 simp only[oE,oS]
 rw[(ZBZ h).1]
 simp only[oS]
 rw[ZIA (L:=F.f44 t (Zf w t c)) (a:=(Zf w t c).args) (g:=ZC3 t (Zf w t c)) (f:=fun a=>some (ZC3 t (Zf w t c) a)) (fun out i=> ?_) (fun _ _=>rfl) _ 0 [] rfl (by have:=hc.2.1;simp;omega)]
 ·simp[ZP]
 ·rw[F.f44]
  split
  ·cases(Zf w t c).args[i]? with
   |none=>rfl
   |some a=>
    simp only[oE,oS,F.f43,ZC3]
    split
    ·split<;>simp
    ·simp
  ·rfl
theorem P.YAJ (w:List Data)(hw:ZN w)(t:Ty)(ht:tOk w t)(c:Int)(h:c∈ZS w t):F.f122 w t c=some (ZP w t c):=by
 have hc:=(Zl hw ht (ZW h).1).2 _ (ZBZ h).2
 unfold F.f122
 rw[(ZC2 ht (ZW h).1).1]
 simp only[oE,oS]
 rw[(ZBZ h).1]
 simp only[oS]
 by_cases h0:(Zf w t c).index=0
 ·rw[iP h0,ZIA (L:=fun out i=>kI t (Zf w t c) i out) (a:=(Zf w t c).args) (g:=ZC3 t (Zf w t c)) (f:=fun a=>some (ZC3 t (Zf w t c) a)) (fun out i=> ?_) (fun _ _=>rfl) _ 0 [] rfl (by have:=hc.2.1;simp;omega)]
  ·simp[ZP]
  ·show kI t (Zf w t c) i out=_
   rw[kI]
   split
   ·cases(Zf w t c).args[i]? with
    |none=>rfl
    |some a=>
     simp only[oE,oS,ZC3]
     split
     ·first|rfl|rw[iP h0]
     ·rfl
   ·rfl
 ·rw[iN h0,ZIA (L:=fun out i=>kH (Zf w t c) i out) (a:=(Zf w t c).args) (g:=ZC3 t (Zf w t c)) (f:=fun a=>some (ZC3 t (Zf w t c) a)) (fun out i=> ?_) (fun _ _=>rfl) _ 0 [] rfl (by have:=hc.2.1;simp;omega)]
  ·simp[ZP]
  ·show kH (Zf w t c) i out=_
   rw[kH]
   split
   ·cases(Zf w t c).args[i]? with
    |none=>rfl
    |some a=>
     simp only[oE,oS,ZC3]
     split
     ·first|rfl|rw[iN h0]
     ·rfl
   ·rfl
theorem P.YAi (l:List Int)(n:Int):F.f65 l n=some (dec (n∈l)):=by
 unfold F.f65
 rw[ZJ8 (n:=l.length) (r:=true) (Q:=fun j=>∀h:j<l.length,l[j]≠n) (L:=kB l n) (fun k hk=>by rw[kB,iN (by omega)])
  (fun k hk hq=>by
   rw[kB,iP hk,gQ hk]
   simp only[oE,oS]
   rw[iN (hq hk)])
  (fun k hk hq=>by
   rw[kB,iP hk,gQ hk]
   simp only[oE,oS]
   rw[iP (vD fun h=>hq fun _=>h)]) _ 0 rfl]
 simp only[oE,oS]
 by_cases hm:n∈l
 ·obtain⟨j,hj,e⟩:=yH hm
  rw[iN (by rw[ZE fun hh=>hh j (by omega) hj hj e];simp),ZG hm]
 ·rw[iP (ZG fun j _ hj h e=>hm (by rw[←e];exact gM h)),ZE hm]
theorem P.YT (l:List Int)(n:Int):F.f119 l n=some (dec (n∈l)):=by
 unfold F.f119 F.f118
 have key:∀(m k:Nat),l.length-k=m->∃r,kJ l n k=some r/\match r with| .ret j=>0<=j/\n∈l| .go _=>∀j,k<=j->∀h:j<l.length,l[j]≠n:=by
  intro m
  induction m with
  |zero=>intro k hm;rw[kJ,iN (by omega)];exact⟨_,rfl,fun j h1 h2=>by omega⟩
  |succ m ih=>
   intro k hm
   have hk:k<l.length:=by omega
   rw[kJ,iP hk,gQ hk]
   simp only[oE,oS]
   by_cases h:n=l[k]
   ·rw[iP h];exact⟨_,rfl,by omega,h▸gM hk⟩
   ·rw[iN h]
    obtain⟨r,hr,hx⟩:=ih (k+1) (by omega)
    refine⟨r,hr,?_⟩
    cases r with
    |ret j=>exact hx
    |go _=>
     intro j hj hl
     by_cases e:k=j
     ·subst e;exact fun e=>h e.symm
     ·exact hx j (by omega) hl
 obtain⟨r,hr,hx⟩:=key _ 0 rfl
 rw[hr]
 cases r with
 |ret j=>
  simp only[oE,oS]
  rw[ZG hx.2];simp[hx.1]
 |go _=>
  simp only[oE,oS]
  rw[ZE fun hm=>by obtain⟨j,hj,e⟩:=yH hm;exact hx j (by omega) hj e];simp
def pv (w:List Data)(holes:Bool):Nat->Ty->Value->Prop
 |0,_,_=>False
 |d+1,t,v=>(holes=true/\v.ctor= -2/\v.n=0/\v.kids.length=0)∨(¬(holes=true/\v.ctor= -2)/\
   ((t.data= -1/\v.ctor= -1/\0<=v.n/\v.n<=9/\v.kids.length=0)∨
   (t.data≠-1/\v.n=0/\v.ctor∈ZS w t/\v.kids.length=(ZP w t v.ctor).length/\
    ∀i,0<=i->i<(ZP w t v.ctor).length->∀(h:i<(ZP w t v.ctor).length) (h':i<v.kids.length),pv w holes d (ZP w t v.ctor)[i] v.kids[i])))
theorem ZNm (v:Value):v.wt=((v.kids.drop 0).map fun k=>1+k.wt).sum:=by
 rw[zZ,v.wt_eq]
 have:∀l:List Value,(l.map fun k=>1+k.wt).sum=wtL Value.wt l:=by
  intro l
  induction l with
  |nil=>rfl
  |cons a r ih=>simp[ih]
 exact(this _).symm
def rok (K:Nat)(r:ZB):Prop:=r.f0.length<=2000/\(∀x,x∈r.f0->0<=x/\x<=255)/\0<=r.f1/\r.f1<=(K:Int)
theorem rok.mono {K L:Nat}{r:ZB}(h:rok K r)(hl:K<=L):rok L r:=⟨h.1,h.2.1,h.2.2.1,by have:=h.2.2.2;omega⟩
theorem ZNl {a b:Int}(ha:0<=a)(hb:0<=b)(ha':a<4611686018427387904)(hb':b<4611686018427387904):0<=ZPX .i64 a b:=by
 unfold ZPX
 obtain⟨m,rfl⟩:=vE ha
 obtain⟨n,rfl⟩:=vE hb
 have hm:m<2^62:=by omega
 have hn:n<2^62:=by omega
 have h:(BitVec.ofInt IntKind.i64.bits (m:Int)^^^BitVec.ofInt IntKind.i64.bits (n:Int)).toNat<2^62:=by
  rw[BitVec.toNat_xor]
  refine Nat.xor_lt_two_pow ?_ ?_
  ·show(BitVec.ofInt 64 (m:Int)).toNat<2^62
   rw[BitVec.toNat_ofInt];omega
  ·show(BitVec.ofInt 64 (n:Int)).toNat<2^62
   rw[BitVec.toNat_ofInt];omega
 rw[ZD (by omega) (by omega)]
 exact Int.natCast_nonneg _
theorem ZE1 {α:Type}{xs:List α}{i:Int}(h0:0<=i)(h1:i<xs.length):∃x,at? xs i=some x/\x∈xs:=by
 have hi:i.toNat<xs.length:=by omega
 refine⟨xs[i.toNat],?_,gM hi⟩
 unfold at?
 rw[iP h0,gQ hi]
theorem P.YK {K:Nat}{r:ZB}(h:rok K r)(hK:K<=1099511627776)(n:Int):∃v r',uU r n=some (v,r')/\rok (K+1) r'/\0<=v/\(1<=n->v<n)/\(n<1->v=0):=by
 obtain⟨h1,h2,h3,h4⟩:=h
 unfold uU
 have e1:i64.wrap (r.f1+1)=r.f1+1:=ZD (by omega) (by omega)
 have e2:i64.wrap (r.f1+1-1)=r.f1:=by rw[ZD (by omega) (by omega)];omega
 have hr':rok (K+1) ⟨r.f0,r.f1+1⟩:=⟨h1,h2,by show 0<=r.f1+1;omega,by show r.f1+1<=((K+1:Nat):Int);omega⟩
 rw[e1,e2]
 by_cases hn:n<1
 ·rw[iP hn];exact⟨0,_,rfl,hr',by omega,by omega,fun _=>rfl⟩
 rw[iN hn]
 by_cases hl:r.f0.length=0
 ·rw[iP hl];exact⟨0,_,rfl,hr',by omega,by omega,fun _=>rfl⟩
 rw[iN hl]
 have tm:∀x:Int,0<=x->0<=x.tmod n/\x.tmod n<n:=fun x hx=>⟨vJ n hx,vH x (by omega)⟩
 have tl:∀x:Int,0<=x->0<=x.tmod (r.f0.length:Int)/\x.tmod (r.f0.length:Int)<r.f0.length:=fun x hx=>⟨vJ _ hx,vH x (by omega)⟩
 by_cases hk:r.f1<(r.f0.length:Int)
 ·rw[iP hk]
  obtain⟨x,hx,hm⟩:=ZE1 h3 hk
  have hb:=h2 x hm
  rw[hx]
  simp only[oE,oS]
  rw[iP (by omega),ZD (by omega) (by omega)]
  have:=tm x hb.1
  exact⟨_,_,rfl,hr',this.1,fun _=>this.2,fun h=>by omega⟩
 ·rw[iN hk,iP (by omega)]
  have e7:i64.wrap (r.f1*7)=r.f1*7:=ZD (by omega) (by omega)
  have e73:i64.wrap (r.f1*7+3)=r.f1*7+3:=ZD (by omega) (by omega)
  rw[e7,e73]
  have t1:=tl r.f1 h3
  have t2:=tl (r.f1*7+3) (by omega)
  obtain⟨x,hx,hm⟩:=ZE1 t1.1 t1.2
  obtain⟨y,hy,hm'⟩:=ZE1 t2.1 t2.2
  have hb:=h2 x hm
  have hb':=h2 y hm'
  have hq0:0<=r.f1.tdiv (r.f0.length:Int):=vK h3 (by omega)
  have hq1:r.f1.tdiv (r.f0.length:Int)<=r.f1:=vI _ h3
  rw[hx,hy]
  simp only[oE,oS]
  rw[iP (by omega)]
  generalize r.f1.tdiv (r.f0.length:Int)=q at hq0 hq1 ⊢
  rw[ZD (n:=x) (by omega) (by omega),ZD (n:=y) (by omega) (by omega),ZD (n:=q) (by omega) (by omega),ZD (n:=x*131) (by omega) (by omega),ZD (n:=y*1117) (by omega) (by omega),
   ZD (n:=r.f1*29) (by omega) (by omega),ZD (n:=q*53) (by omega) (by omega),ZD (n:=x*131+y*1117) (by omega) (by omega),ZD (n:=x*131+y*1117+r.f1*29) (by omega) (by omega),
   ZD (n:=x*131+y*1117+r.f1*29+q*53) (by omega) (by omega)]
  have hz0:0<=x*131+y*1117+r.f1*29+q*53:=by omega
  have hz1:x*131+y*1117+r.f1*29+q*53<4611686018427387904:=by omega
  generalize x*131+y*1117+r.f1*29+q*53=z at hz0 hz1 ⊢
  have hd0:0<=z.tdiv 64:=vK hz0 (by omega)
  have hd1:z.tdiv 64<=z:=vI _ hz0
  rw[ZD (n:=z.tdiv 64) (by omega) (by omega)]
  have:=tm _ (ZNl hz0 hd0 hz1 (by omega))
  exact⟨_,_,rfl,hr',this.1,fun _=>this.2,fun h=>by omega⟩
theorem P.num {K:Nat}{r:ZB}(h:rok K r)(hK:K<=1099511627776)(l:List Int)(hl:l≠[]):∃v r',F.f54 r l=some (v,r')/\rok (K+1) r'/\v∈l:=by
 unfold F.f54
 obtain⟨v,r',e,h1,h2,h3,_⟩:=P.YK h hK (l.length:Int)
 have:0<l.length:=xS.2 hl
 obtain⟨x,hx,hm⟩:=ZE1 h2 (h3 (by omega))
 rw[e]
 simp only[oE,oS]
 rw[hx]
 exact⟨x,r',rfl,h1,hm⟩
def W0 :List Data:=[⟨⟨#[76]⟩,[⟨⟨#[78,105,108]⟩,[],0⟩,⟨⟨#[67,111,110,115]⟩,[⟨-1,0⟩,⟨0,0⟩],0⟩]⟩]
theorem ZNM :vX ⟨#[76,61,78,105,108,124,67,111,110,115,40,73,44,76,41]⟩=some (W0,true):=E.f38_le 100 _ _ (by kernel_rfl)
theorem ZNL :vS W0=some [1,1,1,1]:=kZ 100 _ _ (by kernel_rfl)
def W1 :List Data:=[⟨⟨#[66]⟩,[⟨⟨#[84,114,117]⟩,[],0⟩,⟨⟨#[70,108,115]⟩,[],0⟩]⟩,⟨⟨#[84]⟩,[⟨⟨#[76,101,97,102]⟩,[],0⟩,⟨⟨#[78,111,100,101]⟩,[⟨1,0⟩,⟨0,0⟩,⟨1,0⟩],0⟩]⟩]
theorem ZNK :vX ⟨#[66,61,84,114,117,124,70,108,115,59,84,61,76,101,97,102,124,78,111,100,101,40,84,44,66,44,84,41]⟩=some (W1,true):=E.f38_le 100 _ _ (by kernel_rfl)
theorem ZNJ :vS W1=some [1,1,1,1,1,1,1,1]:=kZ 100 _ _ (by kernel_rfl)
def W2 :List Data:=[⟨⟨#[69]⟩,[⟨⟨#[78,117,109]⟩,[⟨-1,0⟩],1⟩,⟨⟨#[66,111,108]⟩,[⟨1,0⟩],2⟩,⟨⟨#[65,100,100]⟩,[⟨0,1⟩,⟨0,1⟩],1⟩,⟨⟨#[73,102]⟩,[⟨0,2⟩,⟨0,-1⟩,⟨0,-1⟩],0⟩]⟩,⟨⟨#[66]⟩,[⟨⟨#[84,114,117]⟩,[],0⟩,⟨⟨#[70,108,115]⟩,[],0⟩]⟩]
theorem ZNI :vX ⟨#[69,61,78,117,109,40,73,41,58,49,124,66,111,108,40,66,41,58,50,124,65,100,100,40,69,49,44,69,49,41,58,49,124,73,102,40,69,50,44,69,42,44,69,42,41,59,66,61,84,114,117,124,70,108,115]⟩=some (W2,true):=E.f38_le 100 _ _ (by kernel_rfl)
theorem ZNH :vS W2=some [2,2,2,0,1,1,1,1]:=kZ 100 _ _ (by kernel_rfl)
def W3 :List Data:=[⟨⟨#[79]⟩,[⟨⟨#[78,111,110]⟩,[],0⟩,⟨⟨#[83,111,109]⟩,[⟨-1,0⟩],0⟩]⟩,⟨⟨#[80]⟩,[⟨⟨#[80,97,105,114]⟩,[⟨0,0⟩,⟨0,0⟩],0⟩]⟩]
theorem ZNG :vX ⟨#[79,61,78,111,110,124,83,111,109,40,73,41,59,80,61,80,97,105,114,40,79,44,79,41]⟩=some (W3,true):=E.f38_le 100 _ _ (by kernel_rfl)
theorem ZNF :vS W3=some [1,1,1,1,2,2,2,2]:=kZ 100 _ _ (by kernel_rfl)
def W4 :List Data:=[⟨⟨#[86]⟩,[⟨⟨#[69,110,100]⟩,[],1⟩,⟨⟨#[83,111,109,101]⟩,[⟨-1,0⟩,⟨0,1⟩],2⟩,⟨⟨#[84,119,111]⟩,[⟨0,-1⟩],0⟩]⟩]
theorem ZNE :vX ⟨#[86,61,69,110,100,58,49,124,83,111,109,101,40,73,44,86,49,41,58,50,124,84,119,111,40,86,42,41]⟩=some (W4,true):=E.f38_le 100 _ _ (by kernel_rfl)
theorem ZND :vS W4=some [1,1,2,0]:=kZ 100 _ _ (by kernel_rfl)
def W5 :List Data:=[⟨⟨#[78]⟩,[⟨⟨#[78,101,118,101,114]⟩,[⟨0,0⟩],0⟩]⟩,⟨⟨#[66]⟩,[⟨⟨#[84,114,117]⟩,[],0⟩,⟨⟨#[70,108,115]⟩,[],0⟩,⟨⟨#[77,97,121]⟩,[⟨0,0⟩],0⟩]⟩]
theorem ZNC :vX ⟨#[78,61,78,101,118,101,114,40,78,41,59,66,61,84,114,117,124,70,108,115,124,77,97,121,40,78,41]⟩=some (W5,true):=E.f38_le 100 _ _ (by kernel_rfl)
theorem ZNB :vS W5=some [0,0,0,0,1,1,1,1]:=kZ 100 _ _ (by kernel_rfl)
def W6 :List Data:=[⟨⟨#[83]⟩,[⟨⟨#[82,101,100]⟩,[],0⟩,⟨⟨#[71,114,101,101,110]⟩,[],0⟩,⟨⟨#[66,108,117,101]⟩,[],0⟩,⟨⟨#[77,105,120]⟩,[⟨0,0⟩,⟨0,0⟩],0⟩]⟩]
theorem ZNA :vX ⟨#[83,61,82,101,100,124,71,114,101,101,110,124,66,108,117,101,124,77,105,120,40,83,44,83,41]⟩=some (W6,true):=E.f38_le 100 _ _ (by kernel_rfl)
theorem ZM9 :vS W6=some [1,1,1,1]:=kZ 100 _ _ (by kernel_rfl)
def ZFD :List ByteArray:=[⟨#[76,61,78,105,108,124,67,111,110,115,40,73,44,76,41]⟩,⟨#[66,61,84,114,117,124,70,108,115,59,84,61,76,101,97,102,124,78,111,100,101,40,84,44,66,44,84,41]⟩,⟨#[69,61,78,117,109,40,73,41,58,49,124,66,111,108,40,66,41,58,50,124,65,100,100,40,69,49,44,69,49,41,58,49,124,73,102,40,69,50,44,69,42,44,69,42,41,59,66,61,84,114,117,124,70,108,115]⟩,⟨#[79,61,78,111,110,124,83,111,109,40,73,41,59,80,61,80,97,105,114,40,79,44,79,41]⟩,⟨#[86,61,69,110,100,58,49,124,83,111,109,101,40,73,44,86,49,41,58,50,124,84,119,111,40,86,42,41]⟩,⟨#[78,61,78,101,118,101,114,40,78,41,59,66,61,84,114,117,124,70,108,115,124,77,97,121,40,78,41]⟩,⟨#[83,61,82,101,100,124,71,114,101,101,110,124,66,108,117,101,124,77,105,120,40,83,44,83,41]⟩,vL]
theorem P.YBA :F.f0=some ZFD:=rfl
def ZAU :List (List Data):=[W0,W1,W2,W3,W4,W5,W6]
theorem P.YA9 {K:Nat}{r:ZB}(h:rok K r)(hK:K<=1099511627776):∃w r',F.f39 r=some (w,r')/\rok (K+1) r'/\w∈ZAU:=by
 unfold F.f39
 rw[P.YBA]
 simp only[oE,oS]
 obtain⟨v,r',e,h1,h2,h3,_⟩:=P.YK h hK 7
 have e7:i64.wrap (((8:Nat):Int) -1)=7:=by rw[ZD (by omega) (by omega)];rfl
 have e8:ZFD.length=8:=rfl
 rw[e8,e7,e]
 simp only[oS]
 have h3:=h3 (by omega)
 have hv:v=0∨v=1∨v=2∨v=3∨v=4∨v=5∨v=6:=by omega
 rcases hv with rfl|rfl|rfl|rfl|rfl|rfl|rfl
 ·have:at? ZFD 0=some (⟨#[76,61,78,105,108,124,67,111,110,115,40,73,44,76,41]⟩:ByteArray):=rfl
  rw[this];simp only[oS]
  rw[ZNM]
  exact⟨W0,r',rfl,h1,by simp[ZAU]⟩
 ·have:at? ZFD 1=some (⟨#[66,61,84,114,117,124,70,108,115,59,84,61,76,101,97,102,124,78,111,100,101,40,84,44,66,44,84,41]⟩:ByteArray):=rfl
  rw[this];simp only[oS]
  rw[ZNK]
  exact⟨W1,r',rfl,h1,by simp[ZAU]⟩
 ·have:at? ZFD 2=some (⟨#[69,61,78,117,109,40,73,41,58,49,124,66,111,108,40,66,41,58,50,124,65,100,100,40,69,49,44,69,49,41,58,49,124,73,102,40,69,50,44,69,42,44,69,42,41,59,66,61,84,114,117,124,70,108,115]⟩:ByteArray):=rfl
  rw[this];simp only[oS]
  rw[ZNI]
  exact⟨W2,r',rfl,h1,by simp[ZAU]⟩
 ·have:at? ZFD 3=some (⟨#[79,61,78,111,110,124,83,111,109,40,73,41,59,80,61,80,97,105,114,40,79,44,79,41]⟩:ByteArray):=rfl
  rw[this];simp only[oS]
  rw[ZNG]
  exact⟨W3,r',rfl,h1,by simp[ZAU]⟩
 ·have:at? ZFD 4=some (⟨#[86,61,69,110,100,58,49,124,83,111,109,101,40,73,44,86,49,41,58,50,124,84,119,111,40,86,42,41]⟩:ByteArray):=rfl
  rw[this];simp only[oS]
  rw[ZNE]
  exact⟨W4,r',rfl,h1,by simp[ZAU]⟩
 ·have:at? ZFD 5=some (⟨#[78,61,78,101,118,101,114,40,78,41,59,66,61,84,114,117,124,70,108,115,124,77,97,121,40,78,41]⟩:ByteArray):=rfl
  rw[this];simp only[oS]
  rw[ZNC]
  exact⟨W5,r',rfl,h1,by simp[ZAU]⟩
 ·have:at? ZFD 6=some (⟨#[83,61,82,101,100,124,71,114,101,101,110,124,66,108,117,101,124,77,105,120,40,83,44,83,41]⟩:ByteArray):=rfl
  rw[this];simp only[oS]
  rw[ZNA]
  exact⟨W6,r',rfl,h1,by simp[ZAU]⟩
def ZD5 (code:List Int):Prop:=code.length<=maxLen/\∀x,x∈code->0<=x/\x<=255
theorem ZIS {code:List Int}(h:ZD5 code)(hl:code.length<=2000):rok 0 ⟨code,0⟩:=⟨hl,h.2,vG 0,vG 0⟩
theorem ZKL {code:List Int}(h:ZD5 code):rok 0 ⟨(code.drop 0).take (2000-0),0⟩:=⟨by simp;omega,fun x hx=>h.2 x (xQ (xP hx)),vG 0,vG 0⟩
theorem ZDA {w:List Data}(h:w∈ZAU):ZAL w:=by
 simp only[ZAU,yX,xX,or_false]at h
 rcases h with rfl|rfl|rfl|rfl|rfl|rfl|rfl<;>exact ZKH (by decide)
def tIx (w:List Data)(t:Ty):Prop:=t.data= -1∨(0<=t.data/\t.data<w.length/\0<=t.index/\t.index<=3)
theorem tIx.tOk {w:List Data}{t:Ty}(h:tIx w t):tOk w t:=h.imp id fun h=>⟨h.1,h.2.1⟩
def ZB7 (T:List Int)(t:Ty):Int:=if t.data= -1 then 1 else T.getD (t.data*4+t.index).toNat 0
def ZB0 (T:List Int):Int->List Ty->Int
 |m,[]=>m+1
 |m,a::r=>if ZB7 T a=0 then 0 else ZB0 T (if m<ZB7 T a then ZB7 T a else m) r
def ZCp (w:List Data)(T:List Int)(t:Ty)(c:Int):Int:=ZB0 T 0 (ZP w t c)
def ZRo (i:Int)(c:Ctor):Bool:=decide (i=0)||decide (c.index=0)||decide (c.index=i)
def ZPf (w:List Data)(T:List Int):Bool:=decide (T.length=w.length*4)&& T.all (fun x=>decide (0<=x)&& decide (x<=2))&&
 (xT w.length).all fun d=>(xT 4).all fun i=>decide (T.getD (d*4+i) 0=0)||
  (xT (w.getD d Data.z).ctors.length).any fun k=>ZRo i ((w.getD d Data.z).ctors.getD k Ctor.z)&& decide (ZCp w T ⟨d,i⟩ k=T.getD (d*4+i) 0)
theorem ZMk {i:Int}{c:Ctor}(h:ZRo i c=true):ZMj i c:=by
 simp only[ZRo,vQ,decide_eq_true_eq]at h
 rcases h with(h|h)|h
 ·exact .inl h
 ·exact .inr (.inl h)
 ·exact .inr (.inr h)
theorem ZKI {i:Int}:∀{k:Nat} {l:List Ctor} {j:Nat} (hj:j<l.length),ZMj i l[j]->((k+j:Nat):Int)∈ZFt i k l
 |k,c::r,0,hj,h=>by simp only[ZFt];rw[iP (ZG (show ZMj i c from h))];exact xR _ (by simp)
 |k,c::r,j+1,hj,h=>by
  simp only[ZFt]
  refine xO _ ?_
  have:=ZKI (k:=k+1) (l:=r) (j:=j) (by simpa using hj) h
  have e:k+1+j=k+(j+1):=by omega
  rwa[e]at this
structure TOk (w:List Data)(T:List Int):Prop where
 wok:ZN w
 len:T.length=w.length*4
 rng:∀k,0<=T.getD k 0/\T.getD k 0<=2
 has:∀t,tIx w t->t.data≠-1->ZB7 T t≠0->∃c,c∈ZS w t/\ZCp w T t c=ZB7 T t
theorem TOk.of {w:List Data}{T:List Int}(hw:ZN w)(h:ZPf w T=true):TOk w T:=by
 simp only[ZPf,vP,decide_eq_true_eq]at h
 obtain⟨⟨h1,h2⟩,h3⟩:=h
 refine⟨hw,h1,fun k=> ?_,fun t ht hn hd=> ?_⟩
 ·by_cases hk:k<T.length
  ·rw[yQ,gQ hk]
   have:=xI.1 h2 _ (gM hk)
   simpa using this
  ·rw[yQ,List.getElem?_eq_none (by omega)];simp
 ·obtain⟨q1,q2,q3,q4⟩:=ht.resolve_left hn
  have a1:=xI.1 h3 t.data.toNat (by simp;omega)
  have a2:=xI.1 a1 t.index.toNat (by simp;omega)
  simp only[vQ,decide_eq_true_eq]at a2
  have e:(t.data*4+t.index).toNat=t.data.toNat*4+t.index.toNat:=by omega
  have ed:ZB7 T t=T.getD (t.data.toNat*4+t.index.toNat) 0:=by unfold ZB7;rw[iN hn,e]
  have a3:=a2.resolve_left (by rw[←ed];exact hd)
  obtain⟨k,hk,hkk⟩:=List.any_eq_true.1 a3
  simp only[vP,decide_eq_true_eq]at hkk
  have et:(⟨(t.data.toNat:Int),(t.index.toNat:Int)⟩:Ty)=t:=by
   obtain⟨d,i⟩:=t
   simp only at q1 q3 ⊢
   rw[vF q1,vF q3]
  rw[et]at hkk
  have hk':k<(ZY w t).ctors.length:=by simpa[ZY]using hk
  refine⟨(k:Int),?_,by rw[hkk.2,ed]⟩
  unfold ZS
  rw[iN hn]
  have hf:=ZMk hkk.1
  rw[vF q3]at hf
  have hg:(w.getD t.data.toNat Data.z).ctors.getD k Ctor.z=(ZY w t).ctors[k]:=by
   unfold ZY at hk' ⊢
   rw[yQ,gQ hk'];rfl
  rw[hg]at hf
  have:=ZKI (k:=0) hk' hf
  rwa[zM]at this
theorem TOk.dep {w:List Data}{T:List Int}(h:TOk w T)(t:Ty):0<=ZB7 T t/\ZB7 T t<=2:=by
 unfold ZB7;split
 ·omega
 ·exact h.rng _
theorem P.YO {w:List Data}{T:List Int}(h:TOk w T){t:Ty}(ht:tIx w t):F.f47 T t=some (ZB7 T t):=by
 unfold F.f47 F.f46 ZB7
 by_cases hn:t.data= -1
 ·rw[iP hn,iP hn]
 ·obtain⟨q1,q2,q3,q4⟩:=ht.resolve_left hn
  have hw:=h.wok.1
  rw[iN hn,iN hn,ZD (n:=t.data*4) (by omega) (by omega),ZD (by omega) (by omega)]
  simp only[oE,oS]
  have hl:(t.data*4+t.index).toNat<T.length:=by rw[h.len];omega
  unfold at?
  rw[iP (by omega),gQ hl,yQ,gQ hl]
  rfl
theorem ZLZ {w:List Data}(hw:ZN w){t:Ty}(ht:tIx w t){c:Int}(h:c∈ZS w t):∀a,a∈ZP w t c->tIx w a:=by
 have hc:=(Zl hw ht.tOk (ZW h).1).2 _ (ZBZ h).2
 have hn:=(ZW h).1
 intro a ha
 obtain⟨b,hb,rfl⟩:=yE.1 ha
 obtain⟨j,hj,rfl⟩:=yH hb
 have:=hc.2.2.2.2 j (by omega) hj
 obtain⟨q1,q2,q3,q4⟩:=ht.resolve_left hn
 unfold ZC3
 rcases this with⟨p1,p2⟩|⟨p1,p2,p3,p4⟩
 ·rw[iN (by omega)];exact .inl p1
 ·split
  ·next e=>
   refine .inr ⟨p1,p2,?_,?_⟩
   ·show 0<=(if(Zf w t c).index=0 then t.index else(Zf w t c).index)
    split
    ·exact q3
    ·exact hc.2.2.1
   ·show(if(Zf w t c).index=0 then t.index else(Zf w t c).index)<=3
    split
    ·exact q4
    ·exact hc.2.2.2.1
  ·next e=>exact .inr ⟨p1,p2,by omega,p4⟩
theorem ZFS {w:List Data}{T:List Int}(h:TOk w T):∀(l:List Ty) (m:Int),0<=m->m<=2->0<=ZB0 T m l/\ZB0 T m l<=3/\(ZB0 T m l≠0->m+1<=ZB0 T m l/\∀a,a∈l->ZB7 T a≠0/\ZB7 T a+1<=ZB0 T m l)
 | [],m,h0,h2=>⟨by simp only[ZB0];omega,by simp only[ZB0];omega,fun _=>⟨by simp only[ZB0];omega,fun a ha=>by cases ha⟩⟩
 |a::r,m,h0,h2=>by
  have hd:=h.dep a
  simp only[ZB0]
  by_cases ha:ZB7 T a=0
  ·rw[iP ha];exact⟨by omega,by omega,fun h=>absurd rfl h⟩
  ·rw[iN ha]
   have hm:∃m',(if m<ZB7 T a then ZB7 T a else m)=m'/\0<=m'/\m'<=2/\m<=m'/\ZB7 T a<=m':=by
    split
    ·exact⟨_,rfl,by omega,by omega,by omega,by omega⟩
    ·exact⟨_,rfl,by omega,by omega,by omega,by omega⟩
   obtain⟨m',e,k0,k2,k3,k4⟩:=hm
   rw[e]
   obtain⟨i1,i2,i3⟩:=ZFS h r m' k0 k2
   refine⟨i1,i2,fun hne=> ?_⟩
   obtain⟨j1,j2⟩:=i3 hne
   refine⟨by omega,fun b hb=> ?_⟩
   rcases yX.1 hb with rfl|hb
   ·exact⟨ha,by omega⟩
   ·exact j2 b hb
def mR (n:Int):Lo Int Int:=if n=0 then .ret 0 else .go (n-1)
theorem P.Yq {w:List Data}{T:List Int}(h:TOk w T)(l:List Ty)(hl:∀a,a∈l->tIx w a):∀(n k:Nat) (m:Int),l.length-k=n->0<=m->m<=2->
  kV T l m k=some (mR (ZB0 T m (l.drop k))):=by
 intro n
 induction n with
 |zero=>
  intro k m hn h0 h2
  rw[kV,iN (by omega),zY (by omega)]
  show some (Lo.go m)=some (mR (m+1))
  unfold mR
  rw[iN (by omega)];congr 2;omega
 |succ n ih=>
  intro k m hn h0 h2
  have hk:k<l.length:=by omega
  have hd:=h.dep l[k]
  rw[kV,iP hk,gQ hk]
  simp only[oE,oS]
  rw[P.YO h (hl _ (gM hk)),zX hk]
  simp only[oS,ZB0]
  by_cases ha:ZB7 T l[k]=0
  ·rw[iP ha,iP ha];rfl
  ·rw[iN ha,iN ha]
   by_cases hm:m<ZB7 T l[k]
   ·rw[iP hm,iP hm,ih _ _ (by omega) (by omega) (by omega)]
   ·rw[iN hm,iN hm,ih _ _ (by omega) (by omega) (by omega)]
theorem P.YAa {w:List Data}{T:List Int}(h:TOk w T){t:Ty}(ht:tIx w t){c:Int}(hc:c∈ZS w t):F.f49 w T t c=some (ZCp w T t c):=by
 unfold F.f49
 rw[P.YI w h.wok t ht.tOk c hc]
 simp only[oE,oS]
 rw[P.Yq h _ (ZLZ h.wok ht hc) _ 0 0 rfl (by omega) (by omega),zZ]
 simp only[oS]
 have:=ZFS h (ZP w t c) 0 (by omega) (by omega)
 unfold ZCp
 unfold mR
 by_cases h0:ZB0 T 0 (ZP w t c)=0
 ·rw[iP h0,h0]
 ·rw[iN h0]
  show some (i64.wrap (ZB0 T 0 (ZP w t c) -1+1))=_
  rw[ZD (by omega) (by omega)];congr 1;omega
def ZCx (w:List Data)(T:List Int)(t:Ty)(depth:Int)(c:Int):Bool:=decide (0<ZCp w T t c)&& (decide (ZCp w T t c<=depth)||decide (ZCp w T t c=ZB7 T t))
theorem P.Yp {w:List Data}{T:List Int}(h:TOk w T){t:Ty}(ht:tIx w t)(r:ZB)(depth:Int)(l:List Int)(hl:∀c,c∈l->c∈ZS w t)(h8:l.length<=4):∀(n k:Nat) (out:List Int),l.length-k=n->out.length<=k->
  uF r w T t depth l out k=some (out++(l.drop k).filter (ZCx w T t depth)):=by
 intro n
 induction n with
 |zero=>intro k out hn ho;rw[uF,iN (by omega),zY (by omega)];simp
 |succ n ih=>
  intro k out hn ho
  have hk:k<l.length:=by omega
  rw[uF,iP hk,gQ hk]
  simp only[oE,oS]
  rw[P.YAa h ht (hl _ (gM hk)),zX hk,P.YO h ht]
  simp only[oS]
  have yes:ZCx w T t depth l[k]=true->uF r w T t depth l (out++[l[k]]) (k+1)=some (out++(l[k]::l.drop (k+1)).filter (ZCx w T t depth)):=fun hf=>by
   rw[ih (k+1) _ (by omega) (by simp;omega),List.filter_cons_of_pos hf];simp
  have no:ZCx w T t depth l[k]=false->uF r w T t depth l out (k+1)=some (out++(l[k]::l.drop (k+1)).filter (ZCx w T t depth)):=fun hf=>by
   rw[ih (k+1) _ (by omega) (by omega),List.filter_cons_of_neg (by simp[hf])]
  by_cases h1:0<ZCp w T t l[k]
  ·rw[iP h1]
   by_cases h2:ZCp w T t l[k]<=depth
   ·rw[iP h2,iP (by omega)];exact yes (by simp[ZCx,h1,h2])
   ·rw[iN h2]
    by_cases h3:ZCp w T t l[k]=ZB7 T t
    ·rw[iP h3,iP (by omega)];exact yes (by simp only[ZCx,h1,h3];simp[←h3,h1])
    ·rw[iN h3];exact no (by simp[ZCx,h2,h3])
  ·rw[iN h1];exact no (by simp[ZCx,h1])
theorem ZKJ {w:List Data}(hw:ZN w){t:Ty}(ht:tOk w t):(ZS w t).length<=4:=by
 unfold ZS
 split
 ·simp
 ·next hn=>exact zG (ZIP _ _ _) (Zl hw ht hn).1
theorem ZPa (c n:Int)(ks:List Value):(⟨c,n,ks⟩:Value).wt=((ks.map fun k=>1+k.wt).sum):=by
 have:=ZNm ⟨c,n,ks⟩
 simpa using this
theorem P.YAt {w:List Data}{T:List Int}(h:TOk w T):∀(n:Nat) (t:Ty) (depth:Int) (K:Nat) (r:ZB),tIx w t->ZB7 T t≠0->ZB7 T t<=n->depth<=n->-1000000+n<=depth->n<=12->rok K r->K+4^n<=1099511627776->
  ∃v r',kD r w T t depth=some (v,r')/\rok (K+4^n) r'/\pv w false n t v/\v.wt+1<=4^n/\(t.data≠-1->∀a,a∈ZP w t v.ctor->ZB7 T a≠0)
 |0,t,depth,K,r,ht,hd,hdn,_,_,_,_,_=>by have:=h.dep t;omega
 |n+1,t,depth,K,r,ht,hd,hdn,hde,hlo,h12,hr,hK=>by
  have p4:1<=4^n:=Nat.one_le_pow _ _ (by omega)
  have p4':4^ (n+1)=4*4^n:=by rw[zI];omega
  rw[kD]
  by_cases hn:t.data= -1
  ·rw[iP hn]
   obtain⟨v,r',e,h1,h2,h3,_⟩:=P.YK hr (by omega) 10
   have h3:=h3 (by omega)
   rw[e]
   refine⟨_,_,rfl,h1.mono (by omega),?_,?_,fun h=>absurd hn h⟩
   ·exact .inr ⟨by simp,.inl ⟨hn,rfl,h2,by show v<=9;omega,rfl⟩⟩
   ·rw[ZPa];simp;omega
  ·rw[iN hn,P.YP w h.wok t ht.tOk]
   simp only[oE,oS]
   rw[P.Yp h ht r depth _ (fun c hc=>hc) (ZKJ h.wok ht.tOk) _ 0 [] rfl (by simp),zZ,yN]
   simp only[oS]
   obtain⟨c0,hc0,hm0⟩:=h.has t ht hn hd
   have hdt:=h.dep t
   have hf0:c0∈(ZS w t).filter (ZCx w T t depth):=xD.2 ⟨hc0,by simp only[ZCx,hm0];simp;omega⟩
   have hpos:=List.length_pos_of_mem hf0
   obtain⟨v,r1,e,h1,h2,h3,_⟩:=P.YK hr (by omega) (((ZS w t).filter (ZCx w T t depth)).length:Int)
   obtain⟨c,hcx,hcm⟩:=ZE1 h2 (h3 (by omega))
   rw[e];simp only[oS]
   rw[hcx];simp only[oS]
   obtain⟨hcl,hcf⟩:=xD.1 hcm
   simp only[ZCx,vP,vQ,decide_eq_true_eq]at hcf
   rw[P.YI w h.wok t ht.tOk c hcl]
   simp only[oS]
   obtain⟨g1,g2,g3⟩:=ZFS h (ZP w t c) 0 (by omega) (by omega)
   have g3:=g3 (by unfold ZCp at hcf;omega)
   have hal:=(ZPG h.wok ht.tOk hcl).1
   have hax:=ZLZ h.wok ht hcl
   have hmn:ZCp w T t c<=(n:Int)+1:=by rcases hcf.2 with q|q<;>omega
   have kid:∀a,a∈ZP w t c->∀K r,rok K r->K+4^n<=1099511627776->∃v r',kD r w T a (i64.wrap (depth-1))=some (v,r')/\rok (K+4^n) r'/\pv w false n a v/\v.wt+1<=4^n:=by
    intro a ha K r hr hK
    rw[ZD (by omega) (by omega)]
    obtain⟨q1,q2⟩:=g3.2 a ha
    obtain⟨v,r',e,k1,k2,k3,_⟩:=P.YAt h n a (depth-1) K r (hax a ha) q1 (by unfold ZCp at hmn;omega) (by omega) (by omega) (by omega) hr hK
    exact⟨v,r',e,k1,k2,k3⟩
   have loop:∀(m k:Nat) (z:List Int) (z33:Int) (out:List Value) (K:Nat),(ZP w t c).length-k=m->out.length=k->rok K ⟨z,z33⟩->K+m*4^n<=1099511627776->
     (∀i (hi:i<out.length) (hi':i<(ZP w t c).length),pv w false n (ZP w t c)[i] out[i])->((out.map fun k=>1+k.wt).sum)<=k*4^n->k<=(ZP w t c).length->
     ∃z' z33' out',kU w T depth c (ZP w t c) z z33 out k=some (z',z33',out')/\rok (K+m*4^n) ⟨z',z33'⟩/\out'.length=(ZP w t c).length/\
      (∀i (hi:i<out'.length) (hi':i<(ZP w t c).length),pv w false n (ZP w t c)[i] out'[i])/\((out'.map fun k=>1+k.wt).sum)<=(ZP w t c).length*4^n:=by
    intro m
    induction m with
    |zero=>
     intro k z z33 out K hm ho hr hK hp hs hk
     rw[kU,iN (by omega)]
     have:k=(ZP w t c).length:=by omega
     subst this
     exact⟨z,z33,out,rfl,by simpa using hr,ho,hp,hs⟩
    |succ m ih=>
     intro k z z33 out K hm ho hr hK hp hs hkl
     have hk:k<(ZP w t c).length:=by omega
     rw[kU,iP hk,gQ hk]
     simp only[oE,oS]
     have e1:(m+1)*4^n=m*4^n+4^n:=by rw[zT]
     obtain⟨v,r',e,k1,k2,k3⟩:=kid _ (gM hk) K ⟨z,z33⟩ hr (by omega)
     rw[e];simp only[oS]
     rw[iP (by omega)]
     have e2:(k+1)*4^n=k*4^n+4^n:=by rw[zT]
     have key:=fun p1 p2=>ih (k+1) r'.f0 r'.f1 (out++[v]) (K+4^n) (by omega) (by simp[ho]) k1 (by omega) p1 p2 hk
     obtain⟨z',z33',out',q1,q2,q3⟩:=key (by
      intro i hi hi'
      by_cases hik:i<out.length
      ·rw[List.getElem_append_left hik];exact hp i hik hi'
      ·have:i=k:=by simp at hi;omega
       subst this
       rw[xM (by omega)]
       simpa using k2) (by
      simp only[yO,List.sum_append,yB,xH,yW,List.sum_nil];omega)
     exact⟨z',z33',out',q1,q2.mono (by omega),q3⟩
   have m3:(ZP w t c).length*4^n<=3*4^n:=zD _ hal
   obtain⟨z',z33',out',q1,q2,q3,q4,q5⟩:=loop _ 0 r1.f0 r1.f1 [] (K+1) rfl rfl h1 (by simp only[zU];omega) (fun i hi=>by simp at hi) (by simp) (by omega)
   rw[q1];simp only[oS]
   refine⟨_,_,rfl,q2.mono (by simp only[zU];omega),?_,?_,fun _ a ha=>(g3.2 a ha).1⟩
   ·refine .inr ⟨by simp,.inr ⟨hn,rfl,hcl,q3,fun i _ _ hi hi'=>q4 i hi' hi⟩⟩
   ·rw[ZPa];omega
theorem P.YA5 {w:List Data}{T:List Int}(h:TOk w T)(n:Nat)(t:Ty)(depth:Int)(K:Nat)(r:ZB)(a1:tIx w t)(a2:ZB7 T t≠0)(a3:ZB7 T t<=n)(a4:depth<=n)(a5: -1000000+n<=depth)(a6:n<=12)(a7:rok K r)(a8:K+4^n<=1099511627776):
  ∃v r',kD r w T t depth=some (v,r')/\rok (K+4^n) r'/\pv w false n t v/\v.wt+1<=4^n:=by
 obtain⟨v,r',e,k1,k2,k3,_⟩:=P.YAt h n t depth K r a1 a2 a3 a4 a5 a6 a7 a8
 exact⟨v,r',e,k1,k2,k3⟩
theorem ZLu {w:List Data}(hw:w∈ZAU):ZN w/\1<=w.length/\w.length<=2/\ZAL w/\∃T,vS w=some T/\TOk w T:=by
 have hs:=ZDA hw
 have wok:kX w=some true->ZN w:=fun h=>by rw[P.YR w hs]at h;exact ZDz.1 (zA h)
 simp only[ZAU,yX,xX,or_false]at hw
 rcases hw with rfl|rfl|rfl|rfl|rfl|rfl|rfl
 ·have:=wok (E.f24_le 100 _ _ (by kernel_rfl));exact⟨this,by decide,by decide,hs,_,ZNL,TOk.of this (by decide)⟩
 ·have:=wok (E.f24_le 100 _ _ (by kernel_rfl));exact⟨this,by decide,by decide,hs,_,ZNJ,TOk.of this (by decide)⟩
 ·have:=wok (E.f24_le 100 _ _ (by kernel_rfl));exact⟨this,by decide,by decide,hs,_,ZNH,TOk.of this (by decide)⟩
 ·have:=wok (E.f24_le 100 _ _ (by kernel_rfl));exact⟨this,by decide,by decide,hs,_,ZNF,TOk.of this (by decide)⟩
 ·have:=wok (E.f24_le 100 _ _ (by kernel_rfl));exact⟨this,by decide,by decide,hs,_,ZND,TOk.of this (by decide)⟩
 ·have:=wok (E.f24_le 100 _ _ (by kernel_rfl));exact⟨this,by decide,by decide,hs,_,ZNB,TOk.of this (by decide)⟩
 ·have:=wok (E.f24_le 100 _ _ (by kernel_rfl));exact⟨this,by decide,by decide,hs,_,ZM9,TOk.of this (by decide)⟩
theorem P.YA4 {K:Nat}{r:ZB}(h:rok K r)(hK:K+300<=1099511627776):∃w t v r' T,F.f58 r=some (w,t,v,r')/\rok (K+300) r'/\w∈ZAU/\vS w=some T/\TOk w T/\tIx w t/\t.index<=2/\0<=t.index/\ZB7 T t≠0/\pv w false 4 t v/\v.wt+1<=256/\(t.data= -1->t.index=0):=by
 unfold F.f58
 obtain⟨w,r1,e1,h1,hw⟩:=P.YA9 h (by omega)
 obtain⟨hwo,hl1,hl2,hs,T,hT,hTo⟩:=ZLu hw
 obtain⟨p,r2,e2,h2,p0,p1,_⟩:=P.YK h1 (by omega) (w.length:Int)
 obtain⟨i,r3,e3,h3,hi⟩:=P.num h2 (by omega) [0,0,1,2] (by simp)
 obtain⟨d,r4,e4,h4,hd⟩:=P.num h3 (by omega) [3,2,4,1] (by simp)
 have hi:0<=i/\i<=2:=by simp at hi;omega
 have hd:1<=d/\d<=4:=by simp at hd;omega
 have p1:=p1 (by omega)
 have ht:tIx w ⟨p,i⟩:=.inr ⟨p0,p1,hi.1,by show i<=3;omega⟩
 rw[e1];simp only[oE,oS]
 rw[hT];simp only[oS]
 rw[e2];simp only[oS]
 rw[e3];simp only[oS]
 rw[P.YO hTo ht,e4];simp only[oS]
 split
 ·obtain⟨v,r',e,k1,k2,k3⟩:=P.YA5 hTo 4 ⟨-1,0⟩ d _ r4 (.inl rfl) (by simp[ZB7]) (by simp[ZB7]) (by omega) (by omega) (by omega) h4 (by omega)
  rw[e]
  exact⟨w,⟨-1,0⟩,v,r',T,rfl,k1.mono (by omega),hw,hT,hTo,.inl rfl,by simp,by simp,by simp[ZB7],k2,k3,fun _=>rfl⟩
 ·next hne=>
  have:=hTo.dep ⟨p,i⟩
  obtain⟨v,r',e,k1,k2,k3⟩:=P.YA5 hTo 4 ⟨p,i⟩ d _ r4 ht hne (by omega) (by omega) (by omega) (by omega) h4 (by omega)
  rw[e]
  exact⟨w,⟨p,i⟩,v,r',T,rfl,k1.mono (by omega),hw,hT,hTo,ht,hi.2,hi.1,hne,k2,k3,fun hh=>by have:p= -1:=hh;omega⟩
theorem ZCc {a b:ByteArray}(h:a.data.toList=b.data.toList):a=b:=by
 obtain⟨x⟩:=a
 obtain⟨y⟩:=b
 congr 1
 exact Array.toList_inj.1 h
theorem ZCd (a b:ByteArray):(a++b).data.toList=a.data.toList++b.data.toList:=by rw[vN,Array.toList_append]
theorem ZFn (a:ByteArray):a.size=a.data.toList.length:=by rw[Array.length_toList];rfl
theorem ZM (a b:ByteArray):(a++b).size=a.size+b.size:=by rw[ZFn,ZCd,yA,←ZFn,←ZFn]
theorem ZAT (a b c:ByteArray):a++b++c=a++(b++c):=ZCc (by simp[ZCd])
theorem ZNj (a:ByteArray):a++vL=a:=ZCc (by simp[ZCd])
theorem ZNc (a:ByteArray):vL++a=a:=ZCc (by simp[ZCd])
theorem ZNn (n:Int):IntKind.u8.wrap n=n%256:=rfl
theorem ZFw (n:Int):i64.wrap n%256=n%256:=by
 have:i64.wrap n=n%18446744073709551616∨i64.wrap n=n%18446744073709551616-18446744073709551616:=by
  unfold IntKind.wrap
  simp only
  split
  ·exact .inr rfl
  ·exact .inl rfl
 rcases this with e|e<;>omega
noncomputable def ZEO (l:List VarType)(n:Int):Int:=match ZG5 (fun x=>x.var=n) 0 l with
 |some j=>(j:Int)
 |none=> -1
theorem P.YH (l:List VarType)(n:Int):kR l n=some (ZEO l n):=by
 unfold kR ZEO
 rw[ZMl (a:=l) (p:=fun x=>x.var=n) (L:=uW l n) (fun k hk=>by rw[uW,iN (by omega)])
  (fun k hk hp=>by rw[uW,iP hk,gQ hk];simp only[oE,oS];rw[iN hp])
  (fun k hk hp=>by rw[uW,iP hk,gQ hk];simp only[oE,oS];rw[iP hp]) _ 0 rfl,zZ]
 cases ZG5 (fun x=>x.var=n) 0 l<;>rfl
theorem ZB5 (l:List VarType)(n:Int):ZEO l n= -1∨∃(j:Nat) (h:j<l.length),ZEO l n=(j:Int)/\l[j].var=n/\∀i (hi:i<l.length),i<j->l[i].var≠n:=by
 unfold ZEO
 cases h:ZG5 (fun x:VarType=>x.var=n) 0 l with
 |none=>exact .inl rfl
 |some j=>
  obtain⟨_,h2,h3,h4⟩:=ZA3 h
  exact .inr ⟨j,h2,rfl,h3,h4⟩
theorem ZEt (l:List VarType)(j:Nat)(hj:j<l.length):ZEO l l[j].var=(j:Int)↔∀i (hi:i<l.length),i<j->l[i].var≠l[j].var:=by
 constructor
 ·intro h
  rcases ZB5 l l[j].var with q|⟨k,hk,q1,q2,q3⟩
  ·omega
  ·have:k=j:=by omega
   subst this;exact q3
 ·intro h
  unfold ZEO
  cases hf:ZG5 (fun x:VarType=>x.var=l[j].var) 0 l with
  |none=>exact absurd rfl (ZA4 hf l[j] (gM hj))
  |some k=>
   obtain⟨_,h2,h3,h4⟩:=ZA3 hf
   show(k:Int)=j
   have:¬k<j:=fun hlt=>h k h2 hlt h3
   have:¬j<k:=fun hlt=>h4 j hj (by omega) rfl
   omega
theorem P.YBI (v:Int):F.f114 v=some (dec (0<=v/\v<=5)):=by
 unfold F.f114;rw[P.YJ];rfl
theorem ZE3 {w:List Data}(hw:ZN w){t:Ty}(ht:ZX w t){c:Int}(h:c∈ZS w t):∀a,a∈ZP w t c->ZX w a:=by
 have hc:=(Zl hw (ZBR ht.1) (ZW h).1).2 _ (ZBZ h).2
 have hn:=(ZW h).1
 intro a ha
 obtain⟨b,hb,rfl⟩:=yE.1 ha
 obtain⟨j,hj,rfl⟩:=yH hb
 have:=hc.2.2.2.2 j (by omega) hj
 have ht2:=ht.2
 rcases ht.1 with q|⟨q1,q2,q3,q4⟩
 ·exact absurd q.1 hn
 unfold ZC3
 rcases this with⟨p1,p2⟩|⟨p1,p2,p3,p4⟩
 ·rw[iN (by omega)];exact⟨.inl ⟨p1,p2⟩,by omega⟩
 ·split
  ·next e=>
   have hx:0<=(if(Zf w t c).index=0 then t.index else(Zf w t c).index)/\(if(Zf w t c).index=0 then t.index else(Zf w t c).index)<=3:=by
    split
    ·exact⟨ht2,q4⟩
    ·exact⟨hc.2.2.1,hc.2.2.2.1⟩
   exact⟨.inr ⟨p1,p2,by show -1<=(if(Zf w t c).index=0 then t.index else(Zf w t c).index);omega,hx.2⟩,hx.1⟩
  ·next e=>exact⟨.inr ⟨p1,p2,p3,p4⟩,by omega⟩
def ZAw (w:List Data)(t:Ty)(p:Pattern):Prop:=
 (p.op=1/\p.var=0/\p.n=0/\p.m=0/\p.ctor=0)∨
 (p.op=2/\0<=p.var/\p.var<=5/\p.n=0/\p.m=0/\p.ctor=0)∨
 (p.op=3/\p.var=0/\p.ctor=0/\t.data= -1/\0<=p.n/\p.n<=p.m/\p.m<=9)∨
 (p.op=4/\p.var=0/\p.n=0/\p.m=0/\p.ctor∈ZS w t)∨
 (p.op=5/\p.var=0/\p.n=0/\p.m=0/\p.ctor=0)∨
 (p.op=6/\0<=p.var/\p.var<=5/\p.n=0/\p.m=0/\p.ctor=0)
noncomputable def ZF (w:List Data)(t:Ty)(p:Pattern):List Ty:=if p.op=4 then ZP w t p.ctor else if p.op=5 then[t,t]else if p.op=6 then[t]else[]
theorem P.YAh (w:List Data)(hw:ZN w)(t:Ty)(ht:tOk w t)(p:Pattern):F.f66 w t p=some (dec (ZAw w t p)):=by
 unfold F.f66
 rw[P.YP w hw t ht]
 simp only[oE,oS,P.YAi]
 have yes:ZAw w t p->some true=some (dec (ZAw w t p)):=fun h=>by rw[ZG h]
 have no:¬ZAw w t p->some false=some (dec (ZAw w t p)):=fun h=>by rw[ZE h]
 repeat' split
 all_goals first
  |(refine no fun h=> ?_;unfold ZAw at h;omega)
  |(refine yes ?_;unfold ZAw;omega)
  |skip
 ·rw[←ZAM];congr 1;refine ZL ?_;unfold ZAw;omega
 ·congr 1;refine ZL ⟨fun h=>.inr (.inr (.inr (.inl ⟨by assumption,by assumption,by assumption,by assumption,h⟩))),fun h=> ?_⟩
  unfold ZAw at h
  rcases h with h|h|h|h|h|h
  ·omega
  ·omega
  ·omega
  ·exact h.2.2.2.2
  ·omega
  ·omega
theorem P.YM (w:List Data)(hw:ZN w)(t:Ty)(ht:tOk w t)(p:Pattern)(h:ZAw w t p):F.f69 w t p=some (ZF w t p):=by
 unfold F.f69 ZF
 by_cases h4:p.op=4
 ·rw[iP h4,iP h4]
  have hc:p.ctor∈ZS w t:=by
   unfold ZAw at h
   rcases h with h|h|h|h|h|h
   ·omega
   ·omega
   ·omega
   ·exact h.2.2.2.2
   ·omega
   ·omega
  rw[P.YI w hw t ht _ hc];rfl
 ·rw[iN h4,iN h4]
  have k:F.f67 p.op=some (if p.op=5 then 2 else if p.op=6 then 1 else 0):=by
   unfold F.f67;split
   ·rfl
   ·split
    ·rfl
    ·rfl
  by_cases h5:p.op=5
  ·rw[iP h5]
   rw[iP h5]at k
   rw[uA,k]
   simp only[oE,oS]
   rw[iP (by omega),iP (by simp),iP (by omega),uA,k]
   simp only[oE,oS]
   rw[iP (by omega),iP (by simp),iP (by omega),uA,k]
   simp only[oE,oS]
   rw[iN (by omega)];simp
  ·rw[iN h5]
   rw[iN h5]at k
   by_cases h6:p.op=6
   ·rw[iP h6]
    rw[iP h6]at k
    rw[uA,k]
    simp only[oE,oS]
    rw[iP (by omega),iP (by simp),iP (by omega),uA,k]
    simp only[oE,oS]
    rw[iN (by omega)];simp
   ·rw[iN h6]
    rw[iN h6]at k
    rw[uA,k]
    simp only[oE,oS]
    rw[iN (by omega)];simp
theorem ZAb {w:List Data}(hw:ZN w){t:Ty}(ht:ZX w t){p:Pattern}(h:ZAw w t p):∀a,a∈ZF w t p->ZX w a:=by
 unfold ZF
 intro a ha
 split at ha
 ·next h4=>
  have hc:p.ctor∈ZS w t:=by
   unfold ZAw at h
   rcases h with h|h|h|h|h|h
   ·omega
   ·omega
   ·omega
   ·exact h.2.2.2.2
   ·omega
   ·omega
  exact ZE3 hw ht hc a ha
 ·split at ha
  ·simp at ha;subst ha;exact ht
  ·split at ha
   ·simp at ha;subst ha;exact ht
   ·cases ha
theorem P.YAy (p:Pattern)(c n v:Bool)(k:Int):F.f113 p c n v k=some (dec ((c=true∨p.ctor=0)/\(n=true∨(p.n=0/\p.m=0))/\(v=true∨p.var=0)/\(p.kids.length:Int)=k)):=by
 unfold F.f113
 cases c<;>cases n<;>cases v<;>simp only[vO,if_true,if_false,false_or,true_or,true_and]
 all_goals(repeat' split)
 all_goals first
  |(rw[←ZAM];done)
  |(rw[←ZAM];congr 1;refine ZL ?_;omega)
  |(rw[ZE];omega)
theorem P.YAl (w:List Data)(hw:ZN w)(t:Ty)(ht:tOk w t)(p:Pattern):
  ∃ts,F.f123 w t p=some (ts,dec (ZAw w t p/\p.kids.length=(ZF w t p).length))/\(ZAw w t p->ts=ZF w t p):=by
 unfold F.f123
 simp only[P.YAy,P.YBI,P.YAV w hw t ht,P.YT,oE,oS,ZDz]
 by_cases h1:p.op=1
 ·rw[iP h1]
  have e:ZF w t p=[]:=by unfold ZF;rw[iN (by omega),iN (by omega),iN (by omega)]
  rw[e]
  refine⟨[],?_,fun _=>rfl⟩
  congr 2;refine ZL ?_;unfold ZAw;simp only[vO,false_or,yM];omega
 rw[iN h1]
 by_cases h2:p.op=2
 ·rw[iP h2]
  have e:ZF w t p=[]:=by unfold ZF;rw[iN (by omega),iN (by omega),iN (by omega)]
  rw[e]
  refine⟨[],?_,fun _=>rfl⟩
  split
  ·next hh=>
   simp only[vO,false_or,true_or,true_and]at hh
   congr 2;refine ZL ?_;unfold ZAw;simp only[yM,yJ];omega
  ·next hh=>
   simp only[vO,false_or,true_or,true_and]at hh
   rw[ZE];unfold ZAw;simp only[yM,yJ];omega
 rw[iN h2]
 by_cases h3:p.op=3
 ·rw[iP h3]
  have e:ZF w t p=[]:=by unfold ZF;rw[iN (by omega),iN (by omega),iN (by omega)]
  rw[e]
  refine⟨[],?_,fun _=>rfl⟩
  simp only[vO,false_or,true_or,true_and,yM]
  repeat' split
  all_goals first
   |(rw[←ZAM];congr 2;refine ZL ?_;unfold ZAw;omega)
   |(rw[ZE];unfold ZAw;omega)
 rw[iN h3]
 by_cases h4:p.op=4
 ·rw[iP h4]
  have e:ZF w t p=ZP w t p.ctor:=by unfold ZF;rw[iP h4]
  rw[e]
  by_cases hc:p.ctor∈ZS w t
  ·rw[iP hc,P.YAJ w hw t ht _ hc]
   simp only[oS]
   refine⟨ZP w t p.ctor,?_,fun _=>rfl⟩
   congr 2;refine ZL ⟨fun h=>⟨.inr (.inr (.inr (.inl ⟨h4,?_,?_,?_,hc⟩))),?_⟩,fun h=> ?_⟩
   ·simp at h;exact h.2.1
   ·simp at h;exact h.1.1
   ·simp at h;exact h.1.2
   ·simp at h;omega
   ·obtain⟨h,hl⟩:=h
    unfold ZAw at h
    rcases h with h|h|h|h|h|h
    ·omega
    ·omega
    ·omega
    ·exact⟨.inl trivial,.inr ⟨h.2.2.1,h.2.2.2.1⟩,.inr h.2.1,by omega⟩
    ·omega
    ·omega
  ·rw[iN hc]
   have hn:¬ZAw w t p:=by
    intro h
    unfold ZAw at h
    rcases h with h|h|h|h|h|h
    ·omega
    ·omega
    ·omega
    ·exact hc h.2.2.2.2
    ·omega
    ·omega
   exact⟨[],by rw[ZE fun h=>hn h.1],fun h=>absurd h hn⟩
 rw[iN h4]
 by_cases h5:p.op=5
 ·rw[iP h5]
  have e:ZF w t p=[t,t]:=by unfold ZF;rw[iN (by omega),iP (by omega)]
  rw[e]
  refine⟨[t,t],?_,fun _=>rfl⟩
  congr 2;refine ZL ?_;unfold ZAw;simp only[vO,false_or,yM,yJ];omega
 rw[iN h5]
 by_cases h6:p.op=6
 ·rw[iP h6]
  have e:ZF w t p=[t]:=by unfold ZF;rw[iN (by omega),iN (by omega),iP (by omega)]
  rw[e]
  refine⟨[t],?_,fun _=>rfl⟩
  split
  ·next hh=>
   simp only[vO,false_or,true_or,true_and]at hh
   congr 2;refine ZL ?_;unfold ZAw;simp only[yM,yJ];omega
  ·next hh=>
   simp only[vO,false_or,true_or,true_and]at hh
   rw[ZE];unfold ZAw;simp only[yM,yJ];omega
 rw[iN h6]
 have hn:¬ZAw w t p:=by unfold ZAw;omega
 exact⟨[],by rw[ZE fun h=>hn h.1],fun h=>absurd h hn⟩
def Zi (w:List Data):Nat->Ty->Pattern->Prop
 |0,_,_=>False
 |d+1,t,p=>ZAw w t p/\p.kids.length=(ZF w t p).length/\∀i,0<=i->i<(ZF w t p).length->∀(h:i<(ZF w t p).length) (h':i<p.kids.length),Zi w d (ZF w t p)[i] p.kids[i]
theorem P.YN (w:List Data)(hw:ZN w):∀(d:Nat) (t:Ty) (p:Pattern),ZX w t->d<=10->kA w t p d=some (dec (Zi w d t p))
 |0,t,p,ht,hd=>by rw[kA,iP (by omega),ZE (by simp[Zi])]
 |d+1,t,p,ht,hd=>by
  rw[kA,iN (by omega),P.YAh w hw t (ZBR ht.1)]
  simp only[oE,oS]
  by_cases ho:ZAw w t p
  ·rw[iP (ZG ho),P.YM w hw t (ZBR ht.1) p ho]
   simp only[oS]
   have hts:=ZAb hw ht ho
   by_cases h4:p.kids.length=(ZF w t p).length
   ·rw[iP h4,ZJ8 (n:=(ZF w t p).length) (r:=false) (Q:=fun i=>∀(h:i<(ZF w t p).length) (h':i<p.kids.length),Zi w d (ZF w t p)[i] p.kids[i]) (L:=uZ w p ((d+1:Nat):Int) (ZF w t p))
     (fun k hk=>by rw[uZ,iN (by omega)])
     (fun k hk hq=>by
      have hk':k<p.kids.length:=by omega
      rw[uZ,iP hk,gQ hk,gQ hk']
      simp only[oE,oS]
      rw[ZD (by omega) (by omega),show((d+1:Nat):Int) -1=(d:Int)from by omega,P.YN w hw d _ _ (hts _ (gM hk)) (by omega)]
      simp only[oS]
      rw[iP (ZG (hq hk hk'))])
     (fun k hk hq=>by
      have hk':k<p.kids.length:=by omega
      rw[uZ,iP hk,gQ hk,gQ hk']
      simp only[oE,oS]
      rw[ZD (by omega) (by omega),show((d+1:Nat):Int) -1=(d:Int)from by omega,P.YN w hw d _ _ (hts _ (gM hk)) (by omega)]
      simp only[oS]
      rw[iN (by rw[ZE fun h=>hq fun _ _=>h];simp)]) _ 0 rfl]
    simp only[oS]
    by_cases hall:∀i,0<=i->i<(ZF w t p).length->∀(h:i<(ZF w t p).length) (h':i<p.kids.length),Zi w d (ZF w t p)[i] p.kids[i]
    ·rw[iP (ZG hall),ZG ⟨ho,h4,hall⟩]
    ·rw[iN (by rw[ZE hall];simp),ZE fun h=>hall h.2.2]
   ·rw[iN h4,ZE fun h=>h4 h.2.1]
  ·rw[iN (by rw[ZE ho];simp),ZE fun h=>ho h.1]
theorem P.YAx (v:Pattern)(hv:v.wt<=1048576):∀(most:Nat),most<=60->∃c:Nat,kS v most=some (c:Int)/\1<=c/\c<=1+v.wt/\(1+v.wt<=most->c=1+v.wt)/\(most<1+v.wt->most<c):=by
 induction v using Pattern.ind with
 |_ v ih=>
  intro most hm
  have hw:=v.wt_eq
  have key:∀(m i:Nat) (n:Nat),v.kids.length-i=m->1<=n->n+((v.kids.drop i).map fun k=>1+k.wt).sum<=1+v.wt->
    ∃c:Nat,uY v most n i=some (c:Int)/\n<=c/\c<=n+((v.kids.drop i).map fun k=>1+k.wt).sum/\(n+((v.kids.drop i).map fun k=>1+k.wt).sum<=most->c=n+((v.kids.drop i).map fun k=>1+k.wt).sum)/\(most<n+((v.kids.drop i).map fun k=>1+k.wt).sum->most<c):=by
   intro m
   induction m with
   |zero=>
    intro i n hmi hn hb
    rw[uY,iN (by omega),zY (by omega)]
    exact⟨n,rfl,by omega,by simp,by simp,by simp⟩
   |succ m ih2=>
    intro i n hmi hn hb
    have hi:i<v.kids.length:=by omega
    rw[zX hi]at hb ⊢
    simp only[yB,yW]at hb ⊢
    rw[uY,iP hi]
    by_cases hle:n<=most
    ·rw[iP (by omega),gQ hi]
     simp only[oE,oS]
     have hk:v.kids[i].wt<=1048576:=by omega
     obtain⟨c,h1,h2,h3,h4,h5⟩:=ih v.kids[i] (gM hi) hk (most-n) (by omega)
     rw[ZD (by omega) (by omega),show((most:Int) - (n:Int))=((most-n:Nat):Int)from by omega,h1]
     simp only[oS]
     rw[ZD (by omega) (by omega),show((n:Int)+(c:Int))=((n+c:Nat):Int)from by omega]
     obtain⟨c',g1,g2,g3,g4,g5⟩:=ih2 (i+1) (n+c) (by omega) (by omega) (by omega)
     refine⟨c',g1,by omega,by omega,fun h=> ?_,fun h=> ?_⟩
     ·have:=h4 (by omega)
      have:=g4 (by omega)
      omega
     ·by_cases hx:1+v.kids[i].wt<=most-n
      ·have:=h4 hx
       exact g5 (by omega)
      ·have:=h5 (by omega)
       omega
    ·rw[iN (by omega)]
     exact⟨n,rfl,by omega,by omega,fun h=>by omega,fun h=>by omega⟩
  have hs:((v.kids.drop 0).map fun k=>1+k.wt).sum=v.wt:=by
   rw[zZ,hw]
   have:∀l:List Pattern,(l.map fun k=>1+k.wt).sum=wtL Pattern.wt l:=by
    intro l
    induction l with
    |nil=>rfl
    |cons a r ih=>simp[ih]
   exact this _
  obtain⟨c,h1,h2,h3,h4,h5⟩:=key _ 0 1 rfl (by omega) (by omega)
  rw[hs]at h3 h4 h5
  unfold kS
  have h1':uY v most 1 0=some (c:Int):=h1
  rw[h1']
  exact⟨c,rfl,by omega,h3,h4,h5⟩
theorem ZIJ (v:Pattern):v.wt=((v.kids.drop 0).map fun k=>1+k.wt).sum:=by
 rw[zZ,v.wt_eq]
 have:∀l:List Pattern,(l.map fun k=>1+k.wt).sum=wtL Pattern.wt l:=by
  intro l
  induction l with
  |nil=>rfl
  |cons a r ih=>simp[ih]
 exact(this _).symm
noncomputable def ZU (w:List Data):Nat->Ty->Pattern->List VarType
 |0,_,_=>[]
 |d+1,t,p=>(if p.op=2∨p.op=6 then[⟨p.var,t⟩]else[])++(((ZF w t p).zip p.kids).take (if p.op=5 then 1 else p.kids.length)).flatMap fun x=>ZU w d x.1 x.2
theorem ZGh {f:Ty×Pattern->List VarType}(hf:∀x,(f x).length<=1+x.2.wt):∀(ts:List Ty) (ks:List Pattern) (n:Nat),(((ts.zip ks).take n).flatMap f).length<=wtL Pattern.wt ks
 | [],ks,n=>by simp
 |t::ts,[],n=>by simp
 |t::ts,k::ks,0=>by simp
 |t::ts,k::ks,n+1=>by
  have h1:=ZGh hf ts ks n
  have h2:=hf (t,k)
  simp only[xA,xF,yG,yA,ZAR]at h1 h2 ⊢
  omega
theorem ZBU (w:List Data):∀(d:Nat) (t:Ty) (p:Pattern),(ZU w d t p).length<=1+p.wt
 |0,t,p=>by simp[ZU]
 |d+1,t,p=>by
  have:=ZGh (f:=fun x=>ZU w d x.1 x.2) (fun x=>ZBU w d x.1 x.2) (ZF w t p) p.kids (if p.op=5 then 1 else p.kids.length)
  rw[ZU,yA,p.wt_eq]
  have h1:(if p.op=2∨p.op=6 then[(⟨p.var,t⟩:VarType)]else[]).length<=1:=by split<;>simp
  omega
theorem ZDa {w:List Data}{p:Pattern}{ts:List Ty}(hl:p.kids.length=ts.length)(h5:p.op≠5){f:Ty×Pattern->List VarType}{L:List VarType->Nat->Option (List VarType)}
  (hL:∀out i,L out i=if i<ts.length then(if i=0 then ts[i]? >>=fun x=>p.kids[i]? >>=fun y=>vW out w x y>>=fun v=>L v (i+1)else(if p.op=5 then some out else ts[i]? >>=fun x=>p.kids[i]? >>=fun y=>vW out w x y>>=fun v=>L v (i+1)))else some out)
  (hf:∀x:Ty×Pattern,(f x).length<=1+x.2.wt)
  (ih:∀i (h:i<ts.length) (h':i<p.kids.length) (out:List VarType),out.length+(1+p.kids[i].wt)<=67108864->vW out w ts[i] p.kids[i]=some (out++f (ts[i],p.kids[i]))):
  ∀(m i:Nat) (out:List VarType),ts.length-i=m->out.length+((p.kids.drop i).map fun k=>1+k.wt).sum<=67108864->L out i=some (out++((ts.zip p.kids).drop i).flatMap f):=by
 intro m
 induction m with
 |zero=>
  intro i out hm hb
  rw[hL,iN (by omega),zY (by simp;omega)];simp
 |succ m ihm=>
  intro i out hm hb
  have hi:i<ts.length:=by omega
  have hi':i<p.kids.length:=by omega
  rw[zX hi']at hb
  simp only[yB,yW]at hb
  have e:(ts[i]? >>=fun x=>p.kids[i]? >>=fun y=>vW out w x y>>=fun v=>L v (i+1))=some (out++((ts.zip p.kids).drop i).flatMap f):=by
   rw[gQ hi,gQ hi']
   simp only[oE,oS]
   rw[ih i hi hi' out (by omega)]
   simp only[oS]
   have:=hf (ts[i],p.kids[i])
   simp only at this
   rw[ihm (i+1) _ (by omega) (by rw[yA];omega),zX (l:=ts.zip p.kids) (i:=i) (by simp;omega)]
   simp
  rw[hL,iP hi,iN h5,e]
  split<;>rfl
theorem Zz {w:List Data}{t:Ty}{p:Pattern}(h:ZAw w t p)(h5:p.op=5):ZF w t p=[t,t]:=by unfold ZF;rw[iN (by omega),iP h5]
theorem P.YA (w:List Data)(hw:ZN w):∀(d:Nat) (t:Ty) (p:Pattern) (out:List VarType),ZX w t->Zi w d t p->out.length+(1+p.wt)<=67108864->vW out w t p=some (out++ZU w d t p)
 |0,t,p,out,ht,hs,hb=>hs.elim
 |d+1,t,p,out,ht,hs,hb=>by
  obtain⟨ho,hl,hk⟩:=hs
  have hts:=ZAb hw ht ho
  have hsum:=ZIJ p
  have ih:∀i (h:i<(ZF w t p).length) (h':i<p.kids.length) (out:List VarType),out.length+(1+p.kids[i].wt)<=67108864->vW out w (ZF w t p)[i] p.kids[i]=some (out++(fun x:Ty×Pattern=>ZU w d x.1 x.2) ((ZF w t p)[i],p.kids[i])):=
   fun i h h' out hb=>P.YA w hw d _ _ out (hts _ (gM h)) (hk i (by omega) h h h') hb
  have hf:∀x:Ty×Pattern,((fun x:Ty×Pattern=>ZU w d x.1 x.2) x).length<=1+x.2.wt:=fun x=>ZBU w d x.1 x.2
  have full:∀n,p.kids.length<=n->((ZF w t p).zip p.kids).take n=(ZF w t p).zip p.kids:=fun n hn=>yD (by simp;omega)
  rw[vW,P.YM w hw t (ZBR ht.1) p ho]
  simp only[oE,oS]
  by_cases h2:p.op=2
  ·rw[iP h2,iP (by omega),ZDa (f:=fun x=>ZU w d x.1 x.2) (L:=F.f77 w p (ZF w t p)) hl (by omega) (fun out i=>by rw[F.f77]) hf ih _ 0 _ rfl (by simp at hsum ⊢;omega)]
   simp only[oS]
   rw[ZU,iP (.inl h2),iN (by omega),full _ (zB _)];simp
  ·rw[iN h2]
   by_cases h6:p.op=6
   ·rw[iP h6,iP (by omega),ZDa (f:=fun x=>ZU w d x.1 x.2) (L:=F.f75 w p (ZF w t p)) hl (by omega) (fun out i=>by rw[F.f75]) hf ih _ 0 _ rfl (by simp at hsum ⊢;omega)]
    simp only[oS]
    rw[ZU,iP (.inr h6),iN (by omega),full _ (zB _)];simp
   ·rw[iN h6]
    by_cases h5:p.op=5
    ·have et:=Zz ho h5
     rw[et]at hl
     have h0:0<p.kids.length:=by rw[hl];simp
     have h0':0<(ZF w t p).length:=by rw[et];simp
     have hw0:1+p.kids[0].wt<=p.wt:=by
      rw[hsum,zZ]
      obtain⟨a,r,e⟩:=yU h0
      simp[e]
     have e0:=ih 0 h0' h0 out (by omega)
     rw[uX,iP h0',iP rfl,gQ h0',gQ h0]
     simp only[oE,oS]
     rw[e0]
     simp only[oS]
     rw[uX,iP (by rw[et];simp),iN (by omega),iP h5]
     simp only[oS]
     rw[ZU,iN (by omega),iP h5]
     have e1:((ZF w t p).zip p.kids).take 1=[((ZF w t p)[0],p.kids[0])]:=by
      obtain⟨a,r,e⟩:=yU h0
      obtain⟨b,r',e'⟩:=yU h0'
      simp[e,e']
     rw[e1];simp
    ·rw[ZDa (f:=fun x=>ZU w d x.1 x.2) (L:=uX w p (ZF w t p)) hl h5 (fun out i=>by rw[uX]) hf ih _ 0 _ rfl (by simp at hsum ⊢;omega)]
     simp only[oS]
     rw[ZU,iN (by omega),iN h5,full _ (zB _)];simp
def ZG4 (l:List VarType):Prop:=(l.map VarType.var).Nodup
def ZHI (a b:List VarType):Prop:=a.length=b.length/\∀x,x∈a->x∈b
theorem ZFR (l:List VarType):ZG4 l↔∀i j (hi:i<l.length) (hj:j<l.length),i<j->l[i].var≠l[j].var:=by
 unfold ZG4 List.Nodup
 rw[List.pairwise_map,List.pairwise_iff_getElem]
theorem ZEu {l:List VarType}{n:Int}(h:ZEO l n= -1):∀x,x∈l->x.var≠n:=by
 unfold ZEO at h
 cases hf:ZG5 (fun x:VarType=>x.var=n) 0 l with
 |none=>exact ZA4 hf
 |some j=>rw[hf]at h;simp only at h;omega
theorem ZPb {a b:VarType}(h:a.var=b.var)(h2:eq2 (a.type.data,a.type.index) (b.type.data,b.type.index)):a=b:=by
 obtain⟨v,d,i⟩:=a
 obtain⟨v',d',i'⟩:=b
 simp only[eq2]at h h2
 obtain⟨rfl,rfl⟩:=h2
 subst h;rfl
theorem P.Yh (l:List VarType):uC l 0=some (if dec (ZG4 l)=true then .go ()else .ret false):=by
 rw[ZJ8 (n:=l.length) (r:=false) (Q:=fun j=>∀h:j<l.length,ZEO l l[j].var=(j:Int)) (L:=uC l) (fun k hk=>by rw[uC,iN (by omega)])
  (fun k hk hq=>by
   rw[uC,iP hk,gQ hk]
   simp only[oE,oS,P.YH]
   rw[iP (hq hk)])
  (fun k hk hq=>by
   rw[uC,iP hk,gQ hk]
   simp only[oE,oS,P.YH]
   rw[iN fun h=>hq fun _=>h]) _ 0 rfl]
 congr 2
 rw[ZL]
 rw[ZFR]
 constructor
 ·intro h i j hi hj hij
  exact(ZEt l j hj).1 (h j (by omega) hj hj) i hi hij
 ·intro h j _ _ hj
  exact(ZEt l j hj).2 fun i hi hij=>h i j hi hj hij
theorem P.YAS (a b:List VarType)(hb:ZG4 b):F.f81 a b=some (dec (ZHI a b)):=by
 unfold F.f81
 have step:∀k (hk:k<a.length),uD a b k=if dec (a[k]∈b)=true then uD a b (k+1)else some (.ret false):=by
  intro k hk
  rw[uD,iP hk,gQ hk]
  simp only[oE,oS,P.YH]
  rcases ZB5 b a[k].var with h|⟨j,hj,h1,h2,h3⟩
  ·rw[iP (by omega),iN]
   rw[ZE fun hm=>ZEu h _ hm rfl];simp
  ·rw[iN (by omega),h1,ZLY,gQ hj]
   simp only[oS]
   by_cases he:eq2 (b[j].type.data,b[j].type.index) (a[k].type.data,a[k].type.index)
   ·rw[iP (ZG he),iP (ZG (by rw[←ZPb h2 he];exact gM hj))]
   ·rw[iN (by rw[ZE he];simp),iN]
    rw[ZE fun hm=> ?_];· simp
    obtain⟨i,hi,e⟩:=yH hm
    have hij:i=j:=by
     rw[ZFR]at hb
     rcases zR i j with hlt|heq|hlt
     ·exact absurd (by rw[e,h2]) (hb i j hi hj hlt)
     ·exact heq
     ·exact absurd (by rw[e,h2]) (hb j i hj hi hlt)
    subst hij
    exact he (by rw[e];exact⟨rfl,rfl⟩)
 rw[ZJ8 (n:=a.length) (r:=false) (Q:=fun j=>∀h:j<a.length,a[j]∈b) (L:=uD a b) (fun k hk=>by rw[uD,iN (by omega)])
  (fun k hk hq=>by rw[step k hk,iP (ZG (hq hk))])
  (fun k hk hq=>by rw[step k hk,iN (by rw[ZE fun h=>hq fun _=>h];simp)]) _ 0 rfl]
 simp only[oE,oS]
 by_cases h:∀j,0<=j->j<a.length->∀h:j<a.length,a[j]∈b
 ·rw[iP (ZG h),←ZAM]
  have hx:∀x,x∈a->x∈b:=fun x hx=>by obtain⟨j,hj,e⟩:=yH hx;rw[←e];exact h j (by omega) hj hj
  show some (dec (a.length=b.length))=some (dec (ZHI a b))
  congr 1;exact ZL ⟨fun hl=>⟨hl,hx⟩,fun hs=>hs.1⟩
 ·rw[iN (by rw[ZE h];simp),ZE fun hs=>h fun j _ hj _=>hs.2 _ (gM hj)]
theorem ZNQ {a b:VarType}:eq3 (a.var,a.type.data,a.type.index) (b.var,b.type.data,b.type.index)↔a=b:=by
 obtain⟨v,d,i⟩:=a
 obtain⟨v',d',i'⟩:=b
 simp[eq3]
theorem P.YB (l:List VarType)(n:VarType):F.f126 l n=some (dec (n∈l)):=by
 unfold F.f126 F.f125
 rw[ZMl (a:=l) (p:=fun x=>n=x) (L:=uS l n) (fun k hk=>by rw[uS,iN (by omega)])
  (fun k hk hp=>by
   rw[uS,iP hk,gQ hk]
   simp only[oE,oS]
   rw[iN (by rw[ZE fun h=>hp (ZNQ.1 h)];simp)])
  (fun k hk hp=>by
   rw[uS,iP hk,gQ hk]
   simp only[oE,oS]
   rw[iP (ZG (ZNQ.2 hp))]) _ 0 rfl,zZ]
 cases h:ZG5 (fun x:VarType=>n=x) 0 l with
 |none=>
  simp only[oE,oS]
  rw[ZE fun hm=>ZA4 h _ hm rfl];simp
 |some j=>
  obtain⟨_,h2,h3,_⟩:=ZA3 h
  simp only[oE,oS]
  rw[ZG (by rw[h3];exact gM h2)];simp
theorem P.YAF (a b:List VarType):uP a b=some (dec (ZHI a b)):=by
 unfold uP
 by_cases hl:a.length=b.length
 ·rw[iP hl]
  unfold F.f130 F.f129
  have one:∀q,F.f127 q b=some (!dec (q∈b)):=by
   intro q;unfold F.f127;rw[P.YB];rfl
  rw[ZMl (a:=a) (p:=fun x=>¬x∈b) (L:=uR a b) (fun k hk=>by rw[uR,iN (by omega)])
   (fun k hk hp=>by
    rw[uR,iP hk,gQ hk]
    simp only[oE,oS,one]
    rw[iN (by rw[ZG (vD hp)];simp)])
   (fun k hk hp=>by
    rw[uR,iP hk,gQ hk]
    simp only[oE,oS,one]
    rw[iP (by rw[ZE hp];simp)]) _ 0 rfl,zZ]
  cases h:ZG5 (fun x:VarType=>¬x∈b) 0 a with
  |none=>
   simp only[oE,oS]
   rw[ZG ⟨hl,fun x hx=>vD (ZA4 h x hx)⟩];simp
  |some j=>
   obtain⟨_,h2,h3,_⟩:=ZA3 h
   simp only[oE,oS]
   rw[ZE fun hs=>h3 (hs.2 _ (gM h2))];simp
 ·rw[iN hl,ZE fun h=>hl h.1]
def ZFv (w:List Data):Nat->Ty->Pattern->Prop
 |0,_,_=>False
 |d+1,t,p=>(∀i,0<=i->i<(ZF w t p).length->∀(h:i<(ZF w t p).length) (h':i<p.kids.length),ZFv w d (ZF w t p)[i] p.kids[i])/\
   if p.op=5 then(∀(h0:0<p.kids.length) (h1:1<p.kids.length),ZHI (ZU w d t p.kids[0]) (ZU w d t p.kids[1]))else ZG4 (ZU w (d+1) t p)
theorem ZDU {w:List Data}{d:Nat}{t:Ty}{p:Pattern}(ho:ZAw w t p)(h5:p.op=5)(h0:0<p.kids.length):ZU w (d+1) t p=ZU w d t p.kids[0]:=by
 have et:=Zz ho h5
 rw[ZU,iN (by omega),iP h5,et]
 obtain⟨a,r,e⟩:=yU h0
 simp[e]
theorem ZBi {w:List Data}:∀{d:Nat} {t:Ty} {p:Pattern},Zi w d t p->ZFv w d t p->ZG4 (ZU w d t p)
 |0,t,p,hs,hl=>hs.elim
 |d+1,t,p,hs,hl=>by
  obtain⟨ho,hlen,hk⟩:=hs
  obtain⟨h1,h2⟩:=hl
  by_cases h5:p.op=5
  ·have et:=Zz ho h5
   have h0:0<p.kids.length:=by rw[hlen,et];simp
   have h0':0<(ZF w t p).length:=by rw[et];simp
   rw[ZDU ho h5 h0]
   have e0:(ZF w t p)[0]=t:=by simp[et]
   have a:=hk 0 (zB _) h0' h0' h0
   have b:=h1 0 (zB _) h0' h0' h0
   rw[e0]at a b
   exact ZBi a b
  ·rw[iN h5]at h2;exact h2
theorem P.YV (w:List Data)(hw:ZN w):∀(d:Nat) (t:Ty) (p:Pattern),ZX w t->Zi w d t p->p.wt<=1048576->kQ w t p=some (dec (ZFv w d t p))
 |0,t,p,ht,hs,hb=>hs.elim
 |d+1,t,p,ht,hs,hb=>by
  have hs':=hs
  obtain⟨ho,hl,hk⟩:=hs
  have hts:=ZAb hw ht ho
  have hsum:=p.wt_eq
  have hkw:∀k (h:k<p.kids.length),1+p.kids[k].wt<=p.wt:=fun k h=>by have:=Zt Pattern.wt (gM h);omega
  have ih:∀k (h:k<(ZF w t p).length) (h':k<p.kids.length),kQ w (ZF w t p)[k] p.kids[k]=some (dec (ZFv w d (ZF w t p)[k] p.kids[k])):=
   fun k h h'=>P.YV w hw d _ _ (hts _ (gM h)) (hk k (by omega) h h h') (by have:=hkw k h';omega)
  rw[kQ,P.YM w hw t (ZBR ht.1) p ho]
  simp only[oE,oS]
  rw[ZJ8 (n:=(ZF w t p).length) (r:=false) (Q:=fun i=>∀(h:i<(ZF w t p).length) (h':i<p.kids.length),ZFv w d (ZF w t p)[i] p.kids[i]) (L:=uV w t p (ZF w t p))
   (fun k hk=>by rw[uV,iN (by omega)])
   (fun k hk hq=>by
    have hk':k<p.kids.length:=by omega
    rw[uV,iP hk,gQ hk,gQ hk']
    simp only[oE,oS]
    rw[ih k hk hk']
    simp only[oS]
    rw[iP (ZG (hq hk hk'))])
   (fun k hk hq=>by
    have hk':k<p.kids.length:=by omega
    rw[uV,iP hk,gQ hk,gQ hk']
    simp only[oE,oS]
    rw[ih k hk hk']
    simp only[oS]
    rw[iN (by rw[ZE fun h=>hq fun _ _=>h];simp)]) _ 0 rfl]
  simp only[oS]
  by_cases hall:∀i,0<=i->i<(ZF w t p).length->∀(h:i<(ZF w t p).length) (h':i<p.kids.length),ZFv w d (ZF w t p)[i] p.kids[i]
  ·rw[iP (ZG hall)]
   simp only
   by_cases h5:p.op=5
   ·have et:=Zz ho h5
    have h0:0<p.kids.length:=by rw[hl,et];simp
    have h1:1<p.kids.length:=by rw[hl,et];simp
    have h0':0<(ZF w t p).length:=by rw[et];simp
    have h1':1<(ZF w t p).length:=by rw[et];simp
    have e0:(ZF w t p)[0]=t:=by simp[et]
    have e1:(ZF w t p)[1]=t:=by simp[et]
    have a0:=hk 0 (zB _) h0' h0' h0
    have a1:=hk 1 (by omega) h1' h1' h1
    have b1:=hall 1 (by omega) h1' h1' h1
    rw[e0]at a0
    rw[e1]at a1 b1
    rw[iP h5,gQ h0,gQ h1]
    simp only[oS]
    rw[P.YA w hw d t _ [] ht a0 (by have:=hkw 0 h0;simp;omega),P.YA w hw d t _ [] ht a1 (by have:=hkw 1 h1;simp;omega)]
    simp only[oS,yN]
    rw[P.YAS _ _ (ZBi a1 b1)]
    simp only[oS]
    congr 1
    refine ZL ⟨fun h=>⟨hall,?_⟩,fun h=> ?_⟩
    ·rw[iP h5];exact fun _ _=>h
    ·have:=h.2;rw[iP h5]at this;exact this h0 h1
   ·rw[iN h5,P.YA w hw (d+1) t p [] ht hs' (by simp;omega)]
    simp only[oS,yN]
    rw[P.Yh]
    simp only[oS]
    by_cases hn:ZG4 (ZU w (d+1) t p)
    ·rw[iP (ZG hn),ZG ⟨hall,by rw[iN h5];exact hn⟩]
    ·rw[iN (by rw[ZE hn];simp),ZE fun h=>hn (by have:=h.2;rwa[iN h5]at this)]
  ·rw[iN (by rw[ZE hall];simp),ZE fun h=>hall h.1]
theorem ZII {f:Ty×Pattern->List VarType}{x:VarType}:∀{ts:List Ty} {ks:List Pattern} {n:Nat},x∈(((ts.zip ks).take n).flatMap f)->∃i,∃(h:i<ts.length) (h':i<ks.length),x∈f (ts[i],ks[i])
 | [],ks,n,h=>by simp at h
 |t::ts,[],n,h=>by simp at h
 |t::ts,k::ks,0,h=>by simp at h
 |t::ts,k::ks,n+1,h=>by
  simp only[xA,xF,yG,yC]at h
  rcases h with h|h
  ·exact⟨0,by simp,by simp,by simpa using h⟩
  ·obtain⟨i,h1,h2,h3⟩:=ZII h
   exact⟨i+1,by simpa using h1,by simpa using h2,by simpa using h3⟩
theorem ZDV {w:List Data}(hw:ZN w):∀{d:Nat} {t:Ty} {p:Pattern},ZX w t->Zi w d t p->∀x,x∈ZU w d t p->0<=x.var/\x.var<=5/\ZX w x.type
 |0,t,p,ht,hs=>hs.elim
 |d+1,t,p,ht,hs=>by
  obtain⟨ho,hl,hk⟩:=hs
  intro x hx
  rw[ZU,yC]at hx
  rcases hx with hx|hx
  ·split at hx
   ·next h=>
    simp at hx;subst hx
    unfold ZAw at ho
    refine⟨?_,?_,ht⟩<;>simp only<;>omega
   ·cases hx
  ·obtain⟨i,h,h',hm⟩:=ZII hx
   exact ZDV hw (ZAb hw ht ho _ (gM h)) (hk i (by omega) h h h') x hm
theorem ZR6 {R:Type}{vs:List VarType}{r:R}{M:(Nat->Bool)->Nat->Option (Lo R Unit)}(hv:∀x,x∈vs->0<=x.var/\x.var<=5)
  (hM:∀s i,M s i=if i<vs.length then vs[i]? >>=fun x=>if 0<=x.var/\x.var.toNat<6 then(if s x.var.toNat=true then some (.ret r)else M (ZHB s x.var.toNat true) (i+1))else none else some (.go ())):
  ∀(m i:Nat) (s:Nat->Bool),vs.length-i=m->M s i=some (if dec (ZG4 (vs.drop i)/\∀x,x∈vs.drop i->s x.var.toNat=false)=true then .go ()else .ret r):=by
 intro m
 induction m with
 |zero=>
  intro i s hm
  rw[hM,iN (by omega),zY (by omega),iP (ZG ⟨by simp[ZG4],by simp⟩)]
 |succ m ih=>
  intro i s hm
  have hi:i<vs.length:=by omega
  have hr:=hv _ (gM hi)
  rw[hM,iP hi,gQ hi]
  simp only[oE,oS]
  rw[iP (by omega),zX hi]
  by_cases h:s vs[i].var.toNat=true
  ·rw[iP h,iN]
   rw[ZE fun hh=> ?_];· simp
   have:=hh.2 vs[i] (yL ..)
   rw[h]at this;cases this
  ·rw[iN h,ih (i+1) _ (by omega)]
   congr 2
   rw[ZL]
   have hs:s vs[i].var.toNat=false:=by simpa using h
   constructor
   ·rintro⟨h1,h2⟩
    refine⟨?_,fun x hx=> ?_⟩
    ·unfold ZG4 at h1 ⊢
     rw[yB,yY]
     refine⟨fun hm=> ?_,h1⟩
     obtain⟨y,hy,e⟩:=yE.1 hm
     have:=h2 y hy
     rw[e]at this
     simp[ZHB]at this
    ·rcases yX.1 hx with rfl|hx
     ·exact hs
     ·have:=h2 x hx
      unfold ZHB at this
      split at this
      ·cases this
      ·exact this
   ·rintro⟨h1,h2⟩
    unfold ZG4 at h1 ⊢
    rw[yB,yY]at h1
    refine⟨h1.2,fun x hx=> ?_⟩
    unfold ZHB
    have hx':=hv x (xQ hx)
    rw[iN fun e=>h1.1 (yE.2 ⟨x,hx,by omega⟩)]
    exact h2 x (yF _ hx)
abbrev ZRD (w:List Data)(d:Nat)(ts:List Ty)(ks:List Pattern)(i:Nat):Prop:=∀j,i<=j->j<ts.length->∀(h:j<ts.length) (h':j<ks.length),Zi w d ts[j] ks[j]/\ZFv w d ts[j] ks[j]
def ZCM (w:List Data)(d:Nat)(t:Ty)(p:Pattern)(count:Nat)(vs:List VarType)(b:Bool)(c:Nat):Prop:=
 (b=true↔Zi w d t p/\ZFv w d t p/\count+(1+p.wt)<=60)/\(b=true->c=count+(1+p.wt)/\vs=ZU w d t p)
theorem P.YAw (w:List Data)(d:Nat)(hd:d+1<=10)(p:Pattern)(hp:p.wt<=1048576)(ts:List Ty)(hl:ts.length=p.kids.length)(hts:∀a,a∈ts->ZX w a)(h5:p.op≠5)
  (L:Int->List VarType->Nat->Option (Lo ((List VarType)×Bool×Int) (Int×(List VarType))))
  (hL:∀z vars i,L z vars i=if i<p.kids.length then p.kids[i]? >>=fun x=>ts[i]? >>=fun y=>vV w y x (i64.wrap (((11- (d+1):Nat):Int)+1)) z>>=fun r=>if r.2.1=true then(if p.op=5 then(if i=1 then uP vars r.1>>=fun b=>if b=true then L r.2.2 vars (i+1)else some (.ret ([],false,r.2.2))else(if vars.length+r.1.length<=67108864 then L r.2.2 (vars++r.1) (i+1)else none))else(if vars.length+r.1.length<=67108864 then L r.2.2 (vars++r.1) (i+1)else none))else some (.ret ([],false,r.2.2))else some (.go (z,vars)))
  (ih:∀(t:Ty) (x:Pattern) (count:Nat),ZX w t->x.wt<=1048576->count<=60->∃vs b c,vV w t x ((11-d:Nat):Int) (count:Int)=some (vs,b,((c:Nat):Int))/\ZCM w d t x count vs b c):
  ∀(m i z:Nat) (vars:List VarType),p.kids.length-i=m->z<=60->vars.length+((p.kids.drop i).map fun k=>1+k.wt).sum<=67108864->∃o,L z vars i=some o/\
   match o with
   | .ret (vs,b,c)=>b=false/\∃c':Nat,c=(c':Int)/\¬(ZRD w d ts p.kids i/\z+((p.kids.drop i).map fun k=>1+k.wt).sum<=60)
   | .go (c,vs)=>c=((z+((p.kids.drop i).map fun k=>1+k.wt).sum:Nat):Int)/\vs=vars++((ts.zip p.kids).drop i).flatMap (fun x=>ZU w d x.1 x.2)/\ZRD w d ts p.kids i/\z+((p.kids.drop i).map fun k=>1+k.wt).sum<=60:=by
 intro m
 induction m with
 |zero=>
  intro i z vars hm hz hb
  rw[hL,iN (by omega)]
  refine⟨_,rfl,?_⟩
  rw[zY (by omega),zY (by simp;omega)]
  exact⟨by simp,by simp,fun j h1 h2=>by omega,by simpa using hz⟩
 |succ m ihm=>
  intro i z vars hm hz hb
  have hi:i<p.kids.length:=by omega
  have hi':i<ts.length:=by omega
  have hkw:=Zt Pattern.wt (gM hi)
  have hpw:=p.wt_eq
  rw[zX hi]at hb ⊢
  simp only[yB,yW]at hb ⊢
  rw[hL,iP hi,gQ hi,gQ hi']
  simp only[oE,oS]
  rw[ZD (by omega) (by omega),show(((11- (d+1):Nat):Int)+1)=((11-d:Nat):Int)from by omega]
  obtain⟨vs,b,c,h1,h2,h3⟩:=ih ts[i] p.kids[i] z (hts _ (gM hi')) (by omega) hz
  rw[h1]
  simp only[oS]
  cases b with
  |true=>
   rw[iP rfl,iN h5]
   obtain⟨hc,hv⟩:=h3 rfl
   obtain⟨hp1,hp2,hle⟩:=h2.1 rfl
   have hvl:=ZBU w d ts[i] p.kids[i]
   rw[←hv]at hvl
   rw[iP (by omega)]
   obtain⟨o,g1,g2⟩:=ihm (i+1) c (vars++vs) (by omega) (by omega) (by rw[yA];omega)
   refine⟨o,g1,?_⟩
   cases o with
   |ret r=>
    obtain⟨vs',b',c'⟩:=r
    obtain⟨q1,c2,q2,q3⟩:=g2
    exact⟨q1,c2,q2,fun hh=>q3 ⟨fun j a b e f=>hh.1 j (by omega) b e f,by omega⟩⟩
   |go r=>
    obtain⟨c2,vs2⟩:=r
    obtain⟨q1,q2,q3,q4⟩:=g2
    refine⟨by rw[q1];congr 1;omega,?_,fun j a b e f=> ?_,by omega⟩
    ·rw[q2,zX (l:=ts.zip p.kids) (i:=i) (by simp;omega),hv];simp
    ·by_cases hj:i=j
     ·subst hj;exact⟨hp1,hp2⟩
     ·exact q3 j (by omega) b e f
  |false=>
   rw[iN (by simp)]
   refine⟨_,rfl,rfl,c,rfl,fun hh=> ?_⟩
   have hk:=hh.1 i (zB _) hi' hi' hi
   have:=h2.2 ⟨hk.1,hk.2,by omega⟩
   cases this
theorem P.Yl (w:List Data)(hw:ZN w):∀(d:Nat) (t:Ty) (p:Pattern) (count:Nat),d<=10->ZX w t->p.wt<=1048576->count<=60->
  ∃vs b c,vV w t p ((11-d:Nat):Int) (count:Int)=some (vs,b,((c:Nat):Int))/\ZCM w d t p count vs b c
 |d,t,p,count,hd,ht,hp,hc=>by
  have e1:i64.wrap ((count:Int)+1)=((count+1:Nat):Int):=by rw[ZD (by omega) (by omega)];omega
  have no:∀(h:¬(Zi w d t p/\ZFv w d t p/\count+(1+p.wt)<=60)) (c:Nat),∃vs b c',(some (([]:List VarType),false,(c:Int)):Option (List VarType×Bool×Int))=some (vs,b,((c':Nat):Int))/\ZCM w d t p count vs b c':=
   fun h c=>⟨[],false,c,rfl,⟨fun h=>(by cases h),fun hh=>absurd hh h⟩,fun h=>by cases h⟩
  rw[vV,e1]
  by_cases h60:60<((count+1:Nat):Int)
  ·rw[iP h60];exact no (fun h=>by omega) _
  rw[iN h60]
  match d,hd with
  |0,_=>
   rw[iP (by omega)]
   exact no (fun h=>h.1.elim) _
  |d+1,hd=>
   rw[iN (by omega)]
   obtain⟨ts,h1,h2⟩:=P.YAl w hw t (ZBR ht.1) p
   rw[h1]
   simp only[oE,oS]
   by_cases hs:ZAw w t p/\p.kids.length=(ZF w t p).length
   ·rw[iP (ZG hs)]
    obtain⟨ho,hl⟩:=hs
    obtain rfl:=h2 ho
    have hts:=ZAb hw ht ho
    have hwt:=ZIJ p
    have ihx:∀(t:Ty) (x:Pattern) (count:Nat),ZX w t->x.wt<=1048576->count<=60->∃vs b c,vV w t x ((11-d:Nat):Int) (count:Int)=some (vs,b,((c:Nat):Int))/\ZCM w d t x count vs b c:=
     fun t x c ht hx hc=>P.Yl w hw d t x c (by omega) ht hx hc
    have shape_of:∀{i:Nat},ZRD w d (ZF w t p) p.kids 0->Zi w (d+1) t p:=fun h=>⟨ho,hl,fun i _ hi h1 h2=>(h i (by omega) hi h1 h2).1⟩
    by_cases h5:p.op=5
    ·rw[iN (by omega),iN (by omega)]
     have et:=Zz ho h5
     have h0:0<p.kids.length:=by rw[hl,et];simp
     have h1':1<p.kids.length:=by rw[hl,et];simp
     have hl2:p.kids.length=2:=by rw[hl,et];rfl
     have e0:(ZF w t p)[0]? =some t:=by rw[et];rfl
     have e1:(ZF w t p)[1]? =some t:=by rw[et];rfl
     have hsum:p.wt=(1+p.kids[0].wt)+(1+p.kids[1].wt):=by
      have e:p.kids=[p.kids[0],p.kids[1]]:=List.ext_getElem (by simp[hl2]) (fun i h1 h2=>by
       have:i=0∨i=1:=by omega
       rcases this with rfl|rfl<;>rfl)
      rw[hwt,zZ]
      conv=>lhs;rw[e]
      simp
     have ed:i64.wrap (((11- (d+1):Nat):Int)+1)=((11-d:Nat):Int):=by rw[ZD (by omega) (by omega)];omega
     obtain⟨v0,b0,c0,a1,a2,a3⟩:=ihx t p.kids[0] (count+1) ht (by omega) (by omega)
     have kid0:Zi w (d+1) t p->ZFv w (d+1) t p->(Zi w d t p.kids[0]/\ZFv w d t p.kids[0])/\(Zi w d t p.kids[1]/\ZFv w d t p.kids[1])/\ZHI (ZU w d t p.kids[0]) (ZU w d t p.kids[1]):=by
      rintro⟨_,_,hk⟩ ⟨q1,q2⟩
      rw[iP h5]at q2
      have x0':0<(ZF w t p).length:=by rw[et];simp
      have x1':1<(ZF w t p).length:=by rw[et];simp
      have y0:(ZF w t p)[0]=t:=by simp[et]
      have y1:(ZF w t p)[1]=t:=by simp[et]
      have k0:=hk 0 (zB _) x0' x0' h0
      have k1:=hk 1 (by omega) x1' x1' h1'
      have l0:=q1 0 (zB _) x0' x0' h0
      have l1:=q1 1 (by omega) x1' x1' h1'
      rw[y0]at k0 l0
      rw[y1]at k1 l1
      exact⟨⟨k0,l0⟩,⟨k1,l1⟩,q2 h0 h1'⟩
     rw[vY,iP h0,gQ h0,e0]
     simp only[oE,oS]
     rw[ed,a1]
     simp only[oS]
     cases b0 with
     |false=>
      rw[iN (by simp)]
      simp only[oS]
      exact no (fun h=>by
       have:=a2.2 ⟨(kid0 h.1 h.2.1).1.1,(kid0 h.1 h.2.1).1.2,by omega⟩
       cases this) _
     |true=>
      obtain⟨hc0,rfl⟩:=a3 rfl
      obtain⟨s0,l0,z0⟩:=a2.1 rfl
      have hv0:=ZBU w d t p.kids[0]
      rw[iP rfl,iP h5,iN (by omega),iP (by simp;omega),vY,iP h1',gQ h1',e1]
      simp only[oE,oS]
      obtain⟨v1,b1,c1,g1,g2,g3⟩:=ihx t p.kids[1] c0 ht (by omega) (by omega)
      rw[ed,g1]
      simp only[oS]
      cases b1 with
      |false=>
       rw[iN (by simp)]
       simp only[oS]
       exact no (fun h=>by
        have:=g2.2 ⟨(kid0 h.1 h.2.1).2.1.1,(kid0 h.1 h.2.1).2.1.2,by omega⟩
        cases this) _
      |true=>
       obtain⟨hc1,rfl⟩:=g3 rfl
       obtain⟨s1,l1,z1⟩:=g2.1 rfl
       rw[iP rfl,iP h5,iP trivial,P.YAF]
       simp only[oS,yN]
       by_cases hsv:ZHI (ZU w d t p.kids[0]) (ZU w d t p.kids[1])
       ·rw[iP (ZG hsv),vY,iN (by omega)]
        simp only[oS]
        have kk:∀i,0<=i->i<(ZF w t p).length->∀(h:i<(ZF w t p).length) (h':i<p.kids.length),Zi w d (ZF w t p)[i] p.kids[i]/\ZFv w d (ZF w t p)[i] p.kids[i]:=by
         intro i _ _ h h'
         have ei:(ZF w t p)[i]=t:=by
          have:i=0∨i=1:=by omega
          rcases this with rfl|rfl<;>simp[et]
         rw[ei]
         have:i=0∨i=1:=by omega
         rcases this with rfl|rfl
         ·exact⟨s0,l0⟩
         ·exact⟨s1,l1⟩
        have sh:Zi w (d+1) t p:=⟨ho,hl,fun i a b c e=>(kk i a b c e).1⟩
        have li:ZFv w (d+1) t p:=⟨fun i a b c e=>(kk i a b c e).2,by rw[iP h5];exact fun _ _=>hsv⟩
        have hnd:=ZBi sh li
        have hvk:=ZDV hw ht sh
        rw[ZDU ho h5 h0]at hnd hvk
        rw[ZR6 (vs:=ZU w d t p.kids[0]) (M:=uO ((c1:Int),ZU w d t p.kids[0])) (r:=([],false,(c1:Int))) (fun x hx=>⟨(hvk x hx).1,(hvk x hx).2.1⟩) (fun s i=>by rw[uO]) _ 0 _ rfl,zZ,iP (ZG ⟨hnd,fun _ _=>rfl⟩)]
        exact⟨_,true,c1,rfl,⟨fun _=>⟨sh,li,by omega⟩,fun _=>rfl⟩,fun _=>⟨by omega,(ZDU ho h5 h0).symm⟩⟩
       ·rw[iN (by rw[ZE hsv];simp)]
        simp only[oS]
        exact no (fun h=>hsv (kid0 h.1 h.2.1).2.2) _
    ·have kidx:Zi w (d+1) t p->ZFv w (d+1) t p->ZRD w d (ZF w t p) p.kids 0:=fun a b i hi hlt h h'=>⟨a.2.2 i hi hlt h h',b.1 i hi hlt h h'⟩
     have fin:∀(v00:List VarType) (hv00:v00.length<=1) (hv:v00=if p.op=2∨p.op=6 then[(⟨p.var,t⟩:VarType)]else[])
       (L:Int->List VarType->Nat->Option (Lo ((List VarType)×Bool×Int) (Int×(List VarType))))
       (hL:∀z vars i,L z vars i=if i<p.kids.length then p.kids[i]? >>=fun x=>(ZF w t p)[i]? >>=fun y=>vV w y x (i64.wrap (((11- (d+1):Nat):Int)+1)) z>>=fun r=>if r.2.1=true then(if p.op=5 then(if i=1 then uP vars r.1>>=fun b=>if b=true then L r.2.2 vars (i+1)else some (.ret ([],false,r.2.2))else(if vars.length+r.1.length<=67108864 then L r.2.2 (vars++r.1) (i+1)else none))else(if vars.length+r.1.length<=67108864 then L r.2.2 (vars++r.1) (i+1)else none))else some (.ret ([],false,r.2.2))else some (.go (z,vars)))
       (M:Int×List VarType->(Nat->Bool)->Nat->Option (Lo ((List VarType)×Bool×Int) Unit))
       (hM:∀q s i,M q s i=if i<q.2.length then q.2[i]? >>=fun x=>if 0<=x.var/\x.var.toNat<6 then(if s x.var.toNat=true then some (.ret ([],false,q.1))else M q (ZHB s x.var.toNat true) (i+1))else none else some (.go ())),
       ∃vs b c,((L ((count+1:Nat):Int) v00 0).bind fun o=>match o with
        | .ret r0=>some r0
        | .go s=>(M s (fun _=>false) 0).bind fun o=>match o with
         | .ret r0=>some r0
         | .go _=>some (s.2,true,s.1))=some (vs,b,((c:Nat):Int))/\ZCM w (d+1) t p count vs b c:=by
      intro v00 hv00 hv L hL M hM
      obtain⟨o,g1,g2⟩:=P.YAw w d hd p hp (ZF w t p) hl.symm hts h5 L hL ihx _ 0 (count+1) v00 rfl (by omega) (by rw[←hwt];omega)
      rw[g1]
      simp only[oS]
      rw[←hwt]at g2
      cases o with
      |ret r=>
       obtain⟨vs,b,c⟩:=r
       obtain⟨rfl,c',rfl,q3⟩:=g2
       exact⟨vs,false,c',rfl,⟨fun h=>(by cases h),fun hh=>absurd ⟨kidx hh.1 hh.2.1,by have:=hh.2.2;omega⟩ q3⟩,fun h=>by cases h⟩
      |go s=>
       obtain⟨c,vs⟩:=s
       obtain⟨rfl,q2,q3,q4⟩:=g2
       have hvs:vs=ZU w (d+1) t p:=by
        rw[q2,ZU,hv,iN h5,yD (by simp;omega)];simp
       have sh:Zi w (d+1) t p:=⟨ho,hl,fun i a b c e=>(q3 i a b c e).1⟩
       have hvk:=ZDV hw ht sh
       rw[←hvs]at hvk
       dsimp only
       rw[ZR6 (vs:=vs) (M:=M (((count+1+p.wt:Nat):Int),vs)) (r:=([],false,((count+1+p.wt:Nat):Int))) (fun x hx=>⟨(hvk x hx).1,(hvk x hx).2.1⟩) (fun s i=>by rw[hM]) _ 0 _ rfl,zZ]
       simp only[oS]
       by_cases hn:ZG4 vs
       ·rw[iP (ZG ⟨hn,fun _ _=>by first|rfl|trivial⟩)]
        exact⟨vs,true,count+1+p.wt,rfl,⟨fun _=>⟨sh,⟨fun i a b c e=>(q3 i a b c e).2,by rw[iN h5,←hvs];exact hn⟩,by omega⟩,fun _=>rfl⟩,fun _=>⟨by omega,hvs⟩⟩
       ·rw[iN (by rw[ZE fun h=>hn h.1];simp)]
        exact no (fun h=>hn (by have:=h.2.1.2;rw[iN h5,←hvs]at this;exact this)) _
     by_cases h2:p.op=2
     ·rw[iP h2]
      exact fin [⟨p.var,t⟩] (by simp) (by rw[iP (.inl h2)]) (F.f138 w p ((11- (d+1):Nat):Int) (ZF w t p,dec (ZAw w t p/\p.kids.length=(ZF w t p).length))) (fun z vars i=>by rw[F.f138]) F.f134 (fun q s i=>by rw[F.f134])
     ·rw[iN h2]
      by_cases h6:p.op=6
      ·rw[iP h6]
       exact fin [⟨p.var,t⟩] (by simp) (by rw[iP (.inr h6)]) (F.f136 w p ((11- (d+1):Nat):Int) (ZF w t p,dec (ZAw w t p/\p.kids.length=(ZF w t p).length))) (fun z vars i=>by rw[F.f136]) F.f132 (fun q s i=>by rw[F.f132])
      ·rw[iN h6]
       exact fin [] (by simp) (by rw[iN (by omega)]) (vY w p ((11- (d+1):Nat):Int) (ZF w t p,dec (ZAw w t p/\p.kids.length=(ZF w t p).length))) (fun z vars i=>by rw[vY]) uO (fun q s i=>by rw[uO])
   ·rw[iN (by rw[ZE hs];simp)]
    exact no (fun h=>hs ⟨h.1.1,h.1.2.1⟩) _
termination_by d=>d
def ZAz (w:List Data)(t:Ty)(p:Pattern):Prop:=Zi w 10 t p/\ZFv w 10 t p/\1+p.wt<=60
theorem P.YAN (w:List Data)(hw:ZN w)(t:Ty)(ht:ZX w t)(p:Pattern)(hp:p.wt<=1048576):F.f85 w t p=some (dec (ZAz w t p)):=by
 unfold F.f85
 have e10:kA w t p 10=some (dec (Zi w 10 t p)):=P.YN w hw 10 t p ht (by omega)
 rw[e10]
 simp only[oE,oS]
 by_cases h1:Zi w 10 t p
 ·rw[iP (ZG h1)]
  obtain⟨c,g1,g2,g3,g4,g5⟩:=P.YAx p hp 60 (by omega)
  have g1':kS p 60=some (c:Int):=g1
  rw[g1']
  simp only[oS]
  by_cases hc:1+p.wt<=60
  ·rw[iP (by have:=g4 hc;omega),P.YV w hw 10 t p ht h1 hp]
   simp only[oS]
   congr 1;exact ZL ⟨fun h=>⟨h1,h,hc⟩,fun h=>h.2.1⟩
  ·rw[iN (by have:=g5 (by omega);omega),ZE fun h=>hc h.2.2]
 ·rw[iN (by rw[ZE h1];simp),ZE fun h=>h1 h.1]
theorem P.Yj (w:List Data)(hw:ZN w)(t:Ty)(ht:ZX w t)(p:Pattern)(hp:p.wt<=1048576):∃vs,F.f139 w t p=some (vs,dec (ZAz w t p))/\(ZAz w t p->vs=ZU w 10 t p):=by
 unfold F.f139
 obtain⟨vs,b,c,g1,g2,g3⟩:=P.Yl w hw 10 t p 0 (by omega) ht hp (by omega)
 have g1':vV w t p 1 0=some (vs,b,(c:Int)):=g1
 rw[g1']
 simp only[oE,oS]
 have hb:b=dec (ZAz w t p):=by
  cases b with
  |true=>rw[ZG];obtain⟨a,b,c⟩:=g2.1 rfl;exact⟨a,b,by omega⟩
  |false=>rw[ZE];intro h;have:=g2.2 ⟨h.1,h.2.1,by have:=h.2.2;omega⟩;cases this
 subst hb
 exact⟨vs,rfl,fun h=>(g3 (ZG h)).2⟩
def gOk (g:Guard)(vs:List VarType):Prop:=(g.op=0/\g.var=0/\g.n=0)∨((g.op=1∨g.op=2)/\0<=g.n/\g.n<=9/\(⟨g.var,⟨-1,0⟩⟩:VarType)∈vs)
theorem P.YAU (g:Guard)(vs:List VarType):F.f140 g vs=some (dec (gOk g vs)):=by
 unfold F.f140
 simp only[P.YJ,P.YB,oE,oS]
 by_cases h0:g.op=0
 ·rw[iP h0];congr 1;refine ZL ?_;unfold gOk eq3;simp only;omega
 ·rw[iN h0]
  by_cases h1:1<=g.op/\g.op<=2
  ·rw[iP (ZG h1)]
   by_cases h2:0<=g.n/\g.n<=9
   ·rw[iP (ZG h2)];congr 1
    refine ZL ⟨fun h=>.inr ⟨by omega,h2.1,h2.2,h⟩,fun h=> ?_⟩
    rcases h with h|h
    ·omega
    ·exact h.2.2.2
   ·rw[iN (by rw[ZE h2];simp),ZE]
    rintro(h|h)
    ·omega
    ·exact h2 ⟨h.2.1,h.2.2.1⟩
  ·rw[iN (by rw[ZE h1];simp),ZE]
   rintro(h|h)
   ·omega
   ·omega
theorem P.YAR (w:List Data)(g:Guard)(vs:List VarType)(hn:ZG4 vs)(ht:∀x,x∈vs->ZX w x.type):F.f172 g vs=some (dec (gOk g vs)):=by
 unfold F.f172
 have key:g.op=1∨g.op=2->(if g.n<0 then some false else if 9<g.n then some false else(kR vs g.var)>>=fun v21=>if 0<=v21 then(at? vs v21)>>=fun x25=>some (decide (x25.type.data=(-1)))else some false)=some (dec (gOk g vs)):=by
  intro hop
  by_cases a1:g.n<0
  ·rw[iP a1,ZE];rintro(h|h)<;>omega
  rw[iN a1]
  by_cases a2:9<g.n
  ·rw[iP a2,ZE];rintro(h|h)<;>omega
  rw[iN a2,P.YH]
  simp only[oE,oS]
  rcases ZB5 vs g.var with h|⟨j,hj,h1,h2,h3⟩
  ·rw[iN (by omega),ZE]
   rintro(h'|h')
   ·omega
   ·exact ZEu h _ h'.2.2.2 rfl
  ·rw[iP (by omega),h1,ZLY,gQ hj]
   simp only[oS]
   rw[←ZAM];congr 1
   refine ZL ⟨fun h=>.inr ⟨hop,by omega,by omega,?_⟩,fun h=> ?_⟩
   ·have hty:=ht _ (gM hj)
    have hi:vs[j].type.index=0:=by unfold ZX ZBq at hty;omega
    have:(⟨g.var,⟨-1,0⟩⟩:VarType)=vs[j]:=ZPb (by simp[h2]) ⟨by simp[h],by simp[hi]⟩
    rw[this];exact gM hj
   ·rcases h with h|h
    ·omega
    ·obtain⟨i,hi,e⟩:=yH h.2.2.2
     have hij:i=j:=by
      rw[ZFR]at hn
      rcases zR i j with hlt|heq|hlt
      ·exact absurd (by rw[e,h2]) (hn i j hi hj hlt)
      ·exact heq
      ·exact absurd (by rw[e,h2]) (hn j i hj hi hlt)
     subst hij
     rw[e]
 by_cases h0:g.op=0
 ·rw[iP h0]
  by_cases h1:g.var=0
  ·rw[iP h1,←ZAM];congr 1;refine ZL ⟨fun h=>.inl ⟨h0,h1,h⟩,fun h=> ?_⟩
   rcases h with h|h
   ·exact h.2.2
   ·omega
  ·rw[iN h1,ZE];rintro(h|h)<;>omega
 ·rw[iN h0]
  by_cases h1:g.op=1
  ·rw[iP h1];exact key (.inl h1)
  ·rw[iN h1]
   by_cases h2:g.op=2
   ·rw[iP h2];exact key (.inr h2)
   ·rw[iN h2,ZE];rintro(h|h)<;>omega
def ZLR (w:List Data)(t:Ty)(c:Clause):Prop:=ZAz w t c.pat/\gOk c.guard (ZU w 10 t c.pat)
theorem P.YAu (w:List Data)(hw:ZN w)(t:Ty)(ht:ZX w t)(c:Clause)(hp:c.pat.wt<=1048576):F.f173 w t c=some (dec (ZLR w t c)):=by
 unfold F.f173
 rw[P.YAN w hw t ht _ hp]
 simp only[oE,oS]
 by_cases h:ZAz w t c.pat
 ·rw[iP (ZG h),P.YA w hw 10 t c.pat [] ht h.1 (by simp;omega)]
  simp only[oS,yN]
  rw[P.YAR w _ _ (ZBi h.1 h.2.1) (fun x hx=>(ZDV hw ht h.1 x hx).2.2)]
  simp only[oS]
  congr 1;exact ZL ⟨fun g=>⟨h,g⟩,fun g=>g.2⟩
 ·rw[iN (by rw[ZE h];simp),ZE fun g=>h g.1]
theorem P.YAI (w:List Data)(hw:ZN w)(t:Ty)(ht:ZX w t)(c:Clause)(hp:c.pat.wt<=1048576):F.f141 w t c=some (dec (ZLR w t c)):=by
 unfold F.f141
 obtain⟨vs,h1,h2⟩:=P.Yj w hw t ht c.pat hp
 rw[h1]
 simp only[oE,oS]
 by_cases h:ZAz w t c.pat
 ·rw[iP (ZG h),P.YAU,h2 h]
  simp only[oS]
  congr 1;exact ZL ⟨fun g=>⟨h,g⟩,fun g=>g.2⟩
 ·rw[iN (by rw[ZE h];simp),ZE fun g=>h g.1]
def ZR7 (v:Int):Nat->Pattern->Prop
 |0,_=>False
 |d+1,p=>(∃i,∃h:i<p.kids.length,ZR7 v d p.kids[i])∨((p.op=2∨p.op=6)/\p.var=v)
theorem ZBs (a b c d e:Int):(⟨a,b,c,d,e,[]⟩:Pattern).wt=0:=by rw[Pattern.wt_eq];rfl
theorem ZPZ (a b c d e:Int)(k:Pattern):(⟨a,b,c,d,e,[k]⟩:Pattern).wt=1+k.wt:=by rw[Pattern.wt_eq];simp
theorem ZPY (a b c d e:Int)(k l:Pattern):(⟨a,b,c,d,e,[k,l]⟩:Pattern).wt=2+k.wt+l.wt:=by rw[Pattern.wt_eq];simp;omega
theorem ZJ9 {α:Type}(f:α->Nat):∀(l:List α) (i:Nat) (h:i<l.length) (x:α),wtL f (l.set i x)+f l[i]=wtL f l+f x
 |a::l,0,h,x=>by simp;omega
 |a::l,i+1,h,x=>by
  have:=ZJ9 f l i (by simpa using h) x
  simp;omega
def hv (d:Nat)(p:Pattern):Prop:=∃v,ZR7 v d p
theorem ZDX {α:Type}{l:List α}(h:l.length=2):l=[l[0]'(by omega),l[1]'(by omega)]:=by
 match l,h with
 | [x,y],_=>rfl
def ZLO (w:List Data)(t:Ty)(l:List Clause):Prop:=ZBP w t/\l.length<=8/\∀c,c∈l->ZLR w t c
theorem P.YD (w:List Data)(hw:ZAL w)(t:Ty)(l:List Clause)(hp:∀c,c∈l->c.pat.wt<=1048576):F.f175 w t l=some (dec (ZLO w t l)):=by
 unfold F.f175
 rw[P.Ys w t hw]
 simp only[oE,oS]
 by_cases h1:ZBP w t
 ·rw[iP (ZG h1)]
  by_cases h2:8<l.length
  ·rw[iP h2,ZE fun h=>by have:=h.2.1;omega]
  ·rw[iN h2]
   have hl:∀k,k<=l.length->kF w t l (l.length-k)=some (if dec (∀c,c∈l.drop (l.length-k)->ZLR w t c)=true then .go ()else .ret false):=by
    intro k
    induction k with
    |zero=>intro _;rw[kF,iN (by omega),iP (ZG fun c hc=>by simp at hc)]
    |succ k ih=>
     intro hk
     have hi:l.length- (k+1)<l.length:=by omega
     rw[kF,iP hi,gQ hi]
     simp only[oE,oS]
     rw[P.YAu w h1.1 t h1.2 _ (hp _ (gM hi))]
     simp only[oS]
     have e1:l.length- (k+1)+1=l.length-k:=by omega
     have e2:l.drop (l.length- (k+1))=l[l.length- (k+1)]::l.drop (l.length-k):=by rw[zX hi,e1]
     by_cases hc:ZLR w t l[l.length- (k+1)]
     ·rw[iP (ZG hc),e1,ih (by omega),e2]
      rw[ZL (q:=∀c,c∈l[l.length- (k+1)]::l.drop (l.length-k)->ZLR w t c) ⟨fun h c hc'=>by
       rcases yX.1 hc' with rfl|hc'
       ·exact hc
       ·exact h c hc',fun h c hc'=>h c (yF _ hc')⟩]
     ·rw[iN (by rw[ZE hc];simp),e2,iN (by rw[ZE fun h=>hc (h _ (yL ..))];simp)]
   have:=hl l.length (zB _)
   rw[zE,zZ]at this
   rw[this]
   simp only[oS]
   by_cases h3:∀c,c∈l->ZLR w t c
   ·rw[iP (ZG h3)];simp only;rw[ZG ⟨h1,by omega,h3⟩]
   ·rw[iN (by rw[ZE h3];simp)];simp only;rw[ZE fun h=>h3 h.2.2]
 ·rw[iN (by rw[ZE h1];simp),ZE fun h=>h1 h.1]
theorem P.Yf (w:List Data)(hw:ZAL w)(t:Ty)(l:List Clause)(hp:∀c,c∈l->c.pat.wt<=1048576):F.f146 w t l=some (dec (ZLO w t l)):=by
 unfold F.f146
 rw[P.Yy w t hw]
 simp only[oE,oS]
 by_cases h1:ZBP w t
 ·rw[iP (ZG h1)]
  by_cases h2:l.length<=8
  ·rw[iP h2]
   unfold F.f145 F.f144
   have one:∀c,c∈l->F.f142 c w t=some (dec (¬ZLR w t c)):=by
    intro c hc
    unfold F.f142
    rw[P.YAI w h1.1 t h1.2 c (hp c hc)]
    simp only[oE,oS]
    by_cases a:ZLR w t c
    ·rw[ZG a,ZE (by simp[a])];rfl
    ·rw[ZE a,ZG a];rfl
   rw[ZMl (a:=l) (p:=fun c=>¬ZLR w t c) (L:=uN l w t) (fun k hk=>by rw[uN,iN (by omega)])
    (fun k hk hp=>by rw[uN,iP hk,gQ hk];simp only[oE,oS];rw[one _ (gM hk)];simp only[oS];rw[iN (by rw[ZE hp];simp)])
    (fun k hk hp=>by rw[uN,iP hk,gQ hk];simp only[oE,oS];rw[one _ (gM hk)];simp only[oS];rw[iP (ZG hp)]) _ 0 rfl,zZ]
   cases hf:ZG5 (fun c=>¬ZLR w t c) 0 l with
   |none=>
    have:=ZA4 hf
    simp only[oE,oS]
    rw[ZG ⟨h1,h2,fun c hc=>vD fun h=>this c hc h⟩];rfl
   |some j=>
    obtain⟨_,h3,h4,_⟩:=ZA3 hf
    simp only[oE,oS]
    rw[ZE fun h=>h4 (h.2.2 _ (gM h3))];simp
  ·rw[iN h2,ZE fun h=>h2 h.2.1]
 ·rw[iN (by rw[ZE h1];simp),ZE fun h=>h1 h.1]
theorem P.Yw {w:List Data}{d e:Nat}{as:List Ty}{depth x:Int}(hd:i64.wrap (depth-1)=(d:Int))
  (ih:∀a,a∈as->∀K r,rok K r->K+e<=1099511627776->∃p r',uE r w a (d:Int)=some (p,r')/\rok (K+e) r'/\p.wt+1<=e):
  ∀(k K:Nat) (z:List Int) (z32:Int) (out:List Pattern),k<=as.length->rok K ⟨z,z32⟩->K+k*e<=1099511627776->out.length+k<=67108864->
   ∃z' z32' out',kT w depth x as z z32 out (as.length-k)=some (z',z32',out')/\rok (K+k*e) ⟨z',z32'⟩/\wtL Pattern.wt out'<=wtL Pattern.wt out+k*e
 |0,K,z,z32,out,hk,hr,hK,ho=>by
  rw[kT,iN (by omega)]
  exact⟨z,z32,out,rfl,hr.mono (by omega),by omega⟩
 |k+1,K,z,z32,out,hk,hr,hK,ho=>by
  have hi:as.length- (k+1)<as.length:=by omega
  rw[zF,zJ]at hK
  obtain⟨p,r1,e1,h1,h2⟩:=ih _ (gM hi) K ⟨z,z32⟩ hr (by omega)
  obtain⟨z',z32',out',f1,f2,f3⟩:=P.Yw hd ih k (K+e) r1.f0 r1.f1 (out++[p]) (by omega) h1 (by omega) (by simp;omega)
  rw[kT,iP hi,gQ hi]
  simp only[oE,oS]
  rw[hd,e1]
  simp only[oS]
  rw[iP (by omega)]
  have ei:as.length- (k+1)+1=as.length-k:=by omega
  rw[ei]
  refine⟨z',z32',out',f1,f2.mono (by rw[zF];omega),?_⟩
  have:wtL Pattern.wt (out++[p])=wtL Pattern.wt out+(1+p.wt):=by simp[wtL];omega
  rw[zF];omega
theorem P.YA3 {w:List Data}(hw:ZN w):∀(d:Nat) (t:Ty) (K:Nat) (r:ZB),ZX w t->d<=12->rok K r->K+5^d<=1099511627776->
  ∃p r',uE r w t (d:Int)=some (p,r')/\rok (K+5^d) r'/\p.wt+1<=5^d
 |0,t,K,r,ht,hd,hr,hK=>by
  rw[uE,iP (by omega)]
  exact⟨_,_,rfl,hr.mono (by omega),by rw[ZBs];simp⟩
 |1,t,K,r,ht,hd,hr,hK=>by
  rw[uE,iP (by omega)]
  exact⟨_,_,rfl,hr.mono (by omega),by rw[ZBs];simp⟩
 |d+2,t,K,r,ht,hd,hr,hK=>by
  have hpos:1<=5^d:=Nat.pow_pos (show 0<5 by omega)
  have e25:5^ (d+2)=25*5^d:=by rw[zI,zI];omega
  have e7:5^ (d+1)=5*5^d:=by rw[zI];omega
  have hwr:i64.wrap (((d+2:Nat):Int) -1)=((d+1:Nat):Int):=by rw[ZD (by omega) (by omega)];omega
  have ih:=fun(a:Ty) (ha:ZX w a) (K:Nat) (r:ZB) hr hK=>P.YA3 hw (d+1) a K r ha (by omega) hr hK
  rw[e25]at hK ⊢
  rw[e7]at ih
  generalize 5^d=q at hpos hK ih ⊢
  rw[uE,iN (by omega)]
  obtain⟨v1,r1,e1,h1,a1,b1,_⟩:=P.YK hr (by omega) 4
  rw[e1]
  simp only[oE,oS]
  split
  ·exact⟨_,_,rfl,h1.mono (by omega),by rw[ZBs];omega⟩
  obtain⟨v2,r2,e2,h2,a2,b2,_⟩:=P.YK h1 (by omega) 6
  rw[e2]
  simp only[oS]
  split
  ·rw[hwr]
   obtain⟨p1,r3,e3,h3,w3⟩:=ih t ht _ r2 h2 (by omega)
   obtain⟨p2,r4,e4,h4,w4⟩:=ih t ht _ r3 h3 (by omega)
   rw[e3]
   simp only[oS]
   rw[e4]
   exact⟨_,_,rfl,h4.mono (by omega),by rw[ZPY];show 2+p1.wt+p2.wt+1<=_;omega⟩
  ·split
   ·obtain⟨v3,r3,e3,h3,a3,b3,_⟩:=P.YK h2 (by omega) 10
    obtain⟨v4,r4,e4,h4,a4,b4,_⟩:=P.YK h3 (by omega) (i64.wrap (10-v3))
    obtain⟨v5,r5,e5,h5,a5,b5,_⟩:=P.YK h4 (by omega) 2
    rw[e3]
    simp only[oS]
    rw[e4]
    simp only[oS]
    rw[e5]
    exact⟨_,_,rfl,h5.mono (by omega),by rw[ZBs];omega⟩
   ·next hn=>
    rw[P.YP w hw t (ZBR ht.1)]
    simp only[oS]
    split
    ·exact⟨_,_,rfl,h2.mono (by omega),by rw[ZBs];omega⟩
    ·next hl=>
     obtain⟨v3,r3,e3,h3,a3,b3,_⟩:=P.YK h2 (by omega) ((ZS w t).length:Int)
     have b3:=b3 (by omega)
     obtain⟨c,hc,hm⟩:=ZE1 a3 b3
     rw[e3]
     simp only[oS]
     rw[hc]
     simp only[oS]
     rw[P.YI w hw t (ZBR ht.1) c hm]
     simp only[oS]
     have hal:(ZP w t c).length<=3:=by
      have:=(Zl hw (ZBR ht.1) (ZW hm).1).2 _ (ZBZ hm).2
      unfold ZP;rw[yI];exact this.2.1
     have hmul:(ZP w t c).length*(5*q)<=3*(5*q):=zD _ hal
     obtain⟨z',z32',out',f1,f2,f3⟩:=P.Yw (x:=c) hwr (fun a ha K r hr hK=>ih a (ZE3 hw ht hm a ha) K r hr hK) (ZP w t c).length _ r3.f0 r3.f1 [] (zB _) h3 (by omega) (by simp;omega)
     rw[zE]at f1
     rw[f1]
     refine⟨_,_,rfl,f2.mono (by omega),?_⟩
     rw[Pattern.wt_eq]
     simp at f3
     show wtL Pattern.wt out'+1<=_
     omega
theorem P.YZ {p:Pattern}{L:List Int->Int->List Pattern->Nat->Int->Option ((List Int)×Int×(List Pattern)×Int)}
  (hL:∀z z12 out i next,L z z12 out i next=if i<p.kids.length then
   (p.kids[i]?)>>=fun x=>
   (kC (⟨z,z12⟩:ZB) x next)>>=fun v17=>
   if out.length+1<=67108864 then
    L v17.2.2.f0 v17.2.2.f1 (out++[v17.1]) (i+1) v17.2.1
   else none
  else
   some (z,z12,out,next))
  (ih:∀k,k∈p.kids->∀(n:Int) (K:Nat) (r:ZB),0<=n->n<=7->rok K r->K+3*(1+k.wt)<=1099511627776->k.wt<=1048576->
   ∃p' n' r',kC r k n=some (p',n',r')/\rok (K+3*(1+k.wt)) r'/\0<=n'/\n'<=7/\p'.wt+1<=2*(1+k.wt)):
  ∀(k K:Nat) (z:List Int) (z12:Int) (out:List Pattern) (next:Int),k<=p.kids.length->rok K ⟨z,z12⟩->K+3*wtL Pattern.wt (p.kids.drop (p.kids.length-k))<=1099511627776->wtL Pattern.wt p.kids<=1048576->out.length+k<=67108864->0<=next->next<=7->
   ∃z' z12' out' next',L z z12 out (p.kids.length-k) next=some (z',z12',out',next')/\rok (K+3*wtL Pattern.wt (p.kids.drop (p.kids.length-k))) ⟨z',z12'⟩/\0<=next'/\next'<=7/\
    wtL Pattern.wt out'<=wtL Pattern.wt out+2*wtL Pattern.wt (p.kids.drop (p.kids.length-k))
 |0,K,z,z12,out,next,hk,hr,hK,hb,ho,n0,n7=>by
  rw[hL,iN (by omega)]
  exact⟨z,z12,out,next,rfl,hr.mono (by omega),n0,n7,by omega⟩
 |k+1,K,z,z12,out,next,hk,hr,hK,hb,ho,n0,n7=>by
  have hi:p.kids.length- (k+1)<p.kids.length:=by omega
  have ei:p.kids.length- (k+1)+1=p.kids.length-k:=by omega
  have hd:p.kids.drop (p.kids.length- (k+1))=p.kids[p.kids.length- (k+1)]::p.kids.drop (p.kids.length-k):=by rw[zX hi,ei]
  have hm:=Zt Pattern.wt (gM hi)
  rw[hd,ZAR]at hK ⊢
  obtain⟨p',n',r1,e1,h1,q1,q2,q3⟩:=ih _ (gM hi) next K ⟨z,z12⟩ n0 n7 hr (by omega) (by omega)
  obtain⟨z',z12',out',next',f1,f2,f3,f4,f5⟩:=P.YZ hL ih k _ r1.f0 r1.f1 (out++[p']) n' (by omega) h1 (by omega) hb (by simp;omega) q1 q2
  rw[hL,iP hi,gQ hi]
  simp only[oE,oS]
  rw[e1]
  simp only[oS]
  rw[iP (by omega),ei]
  refine⟨z',z12',out',next',f1,f2.mono (by omega),f3,f4,?_⟩
  have:wtL Pattern.wt (out++[p'])=wtL Pattern.wt out+(1+p'.wt):=by simp[wtL];omega
  omega
theorem P.YBF (p : Pattern) : ∀ (n : Int) (K : Nat) (r : ZB), 0 <= n -> n <= 7 -> rok K r -> K + 3 * (1 + p.wt) <= 1099511627776 -> p.wt <= 1048576 ->
   ∃p' n' r',kC r p n=some (p',n',r')/\rok (K+3*(1+p.wt)) r'/\0<=n'/\n'<=7/\p'.wt+1<=2*(1+p.wt):=by
 induction p using Pattern.ind with
 |_ p ih=>
  intro n K r n0 n7 hr hK hb
  have hwt:=p.wt_eq
  have hlen:=ZBB Pattern.wt p.kids
  have same:p.wt+1<=2*(1+p.wt):=by omega
  rw[kC]
  split
  ·exact⟨_,_,_,rfl,hr.mono (by omega),n0,n7,same⟩
  split
  ·exact⟨_,_,_,rfl,hr.mono (by omega),n0,n7,same⟩
  split
  ·exact⟨_,_,_,rfl,hr.mono (by omega),n0,n7,same⟩
  have tail:∀(K':Nat) (z':List Int) (z12':Int) (out':List Pattern) (next':Int),rok K' ⟨z',z12'⟩->K'+1<=K+3*(1+p.wt)->0<=next'->next'<=7->wtL Pattern.wt out'<=2*p.wt->
    ∃p' n' r',(if next'<=5 then
     (uU (⟨z',z12'⟩:ZB) 6).bind fun v24=>
     if v24.1=0 then
      some ((⟨6,0,0,0,next',[(⟨p.op,p.ctor,p.n,p.m,p.var,out'⟩:Pattern)]⟩:Pattern),i64.wrap (next'+1),v24.2)
     else
      some ((⟨p.op,p.ctor,p.n,p.m,p.var,out'⟩:Pattern),next',v24.2)
    else
     some ((⟨p.op,p.ctor,p.n,p.m,p.var,out'⟩:Pattern),next',(⟨z',z12'⟩:ZB)))=some (p',n',r')/\rok (K+3*(1+p.wt)) r'/\0<=n'/\n'<=7/\p'.wt+1<=2*(1+p.wt):=by
   intro K' z' z12' out' next' hr' hK' m0 m7 hout
   have hown:(⟨p.op,p.ctor,p.n,p.m,p.var,out'⟩:Pattern).wt=wtL Pattern.wt out':=by rw[Pattern.wt_eq]
   split
   ·obtain⟨v,r1,e1,h1,a1,b1,_⟩:=P.YK hr' (by omega) 6
    rw[e1]
    simp only[oS]
    have hwn:i64.wrap (next'+1)=next'+1:=ZD (by omega) (by omega)
    rw[hwn]
    split
    ·refine⟨_,_,_,rfl,h1.mono (by omega),by omega,by omega,?_⟩
     rw[ZPZ,hown];omega
    ·refine⟨_,_,_,rfl,h1.mono (by omega),by omega,by omega,?_⟩
     rw[hown];omega
   ·refine⟨_,_,_,rfl,hr'.mono (by omega),m0,m7,?_⟩
    rw[hown];omega
  split
  ·obtain⟨v,r1,e1,h1,a1,b1,_⟩:=P.YK hr (by omega) 2
   rw[e1]
   simp only[oE,oS]
   have hwn:i64.wrap (n+1)=n+1:=ZD (by omega) (by omega)
   split
   ·rw[hwn]
    exact⟨_,_,_,rfl,h1.mono (by omega),by omega,by omega,by rw[ZBs];omega⟩
   ·obtain⟨z',z12',out',next',f1,f2,f3,f4,f5⟩:=P.YZ (p:=p) (L:=F.f62 p n) (fun z z12 out i next=>by rw[F.f62]) ih p.kids.length _ r1.f0 r1.f1 [] n (zB _) h1 (by rw[zE,zZ];omega) (by omega) (by simp;omega) n0 n7
    rw[zE]at f1;rw[zE,zZ]at f2 f5
    rw[f1]
    simp only[oS]
    simp at f5
    exact tail _ z' z12' out' next' f2 (by omega) f3 f4 (by omega)
  ·obtain⟨z',z12',out',next',f1,f2,f3,f4,f5⟩:=P.YZ (p:=p) (L:=F.f63 p n) (fun z z12 out i next=>by rw[F.f63]) ih p.kids.length _ r.f0 r.f1 [] n (zB _) hr (by rw[zE,zZ];omega) (by omega) (by simp;omega) n0 n7
   rw[zE]at f1;rw[zE,zZ]at f2 f5
   rw[f1]
   simp only[oE,oS]
   simp at f5
   exact tail _ z' z12' out' next' f2 (by omega) f3 f4 (by omega)
theorem ZQ3 (w:List Data)(t:Ty):ZAz w t ⟨1,0,0,0,0,[]⟩:=by
 have hp:ZF w t ⟨1,0,0,0,0,[]⟩=[]:=by simp[ZF]
 refine⟨⟨.inl ⟨rfl,rfl,rfl,rfl,rfl⟩,by rw[hp];rfl,fun i _ h=>by rw[hp]at h;simp at h⟩,⟨fun i _ h=>by rw[hp]at h;simp at h,?_⟩,by rw[ZBs];omega⟩
 rw[iN (by simp)]
 simp[ZG4,ZU]
theorem P.YA8 {w:List Data}(hw:ZN w){t:Ty}(ht:ZX w t){K:Nat}{r:ZB}(hr:rok K r)(hK:K+2600<=1099511627776):∃p r',kP r w t=some (p,r')/\rok (K+2600) r'/\ZAz w t p:=by
 unfold kP
 obtain⟨v,r1,e1,h1,hv⟩:=P.num hr (by omega) [3,2,4,1] (by simp)
 obtain⟨d,rfl,hd⟩:∃d:Nat,v=(d:Int)/\d<=4:=by
  simp at hv
  exact⟨v.toNat,by omega,by omega⟩
 have h8:5^d<=625:=zG (Nat.pow_le_pow_right (n:=5) (by omega) hd) (by decide)
 obtain⟨p,r2,e2,h2,hp⟩:=P.YA3 hw d t _ r1 ht (by omega) h1 (by omega)
 obtain⟨q,n,r3,e3,h3,_,_,hq⟩:=P.YBF p 0 _ r2 (by omega) (by omega) h2 (by omega) (by omega)
 rw[e1]
 simp only[oE,oS]
 rw[e2]
 simp only[oS]
 rw[e3]
 simp only[oS]
 rw[P.YAN w hw t ht q (by omega)]
 simp only[oS]
 by_cases h:ZAz w t q
 ·rw[iP (ZG h)]
  exact⟨_,_,rfl,h3.mono (by omega),h⟩
 ·rw[iN (by rw[ZE h];simp)]
  exact⟨_,_,rfl,h3.mono (by omega),ZQ3 w t⟩
theorem P.YBE {w:List Data}(hw:ZN w){t:Ty}(ht:ZX w t){K:Nat}{r:ZB}(hr:rok K r)(hK:K+20000<=1099511627776):∃p r',kP r w t=some (p,r')/\rok (K+20000) r'/\ZAz w t p:=by
 obtain⟨p,r',e,h,hp⟩:=P.YA8 hw ht hr (by omega)
 exact⟨p,r',e,h.mono (by omega),hp⟩
theorem P.YG (v:Pattern×ZB)(vs:List VarType):∀(k K:Nat) (z:List Int) (z4 z5 z6 z7:Int),k<=vs.length->rok K ⟨z,z4⟩->K+3*k<=1099511627776->
  ∃z' z4' z5' z6' z7',kO v z z4 z5 z6 z7 vs (vs.length-k)=some (z',z4',z5',z6',z7')/\rok (K+3*k) ⟨z',z4'⟩
 |0,K,z,z4,z5,z6,z7,hk,hr,hK=>by
  rw[kO,iN (by omega)]
  exact⟨z,z4,z5,z6,z7,rfl,hr.mono (by omega)⟩
 |k+1,K,z,z4,z5,z6,z7,hk,hr,hK=>by
  have hi:vs.length- (k+1)<vs.length:=by omega
  have ei:vs.length- (k+1)+1=vs.length-k:=by omega
  rw[kO,iP hi,gQ hi]
  simp only[oE,oS]
  rw[ei]
  split
  ·obtain⟨v1,r1,e1,h1,_⟩:=P.YK hr (by omega) 2
   rw[e1]
   simp only[oS]
   split
   ·obtain⟨v2,r2,e2,h2,_⟩:=P.YK h1 (by omega) 2
    obtain⟨v3,r3,e3,h3,_⟩:=P.YK h2 (by omega) 10
    rw[e2]
    simp only[oS]
    rw[e3]
    simp only[oS]
    obtain⟨a,b,c,d,e,f1,f2⟩:=P.YG v vs k _ r3.f0 r3.f1 (i64.wrap (1+v2)) (vs[vs.length- (k+1)]).var v3 (by omega) h3 (by omega)
    exact⟨a,b,c,d,e,f1,f2.mono (by omega)⟩
   ·obtain⟨a,b,c,d,e,f1,f2⟩:=P.YG v vs k _ r1.f0 r1.f1 z5 z6 z7 (by omega) h1 (by omega)
    exact⟨a,b,c,d,e,f1,f2.mono (by omega)⟩
  ·obtain⟨a,b,c,d,e,f1,f2⟩:=P.YG v vs k _ z z4 z5 z6 z7 (by omega) hr (by omega)
   exact⟨a,b,c,d,e,f1,f2.mono (by omega)⟩
theorem P.YA2 {w:List Data}(hw:ZN w){t:Ty}(ht:ZX w t){K:Nat}{r:ZB}(hr:rok K r)(hK:K+21000<=1099511627776):∃c r',F.f88 r w t=some (c,r')/\rok (K+21000) r'/\ZAz w t c.pat:=by
 unfold F.f88
 obtain⟨p,r1,e1,h1,hp⟩:=P.YBE hw ht hr (by omega)
 rw[e1]
 simp only[oE,oS]
 have hl:=ZBU w 10 t p
 have hb:=hp.2.2
 rw[P.YA w hw 10 t p [] ht hp.1 (by simp;omega)]
 simp only[oS,yN]
 obtain⟨a,b,c,d,e,f1,f2⟩:=P.YG (p,r1) (ZU w 10 t p) (ZU w 10 t p).length _ r1.f0 r1.f1 0 0 0 (zB _) h1 (by omega)
 rw[zE]at f1
 rw[f1]
 exact⟨_,_,rfl,f2.mono (by omega),hp⟩
theorem P.YAd {K:Nat}{r:ZB}(hr:rok K r)(hK:K+2<=1099511627776)(p:Pattern)(hp:p.wt<=1048576):∃p' r',F.f93 r p=some (p',r')/\rok (K+2) r'/\p'.wt<=p.wt+1:=by
 have hwt:=p.wt_eq
 have hlen:=ZBB Pattern.wt p.kids
 have own:∀(a b c d e:Int) (ks:List Pattern),(⟨a,b,c,d,e,ks⟩:Pattern).wt=wtL Pattern.wt ks:=fun a b c d e ks=>by rw[Pattern.wt_eq]
 unfold F.f93
 rw[iP (by omega)]
 obtain⟨v,r1,e1,h1,_⟩:=P.YK hr (by omega) 30
 rw[e1]
 simp only[oE,oS]
 split
 ·obtain⟨v2,r2,e2,h2,_⟩:=P.num h1 (by omega) [0,7,1,2,5] (by simp)
  rw[e2];exact⟨_,_,rfl,h2,by rw[own];omega⟩
 split
 ·obtain⟨v2,r2,e2,h2,_⟩:=P.num h1 (by omega) [6,-1,1] (by simp)
  rw[e2];exact⟨_,_,rfl,h2,by rw[own];omega⟩
 split
 ·obtain⟨v2,r2,e2,h2,_⟩:=P.num h1 (by omega) [9,-1,1] (by simp)
  rw[e2];exact⟨_,_,rfl,h2,by rw[own];omega⟩
 split
 ·rw[iP (by omega)]
  refine⟨_,_,rfl,h1.mono (by omega),?_⟩
  rw[own]
  have:wtL Pattern.wt (p.kids++[⟨2,0,0,0,0,[]⟩])=wtL Pattern.wt p.kids+(1+Pattern.wt ⟨2,0,0,0,0,[]⟩):=by simp[wtL];omega
  rw[this,ZBs];omega
 split
 ·split
  ·next h0=>
   rw[gQ h0]
   refine⟨_,_,rfl,h1.mono (by omega),?_⟩
   rw[own]
   have:=ZJ9 Pattern.wt p.kids 0 h0 ⟨2,0,0,0,0,[]⟩
   rw[ZBs]at this
   omega
  ·exact⟨_,_,rfl,h1.mono (by omega),by omega⟩
 split
 ·obtain⟨v2,r2,e2,h2,_⟩:=P.num h1 (by omega) [10,-1,5] (by simp)
  rw[e2];exact⟨_,_,rfl,h2,by rw[own];omega⟩
 ·exact⟨_,_,rfl,h1.mono (by omega),by omega⟩
def Tree.nodes :Tree->Nat
 |⟨_,_,_,_,branches,els⟩=>1+(branches.attach.map fun⟨b,_⟩=>Tree.nodes b.tree).sum+(els.attach.map fun⟨k,_⟩=>Tree.nodes k).sum
termination_by t=>SizeOf.sizeOf t
decreasing_by
 ·rename_i h
  have:=xN h
  cases b
  simp at this ⊢
  omega
 ·rename_i h
  have:=xN h
  simp
  omega
theorem P.YL (l:List Int)(h:l.length<=67108864):F.f157 l=some l:=by unfold F.f157;rw[iP h]
def ZKM :Nat->Tree->Prop
 |0,_=>False
 |n+1,x=>(0<=x.op/\x.op<=2/\x.els.length<=1/\x.branches.length<=10)/\(∀b,b∈x.branches->ZKM n b.tree)/\∀y,y∈x.els->ZKM n y
def right (x:Tree):Prop:=ZKM x.nodes x
def ZFu (w:List Data):Nat->Ty->Pattern->Prop
 |0,_,_=>False
 |d+1,t,p=>ZAw w t p/\p.op≠5/\p.kids.length=(ZF w t p).length/\∀i (h:i<(ZF w t p).length) (h':i<p.kids.length),ZFu w d (ZF w t p)[i] p.kids[i]
theorem ZDf {w:List Data}:∀{d:Nat} {t:Ty} {p:Pattern},ZFu w d t p->ZFu w (d+1) t p
 |0,_,_,h=>h.elim
 |d+1,t,p,⟨h1,h2,h3,h4⟩=>⟨h1,h2,h3,fun i h h'=>ZDf (h4 i h h')⟩
theorem ZKA :∀{a b:List Pattern},a.length=b.length->(∀i (h:i<a.length) (h':i<b.length),a[i].wt<=b[i].wt)->wtL Pattern.wt a<=wtL Pattern.wt b
 | [],[],_,_=>zB _
 | [],_::_,h,_=>by simp at h
 |_::_,[],h,_=>by simp at h
 |x::a,y::b,h,hh=>by
  have h0:=hh 0 (by simp) (by simp)
  have:=ZKA (a:=a) (b:=b) (by simpa using h) fun i hi hi'=>by have:=hh (i+1) (by simpa using hi) (by simpa using hi');simpa using this
  simp only[ZAR,List.getElem_cons_zero]at h0 ⊢
  omega
theorem P.YAz (p:Pattern)(l:List (List Pattern)):∀(m i:Nat) (out:List Pattern),l.length-i=m->out.length+m<=67108864->kE p l out i=some (out++(l.drop i).map fun x=>⟨p.op,p.ctor,p.n,p.m,p.var,x⟩)
 |0,i,out,hm,hb=>by rw[kE,iN (by omega),zY (by omega)];simp
 |m+1,i,out,hm,hb=>by
  have hi:i<l.length:=by omega
  rw[kE,iP hi,gQ hi]
  simp only[oE,oS]
  rw[iP (by omega),P.YAz p l m (i+1) _ (by omega) (by simp;omega),zX hi,yB]
  simp[←List.map_drop]
def ZPI :Pattern:=⟨1,0,0,0,0,[]⟩
theorem P.YBH :F.f92=some ZPI:=rfl
theorem ZM2 :ZPI.wt=0:=by rw[Pattern.wt_eq];rfl
theorem P.YBB {w:List Data}(hw:ZN w){t:Ty}(ht:ZX w t):∀(k K:Nat) (z:List Int) (z2:Int) (out:List Clause),k<=5->rok K ⟨z,z2⟩->K+k*21000<=1099511627776->out.length+k<=100->(∀c,c∈out->ZAz w t c.pat)->
  ∃z' z2' l,kN w t z z2 out (k:Int)=some (z',z2',l)/\rok (K+k*21000) ⟨z',z2'⟩/\l.length=out.length+k/\∀c,c∈l->ZAz w t c.pat
 |0,K,z,z2,out,hk,hr,hK,ho,hp=>by
  rw[kN,iN (by omega)]
  exact⟨_,_,_,rfl,hr.mono (by omega),rfl,hp⟩
 |k+1,K,z,z2,out,hk,hr,hK,ho,hp=>by
  have hw1:i64.wrap (((k+1:Nat):Int) -1)=(k:Int):=by rw[ZD (by omega) (by omega)];omega
  obtain⟨c,r',e,h1,h2⟩:=P.YA2 hw ht hr (by omega)
  rw[kN,iP (by omega),e,hw1]
  simp only[oE,oS]
  rw[iP (by omega)]
  obtain⟨z',z2',l,e2,q1,q2,q3⟩:=P.YBB hw ht k (K+21000) r'.f0 r'.f1 (out++[c]) (by omega) h1 (by omega) (by simp;omega) (fun x h=>by
   rcases yC.1 h with h|h
   ·exact hp x h
   ·rw[yP.1 h];exact h2)
  exact⟨z',z2',l,e2,q1.mono (by omega),by simp at q2;omega,q3⟩
theorem P.YBD {w:List Data}(hw:ZN w){t:Ty}(ht:ZX w t){K:Nat}{r:ZB}(hr:rok K r)(hK:K+106000<=1099511627776):∃l r',F.f90 r w t=some (l,r')/\rok (K+106000) r'/\l.length<=5/\∀c,c∈l->ZAz w t c.pat:=by
 unfold F.f90
 obtain⟨v,r1,e1,h1,hv⟩:=P.num hr (by omega) [3,2,4,5,1,0] (by simp)
 obtain⟨k,rfl,hk⟩:∃k:Nat,v=(k:Int)/\k<=5:=by
  simp at hv
  exact⟨v.toNat,by omega,by omega⟩
 obtain⟨z',z2',l,e2,q1,q2,q3⟩:=P.YBB hw ht k _ r1.f0 r1.f1 [] hk h1 (by omega) (by simp;omega) (by simp)
 rw[e1]
 simp only[oE,oS]
 rw[e2]
 exact⟨_,_,rfl,q1.mono (by omega),by simp at q2;simp only;omega,q3⟩
theorem P.Yu (v:Int×ZB):∀(k:Nat) (out:List Clause),out.length+k=9->(∀c,c∈out->c.pat.wt<=1000010)->∃l,kL v out=some l/\l.length=9/\∀c,c∈l->c.pat.wt<=1000010
 |0,out,h,hp=>by rw[kL,iN (by omega)];exact⟨_,rfl,by omega,hp⟩
 |k+1,out,h,hp=>by
  rw[kL,iP (by omega),iP (by omega)]
  exact P.Yu v k (out++[⟨⟨1,0,0,0,0,[]⟩,⟨0,0,0⟩⟩]) (by simp;omega) (fun c hc=>by
   rcases yC.1 hc with hc|hc
   ·exact hp c hc
   ·rw[yP.1 hc];simp only;rw[ZBs];omega)
theorem P.Yv {K:Nat}{r:ZB}(hr:rok K r)(hK:K+5<=1099511627776)(l:List Clause)(hl:l.length<=8)(hp:∀c,c∈l->c.pat.wt<=1000000):∃l' r',uB r l=some (l',r')/\rok (K+5) r'/\l'.length<=9/\∀c,c∈l'->c.pat.wt<=1000010:=by
 have hp':∀c,c∈l->c.pat.wt<=1000010:=fun c h=>by have:=hp c h;omega
 have setOk:∀x:Clause,x.pat.wt<=1000010->∀c,c∈l.set 0 x->c.pat.wt<=1000010:=fun x hx c hc=>by
  rcases List.mem_or_eq_of_mem_set hc with h|h
  ·exact hp' c h
  ·rw[h];exact hx
 unfold uB
 rw[iP (by omega)]
 obtain⟨v,r1,e1,h1,_⟩:=P.YK hr (by omega) 24
 rw[e1]
 simp only[oE,oS]
 split
 ·split
  ·next h0=>
   obtain⟨v2,r2,e2,h2,_⟩:=P.num h1 (by omega) [1,2,3,-1] (by simp)
   obtain⟨v3,r3,e3,h3,_⟩:=P.num h2 (by omega) [0,5,9] (by simp)
   obtain⟨v4,r4,e4,h4,_⟩:=P.num h3 (by omega) [3,10,-1] (by simp)
   rw[e2]
   simp only[oS]
   rw[e3]
   simp only[oS]
   rw[e4]
   simp only[oS]
   rw[gQ h0]
   exact⟨_,_,rfl,h4.mono (by omega),by simp;omega,setOk _ (by simpa using hp' _ (gM h0))⟩
  ·exact⟨_,_,rfl,h1.mono (by omega),by omega,hp'⟩
 split
 ·split
  ·next h0=>
   have hx:=hp _ (gM h0)
   obtain⟨p2,r2,e2,h2,w2⟩:=P.YAd h1 (by omega) l[0].pat (by omega)
   obtain⟨p3,r3,e3,h3,w3⟩:=P.YAd h2 (by omega) p2 (by omega)
   rw[gQ h0]
   simp only[oS]
   rw[e2]
   simp only[oS]
   rw[e3]
   exact⟨_,_,rfl,h3.mono (by omega),by simp;omega,setOk _ (by show p3.wt<=_;omega)⟩
  ·exact⟨_,_,rfl,h1.mono (by omega),by omega,hp'⟩
 split
 ·obtain⟨l',e2,q1,q2⟩:=P.Yu (v,r1) (9-l.length) l (by omega) hp'
  rw[e2]
  exact⟨_,_,rfl,h1.mono (by omega),by omega,q2⟩
 ·exact⟨_,_,rfl,h1.mono (by omega),by omega,hp'⟩
theorem P.YA7 {K:Nat}{r:ZB}(hr:rok K r)(hK:K+107000<=1099511627776):∃w t l v r' T,kM r=some (w,t,l,v,r')/\rok (K+107000) r'/\w∈ZAU/\vS w=some T/\TOk w T/\ZX w t/\l.length<=5/\(∀c,c∈l->ZAz w t c.pat)/\pv w false 4 t v/\v.wt+1<=256:=by
 obtain⟨w,t,v,r1,T,e1,h1,hw,hT',hT,a1,a2,a3,_,hv,hvw,a4⟩:=P.YA4 hr (by omega)
 have ht:ZX w t:=by
  refine⟨?_,a3⟩
  rcases a1 with q|⟨q1,q2,q3,q4⟩
  ·exact .inl ⟨q,a4 q⟩
  ·exact .inr ⟨q1,q2,by omega,q4⟩
 obtain⟨l,r2,e2,h2,l1,l2⟩:=P.YBD hT.wok ht h1 (by omega)
 unfold kM
 rw[e1]
 simp only[oE,oS]
 rw[e2]
 exact⟨w,t,l,v,r2,T,rfl,h2.mono (by omega),hw,hT',hT,ht,l1,l2,hv,hvw⟩
theorem P.YU (code:List Int)(hc:ZD5 code):∃w t l T,F.f96 code=some (w,t,l)/\w∈ZAU/\vS w=some T/\TOk w T/\ZX w t/\l.length<=9/\∀c,c∈l->c.pat.wt<=1000010:=by
 have key:∀r,rok 0 r->∃w t l T,((kM r)>>=fun v=>
   if 0<v.2.2.1.length then
    (uU v.2.2.2.2 4)>>=fun v9=>
    if v9.1=0 then
     (F.f92)>>=fun v13=>
     if v.2.2.1.length+1<=67108864 then
      (uB v9.2 (v.2.2.1++[(⟨v13,(⟨0,0,0⟩:Guard)⟩:Clause)]))>>=fun v16=>
      some (v.1,v.2.1,v16.1)
     else none
    else
     (uB v9.2 v.2.2.1)>>=fun v18=>
     some (v.1,v.2.1,v18.1)
   else
    (uB v.2.2.2.2 v.2.2.1)>>=fun v20=>
    some (v.1,v.2.1,v20.1))=some (w,t,l)/\w∈ZAU/\vS w=some T/\TOk w T/\ZX w t/\l.length<=9/\∀c,c∈l->c.pat.wt<=1000010:=by
  intro r hr
  obtain⟨w,t,l,v,r1,T,e1,h1,hw,hT',hT,ht,l1,l2,_⟩:=P.YA7 hr (by omega)
  have hlw:∀c,c∈l->c.pat.wt<=1000000:=fun c h=>by have:=(l2 c h).2.2;omega
  rw[e1]
  simp only[oE,oS]
  split
  ·obtain⟨v9,r2,e2,h2,_⟩:=P.YK h1 (by omega) 4
   rw[e2]
   simp only[oS]
   split
   ·rw[P.YBH]
    simp only[oS]
    rw[iP (by omega)]
    obtain⟨l',r3,e3,_,q1,q2⟩:=P.Yv h2 (by omega) (l++[⟨ZPI,⟨0,0,0⟩⟩]) (by simp;omega) (fun c h=>by
     rcases yC.1 h with h|h
     ·exact hlw c h
     ·rw[yP.1 h];simp only;rw[ZM2];omega)
    rw[e3]
    exact⟨_,_,_,T,rfl,hw,hT',hT,ht,q1,q2⟩
   ·obtain⟨l',r3,e3,_,q1,q2⟩:=P.Yv h2 (by omega) l (by omega) hlw
    rw[e3]
    exact⟨_,_,_,T,rfl,hw,hT',hT,ht,q1,q2⟩
  ·obtain⟨l',r3,e3,_,q1,q2⟩:=P.Yv h1 (by omega) l (by omega) hlw
   rw[e3]
   exact⟨_,_,_,T,rfl,hw,hT',hT,ht,q1,q2⟩
 unfold F.f96
 split
 ·rw[iP (by omega)];exact key _ (ZKL hc)
 ·exact key _ (ZIS hc (by omega))
theorem P.YS (code:List Int)(hc:ZD5 code):∃w t l T,F.f97 code=some (w,t,l)/\w∈ZAU/\vS w=some T/\TOk w T/\ZX w t/\l.length<=9/\∀c,c∈l->c.pat.wt<=1000010:=by
 obtain⟨w,t,l,T,e,hw,hT',hT,ht,l1,l2⟩:=P.YU code hc
 have key:∀r,rok 0 r->∃l',(if 0<l.length then
   if l.length<8 then
    (uU r 2)>>=fun v12=>
    if v12.1=0 then
     (uU v12.2 (l.length:Int))>>=fun v16=>
     (at? l v16.1)>>=fun x=>
     if l.length+1<=67108864 then
      some (w,t,l++[x])
     else none
    else
     some (w,t,l)
   else
    some (w,t,l)
  else
   some (w,t,l))=some (w,t,l')/\l'.length<=9/\∀c,c∈l'->c.pat.wt<=1000010:=by
  intro r hr
  split
  ·next h0=>
   split
   ·obtain⟨v12,r2,e2,h2,_⟩:=P.YK hr (by omega) 2
    rw[e2]
    simp only[oE,oS]
    split
    ·obtain⟨v16,r3,e3,h3,a1,a2,_⟩:=P.YK h2 (by omega) (l.length:Int)
     have a3:=a2 (by omega)
     obtain⟨k,rfl⟩:∃k:Nat,v16=(k:Int):=⟨v16.toNat,by omega⟩
     have hk:k<l.length:=by omega
     rw[e3]
     simp only[oS]
     rw[ZD9 hk]
     simp only[oS]
     rw[iP (by omega)]
     refine⟨_,rfl,by simp;omega,fun c h=> ?_⟩
     rcases yC.1 h with h|h
     ·exact l2 c h
     ·rw[yP.1 h];exact l2 _ (gM hk)
    ·exact⟨_,rfl,l1,l2⟩
   ·exact⟨_,rfl,l1,l2⟩
  ·exact⟨_,rfl,l1,l2⟩
 unfold F.f97
 rw[e]
 simp only[oE,oS]
 split
 ·rw[iP (by omega)]
  obtain⟨l',e2,q⟩:=key _ (ZKL hc)
  exact⟨w,t,l',T,e2,hw,hT',hT,ht,q⟩
 ·obtain⟨l',e2,q⟩:=key _ (ZIS hc (by omega))
  exact⟨w,t,l',T,e2,hw,hT',hT,ht,q⟩
def ZAg :List Nat->Nat
 | []=>1
 |a::r=>a*ZAg r
def Pattern.alts :Pattern->Nat
 |⟨op,_,_,_,_,kids⟩=>if op=5 then(kids.map fun k=>Pattern.alts k).sum else ZAg (kids.map fun k=>Pattern.alts k)
theorem ZFp (p:Pattern):p.alts=if p.op=5 then(p.kids.map Pattern.alts).sum else ZAg (p.kids.map Pattern.alts):=by
 cases p;rw[Pattern.alts]
theorem ZOZ (a b:Nat):min (min a 401+min b 401) 401=min (a+b) 401:=by omega
theorem ZOY (a b:Nat):min (min a 401*min b 401) 401=min (a*b) 401:=by
 by_cases ha:a<=401
 ·by_cases hb:b<=401
  ·rw[zK ha,zK hb]
  ·rw[zK ha,zN (by omega:401<=b)]
   rcases zQ a with rfl|h
   ·simp
   ·have h1:1*401<=a*401:=zD _ h
    have h2:1*b<=a*b:=zD _ h
    omega
 ·rw[zN (by omega:401<=a)]
  rcases zQ b with rfl|h
  ·simp
  ·have h0:1<=min b 401:=by omega
   have h1:401*1<=401*min b 401:=zH _ h0
   have h2:a*1<=a*b:=zH _ h
   omega
theorem P.YAn (p:Pattern):F.f147 p=some ((min p.alts 401:Nat):Int):=by
 induction p using Pattern.ind with
 |_ p ih=>
  have e:=ZFp p
  rw[F.f147]
  by_cases h5:p.op=5
  ·rw[iP h5]at e ⊢
   have key:∀(m i n:Nat),p.kids.length-i=m->uM p i ((min n 401:Nat):Int)=some ((min (n+((p.kids.drop i).map Pattern.alts).sum) 401:Nat):Int):=by
    intro m
    induction m with
    |zero=>intro i n hm;rw[uM,iN (by omega),zY (by omega)];simp
    |succ m ihm=>
     intro i n hm
     have hi:i<p.kids.length:=by omega
     rw[uM,iP hi,gQ hi]
     simp only[oE,oS]
     rw[iP h5,ih _ (gM hi)]
     simp only[oS]
     have hw:i64.wrap (((min n 401:Nat):Int)+((min p.kids[i].alts 401:Nat):Int))=((min n 401+min p.kids[i].alts 401:Nat):Int):=by rw[ZD (by omega) (by omega)];omega
     have hr:(if 401<((min n 401+min p.kids[i].alts 401:Nat):Int)then 401 else((min n 401+min p.kids[i].alts 401:Nat):Int))=((min (n+p.kids[i].alts) 401:Nat):Int):=by
      rw[←ZOZ];split<;>omega
     rw[hw,hr,ihm (i+1) _ (by omega),zX hi,yB,yW,Nat.add_assoc]
   have k0:=key _ 0 0 rfl
   rw[zZ,zM,←e]at k0
   rw[show uM p 0 0=some ((min p.alts 401:Nat):Int)from k0]
   rfl
  ·rw[iN h5]at e ⊢
   have key:∀(m i n:Nat),p.kids.length-i=m->uL p i ((min n 401:Nat):Int)=some ((min (n*ZAg ((p.kids.drop i).map Pattern.alts)) 401:Nat):Int):=by
    intro m
    induction m with
    |zero=>intro i n hm;rw[uL,iN (by omega),zY (by omega)];simp[ZAg]
    |succ m ihm=>
     intro i n hm
     have hi:i<p.kids.length:=by omega
     rw[uL,iP hi,gQ hi]
     simp only[oE,oS]
     rw[iN h5,ih _ (gM hi)]
     simp only[oS]
     have hb:min n 401*min p.kids[i].alts 401<=401*401:=zL (by omega) (by omega)
     have hw:i64.wrap (((min n 401:Nat):Int)*((min p.kids[i].alts 401:Nat):Int))=((min n 401*min p.kids[i].alts 401:Nat):Int):=by
      rw[←Int.natCast_mul,ZD (by omega) (by omega)]
     have hr:(if 401<((min n 401*min p.kids[i].alts 401:Nat):Int)then 401 else((min n 401*min p.kids[i].alts 401:Nat):Int))=((min (n*p.kids[i].alts) 401:Nat):Int):=by
      rw[←ZOY]
      generalize min n 401*min p.kids[i].alts 401=z
      split<;>omega
     rw[hw,hr,ihm (i+1) _ (by omega),zX hi,yB,ZAg,zO]
   have k0:=key _ 0 1 rfl
   rw[zZ,zJ,←e]at k0
   rw[show uL p 0 1=some ((min p.alts 401:Nat):Int)from k0]
   rfl
theorem ZCN :∀{l:List Nat},(∀x,x∈l->1<=x)->1<=ZAg l
 | [],_=>zB _
 |a::r,h=>by
  have h1:=h a (by simp)
  have h2:=ZCN (l:=r) fun x hx=>h x (yF _ hx)
  exact zL h1 h2
theorem ZFo {w:List Data}:∀{d:Nat} {t:Ty} {p:Pattern},Zi w d t p->1<=p.alts
 |0,_,_,h=>h.elim
 |d+1,t,p,⟨ho,hl,hk⟩=>by
  have hks:∀k,k∈p.kids->1<=k.alts:=fun k hm=>by
   obtain⟨i,hi,rfl⟩:=yH hm
   exact ZFo (hk i (zC _) (by omega) (by omega) hi)
  rw[ZFp]
  split
  ·next h5=>
   have e5:=Zz ho h5
   have h2:p.kids.length=2:=by rw[hl,e5];rfl
   have q0:=hks _ (gM (show 0<p.kids.length by omega))
   have e9:(([p.kids[0]'(by omega),p.kids[1]'(by omega)]:List Pattern).map Pattern.alts).sum=(p.kids[0]'(by omega)).alts+(p.kids[1]'(by omega)).alts:=by simp
   rw[←ZDX h2]at e9
   omega
  ·exact ZCN fun x hx=>by
    obtain⟨k,hk2,rfl⟩:=yE.1 hx
    exact hks k hk2
theorem ZEf {l:List Nat}(h:∀x,x∈l->1<=x)(i:Nat):ZAg (l.take i)<=ZAg l:=by
 induction l generalizing i with
 |nil=>simp[ZAg]
 |cons a r ih=>
  have hr:∀x,x∈r->1<=x:=fun x hx=>h x (yF _ hx)
  cases i with
  |zero=>exact ZCN h
  |succ i=>exact zH _ (ih hr i)
theorem ZJM (l:List Nat)(a:Nat):ZAg (l++[a])=ZAg l*a:=by
 induction l with
 |nil=>simp[ZAg]
 |cons b r ih=>simp only[xY,ZAg,ih,zO]
theorem ZKf {l:List Nat}(h:∀x,x∈l->1<=x){a:Nat}(ha:a∈l):a<=ZAg l:=by
 induction l with
 |nil=>cases ha
 |cons b r ih=>
  have hr:∀x,x∈r->1<=x:=fun x hx=>h x (yF _ hx)
  have h1:=h b (by simp)
  have h2:=ZCN hr
  rcases yX.1 ha with rfl|ha
  ·have:=zH a h2;rw[zW]at this;exact this
  ·have h3:=ih hr ha
   have h4:=zD (ZAg r) h1
   rw[zJ]at h4
   exact zG h3 h4
theorem P.YAY (p:Pattern)(list:List Pattern)(i:Nat)(v:List Pattern)(i17:Nat)(q:Pattern)(hq:q.kids.length<=1048576):∀(m j:Nat) (more:List Pattern),v.length-j=m->more.length+m<=67108864->
  kG p list i v i17 q more j=some (more++(v.drop j).map fun x=>⟨q.op,q.ctor,q.n,q.m,q.var,q.kids++[x]⟩)
 |0,j,more,hm,hb=>by rw[kG,iN (by omega),zY (by omega)];simp
 |m+1,j,more,hm,hb=>by
  have hj:j<v.length:=by omega
  rw[kG,iP hj,gQ hj]
  simp only[oE,oS]
  unfold F.f150
  rw[iP (by omega)]
  simp only[oS]
  rw[iP (by omega),iP (by omega),P.YAY p list i v i17 q hq m (j+1) _ (by omega) (by simp;omega),zX hj,yB]
  simp
def ZAC {β:Type}(op:Int)(path:List Int):Nat->List (List Int->List β)->List β
 |_,[]=>[]
 |i,f::r=>f (if op=4 then path++[(i:Int)]else path)++ZAC op path (i+1) r
end Go.Vl
set_option maxRecDepth 100000
namespace Go.Vl
open Go Go.RowKit
open Go.IntKind (i64)
def Pattern.tst :Pattern->List Int->List Step
 |⟨op,ctor,n,m,_,kids⟩=>fun path=>(if op=3 then[(⟨1,path,-1,n,m,0,[],0⟩:Step)]else if op=4 then[⟨1,path,ctor,0,0,0,[],0⟩]else[])++ZAC op path 0 (kids.map fun k=>Pattern.tst k)
def Pattern.bnd :Pattern->List Int->List PathBind
 |⟨op,_,_,_,var,kids⟩=>fun path=>(if op=2∨op=6 then[(⟨var,path⟩:PathBind)]else[])++ZAC op path 0 (kids.map fun k=>Pattern.bnd k)
theorem ZFx (p:Pattern)(path:List Int):p.tst path=(if p.op=3 then[(⟨1,path,-1,p.n,p.m,0,[],0⟩:Step)]else if p.op=4 then[⟨1,path,p.ctor,0,0,0,[],0⟩]else[])++ZAC p.op path 0 (p.kids.map Pattern.tst):=by
 cases p;rw[Pattern.tst]
theorem ZD8 (p:Pattern)(path:List Int):p.bnd path=(if p.op=2∨p.op=6 then[(⟨p.var,path⟩:PathBind)]else[])++ZAC p.op path 0 (p.kids.map Pattern.bnd):=by
 cases p;rw[Pattern.bnd]
theorem ZCr {β:Type}(op:Int)(g:Pattern->List Int->List β)(path:List Int):∀(l:List Pattern) (h:∀k,k∈l->∀path,(g k path).length<=1+k.wt) (i:Nat),(ZAC op path i (l.map g)).length<=wtL Pattern.wt l
 | [],h,i=>by simp[ZAC]
 |k::r,h,i=>by
  have h1:=h k (yL ..) (if op=4 then path++[(i:Int)]else path)
  have h2:=ZCr op g path r (fun k hk=>h k (yF _ hk)) (i+1)
  rw[yB,ZAC,yA,ZAR]
  omega
theorem ZCh (p:Pattern):∀path,(p.tst path).length<=1+p.wt:=by
 induction p using Pattern.ind with
 |_ p ih=>
  intro path
  have h1:=ZCr p.op Pattern.tst path p.kids ih 0
  rw[ZFx,yA,p.wt_eq]
  grind
theorem ZD7 (p:Pattern):∀path,(p.bnd path).length<=1+p.wt:=by
 induction p using Pattern.ind with
 |_ p ih=>
  intro path
  have h1:=ZCr p.op Pattern.bnd path p.kids ih 0
  rw[ZD8,yA,p.wt_eq]
  grind
theorem ZEV {p:Pattern}{path:List Int}{L:List Step->List PathBind->Nat->Option (List Step×List PathBind)}
  (hL:∀o b i,L o b i=if i<p.kids.length then(p.kids[i]?)>>=fun x=>if p.op=4 then(F.f157 path)>>=fun v=>if v.length+1<=67108864 then(F.f158 x (v++[(i:Int)]) o b)>>=fun v15=>L v15.1 v15.2 (i+1)else none
   else(F.f158 x path o b)>>=fun v18=>L v18.1 v18.2 (i+1)else some (o,b))
  (ih:∀k,k∈p.kids->∀(path:List Int) o b,path.length+k.wt<=67108863->o.length+(1+k.wt)<=67108864->b.length+(1+k.wt)<=67108864->F.f158 k path o b=some (o++k.tst path,b++k.bnd path)) (hp:path.length+p.wt<=67108863):
  ∀(m i:Nat) (o:List Step) (b:List PathBind),p.kids.length-i=m->o.length+wtL Pattern.wt (p.kids.drop i)<=67108864->b.length+wtL Pattern.wt (p.kids.drop i)<=67108864->
   L o b i=some (o++ZAC p.op path i ((p.kids.drop i).map Pattern.tst),b++ZAC p.op path i ((p.kids.drop i).map Pattern.bnd))
 |0,i,o,b,hm,h1,h2=>by rw[hL,iN (by omega),zY (by omega)];simp[ZAC]
 |m+1,i,o,b,hm,h1,h2=>by
  have hi:i<p.kids.length:=by omega
  have hk:1+p.kids[i].wt<=p.wt:=by rw[p.wt_eq];exact Zt Pattern.wt (gM hi)
  have ed:p.kids.drop i=p.kids[i]::p.kids.drop (i+1):=zX hi
  rw[ed,ZAR]at h1 h2
  have e:L o b i=(F.f158 p.kids[i] (if p.op=4 then path++[(i:Int)]else path) o b)>>=fun v15=>L v15.1 v15.2 (i+1):=by
   rw[hL,iP hi,gQ hi]
   simp only[oE,oS]
   by_cases h4:p.op=4
   ·rw[iP h4,iP h4,P.YL path (by omega)]
    grind
   ·rw[iN h4,iN h4]
  have hpl:(if p.op=4 then path++[(i:Int)]else path).length<=path.length+1:=by split<;>simp
  rw[e,ih _ (gM hi) _ o b (by omega) (by omega) (by omega)]
  simp only[oE,oS]
  have t1:=ZCh p.kids[i] (if p.op=4 then path++[(i:Int)]else path)
  have t2:=ZD7 p.kids[i] (if p.op=4 then path++[(i:Int)]else path)
  rw[ZEV hL ih hp m (i+1) _ _ (by omega) (by rw[yA];omega) (by rw[yA];omega),ed]
  simp only[yB,ZAC,yK]
theorem P.YAk (p:Pattern):∀(path:List Int) (o:List Step) (b:List PathBind),path.length+p.wt<=67108863->o.length+(1+p.wt)<=67108864->b.length+(1+p.wt)<=67108864->F.f158 p path o b=some (o++p.tst path,b++p.bnd path):=by
 induction p using Pattern.ind with
 |_ p ih=>
  intro path o b h1 h2 h3
  have hw:=p.wt_eq
  have key:=fun(L:List Step->List PathBind->Nat->Option (List Step×List PathBind)) hL o b q1 q2=>ZEV (p:=p) (path:=path) (L:=L) hL ih h1 _ 0 o b rfl q1 q2
  simp only[zZ]at key
  rw[F.f158,P.YL path (by omega),ZFx,ZD8]
  simp only[oE,oS]
  by_cases c2:p.op=2
  ·rw[iP c2,iP (by omega),key (F.f159 p path) (fun o b i=>by rw[F.f159]) _ _ (by omega) (by simp;omega)]
   simp[c2]
  ·rw[iN c2]
   by_cases c6:p.op=6
   ·rw[iP c6,iP (by omega),key (F.f160 p path) (fun o b i=>by rw[F.f160]) _ _ (by omega) (by simp;omega)]
    simp[c6]
   ·rw[iN c6]
    by_cases c3:p.op=3
    ·rw[iP c3,iP (by omega),key (F.f161 p path) (fun o b i=>by rw[F.f161]) _ _ (by simp;omega) (by omega)]
     simp[c3]
    ·rw[iN c3]
     by_cases c4:p.op=4
     ·rw[iP c4,iP (by omega),key (F.f162 p path) (fun o b i=>by rw[F.f162]) _ _ (by simp;omega) (by omega)]
      simp[c4]
     ·rw[iN c4,key (F.f163 p path) (fun o b i=>by rw[F.f163]) _ _ (by omega) (by omega)]
      simp[c2,c3,c4,c6]
theorem ZDs (path:List Int)(i:Int)(h:path.length+1<=67108864):F.f183 path i=some (path++[i]):=by
 unfold F.f183
 grind
theorem ZIe {p:Pattern}{path:List Int}(c4:p.op=4)(ih:∀k,k∈p.kids->∀(path:List Int) o,path.length+k.wt<=67108863->o.length+(1+k.wt)<=67108864->F.f184 o k path=some (o++k.tst path))(hp:path.length+p.wt<=67108863):
  ∀(m i:Nat) (o:List Step),p.kids.length-i=m->o.length+wtL Pattern.wt (p.kids.drop i)<=67108864->F.f185 p path o i=some (o++ZAC p.op path i ((p.kids.drop i).map Pattern.tst))
 |0,i,o,hm,h1=>by rw[F.f185,iN (by omega),zY (by omega)];simp[ZAC]
 |m+1,i,o,hm,h1=>by
  have hi:i<p.kids.length:=by omega
  have hk:1+p.kids[i].wt<=p.wt:=by rw[p.wt_eq];exact Zt Pattern.wt (gM hi)
  have ed:p.kids.drop i=p.kids[i]::p.kids.drop (i+1):=zX hi
  rw[ed,ZAR]at h1
  rw[F.f185,iP hi,gQ hi]
  simp only[oE,oS]
  rw[ZDs path i (by omega)]
  simp only[oS]
  rw[ih _ (gM hi) _ o (by simp;omega) (by omega)]
  simp only[oS]
  have t1:=ZCh p.kids[i] (path++[(i:Int)])
  rw[ZIe c4 ih hp m (i+1) _ (by omega) (by rw[yA];omega),ed]
  simp only[yB,ZAC,yK,iP c4]
theorem ZL2 {w:List Data}{d:Nat}{t:Ty}{p:Pattern}(h:ZFu w (d+1) t p)(h4:p.op≠4)(h6:p.op≠6):p.kids=[]:=by
 obtain⟨_,h5,hl,_⟩:=h
 unfold ZF at hl
 grind
theorem P.YAs (w:List Data):∀(d:Nat) (t:Ty) (p:Pattern),ZFu w d t p->∀(path:List Int) (o:List Step),path.length+p.wt<=67108863->o.length+(1+p.wt)<=67108864->F.f184 o p path=some (o++p.tst path)
 |0,_,_,h,_,_,_,_=>h.elim
 |d+1,t,p,hs,path,o,q1,q2=>by
  have nil:=ZL2 hs
  obtain⟨h1,h5,hl,hk⟩:=hs
  have hw:=p.wt_eq
  have ih:∀k,k∈p.kids->∀(path:List Int) o,path.length+k.wt<=67108863->o.length+(1+k.wt)<=67108864->F.f184 o k path=some (o++k.tst path):=fun k hk' path o r1 r2=>by
   obtain⟨i,hi,rfl⟩:=xE.1 hk'
   exact P.YAs w d _ _ (hk i (by omega) hi) path o r1 r2
  rw[F.f184,ZFx]
  by_cases c6:p.op=6
  ·have et:ZF w t p=[t]:=by unfold ZF;rw[iN (by omega),iN (by omega),iP c6]
   rw[et]at hl
   obtain⟨k,ek⟩:=List.length_eq_one_iff.1 hl
   have hwk:p.wt=1+k.wt:=by rw[hw,ek];simp[wtL]
   rw[iP c6,ek]
   simp only[List.getElem?_cons_zero,oE,oS]
   rw[ih k (by simp[ek]) path o (by omega) (by omega)]
   simp[c6,ZAC]
  ·rw[iN c6]
   by_cases c3:p.op=3
   ·rw[iP c3,iP (by omega),iP (by omega),nil (by omega) c6]
    simp[c3,ZAC]
   ·rw[iN c3]
    by_cases c4:p.op=4
    ·have key:=ZIe c4 ih q1 _ 0 (o++[(⟨1,path,p.ctor,0,0,0,[],0⟩:Step)]) rfl (by rw[zZ];simp;omega)
     grind
    ·rw[iN c4,nil c4 c6]
     simp[c3,c4,ZAC]
theorem ZIf {p:Pattern}{path:List Int}{L:List PathBind->Nat->Option (List PathBind)}
  (hL:∀o i,L o i=if i<p.kids.length then if p.op=4 then(F.f183 path (i:Int))>>=fun v=>(p.kids[i]?)>>=fun x=>(F.f186 o x v)>>=fun v15=>L v15 (i+1)
   else(p.kids[i]?)>>=fun x18=>(F.f186 o x18 path)>>=fun v20=>L v20 (i+1)else some o)
  (ih:∀k,k∈p.kids->∀(path:List Int) o,path.length+k.wt<=67108863->o.length+(1+k.wt)<=67108864->F.f186 o k path=some (o++k.bnd path)) (hp:path.length+p.wt<=67108863):
  ∀(m i:Nat) (o:List PathBind),p.kids.length-i=m->o.length+wtL Pattern.wt (p.kids.drop i)<=67108864->L o i=some (o++ZAC p.op path i ((p.kids.drop i).map Pattern.bnd))
 |0,i,o,hm,h1=>by rw[hL,iN (by omega),zY (by omega)];simp[ZAC]
 |m+1,i,o,hm,h1=>by
  have hi:i<p.kids.length:=by omega
  have hk:1+p.kids[i].wt<=p.wt:=by rw[p.wt_eq];exact Zt Pattern.wt (gM hi)
  have ed:p.kids.drop i=p.kids[i]::p.kids.drop (i+1):=zX hi
  rw[ed,ZAR]at h1
  have e:L o i=(F.f186 o p.kids[i] (if p.op=4 then path++[(i:Int)]else path))>>=fun v15=>L v15 (i+1):=by
   rw[hL,iP hi,gQ hi]
   by_cases h4:p.op=4
   ·rw[iP h4,iP h4,ZDs path i (by omega)]
    grind
   ·grind
  have hpl:(if p.op=4 then path++[(i:Int)]else path).length<=path.length+1:=by split<;>simp
  rw[e,ih _ (gM hi) _ o (by omega) (by omega)]
  simp only[oE,oS]
  have t2:=ZD7 p.kids[i] (if p.op=4 then path++[(i:Int)]else path)
  rw[ZIf hL ih hp m (i+1) _ (by omega) (by rw[yA];omega),ed]
  simp only[yB,ZAC,yK]
theorem P.YA6 (p:Pattern):∀(path:List Int) (o:List PathBind),path.length+p.wt<=67108863->o.length+(1+p.wt)<=67108864->F.f186 o p path=some (o++p.bnd path):=by
 induction p using Pattern.ind with
 |_ p ih=>
  intro path o h1 h2
  have hw:=p.wt_eq
  have key:=fun(L:List PathBind->Nat->Option (List PathBind)) hL o q1=>ZIf (p:=p) (path:=path) (L:=L) hL ih h1 _ 0 o rfl q1
  simp only[zZ]at key
  rw[F.f186,ZD8]
  by_cases c2:p.op=2
  ·rw[iP c2,iP (by omega),iP (by omega),key (F.f189 p path) (fun o i=>by rw[F.f189]) _ (by simp;omega)]
   simp[c2]
  ·rw[iN c2]
   by_cases c6:p.op=6
   ·rw[iP c6,iP (by omega),iP (by omega),key (F.f187 p path) (fun o i=>by rw[F.f187]) _ (by simp;omega)]
    simp[c6]
   ·rw[iN c6,key (F.f188 p path) (fun o i=>by rw[F.f188]) _ (by omega)]
    simp[c2,c6]
theorem ZEo {w:List Data}{d:Nat}(op:Int)(path:List Int):∀(ts:List Ty) (ks:List Pattern) (j:Nat),ts.length=ks.length->(∀i (h:i<ts.length) (h':i<ks.length),∀path,(ks[i].bnd path).map PathBind.var=(ZU w d ts[i] ks[i]).map VarType.var)->
  (ZAC op path j (ks.map Pattern.bnd)).map PathBind.var=((ts.zip ks).flatMap fun x=>ZU w d x.1 x.2).map VarType.var
 | [],[],j,_,_=>rfl
 | [],_::_,_,h,_=>by simp at h
 |_::_,[],_,h,_=>by simp at h
 |t::ts,k::ks,j,hl,h=>by
  have h0:=h 0 (by simp) (by simp) (if op=4 then path++[(j:Int)]else path)
  have h1:=ZEo op path ts ks (j+1) (by simpa using hl) fun i hi hi' path=>by have:=h (i+1) (by simpa using hi) (by simpa using hi') path;simpa using this
  rw[yB,ZAC,yO,h1,xA,yG,yO]
  congr 1
theorem ZIo (w:List Data):∀(d:Nat) (t:Ty) (q:Pattern),ZFu w d t q->∀path,(q.bnd path).map PathBind.var=(ZU w d t q).map VarType.var
 |0,_,_,h,_=>h.elim
 |d+1,t,q,⟨h1,h5,hl,hk⟩,path=>by
  rw[ZD8,ZU,iN h5,yD (by simp;omega),yO,yO,ZEo (w:=w) (d:=d) q.op path (ZF w t q) q.kids 0 hl.symm fun i hi hi' path=>ZIo w d _ _ (hk i hi hi') path]
  grind
def ZAr (list v:List Pattern):List Pattern:=list.flatMap fun q=>v.map fun x=>⟨q.op,q.ctor,q.n,q.m,q.var,q.kids++[x]⟩
def Pattern.splits :Pattern->List Pattern
 |⟨op,ctor,n,m,var,kids⟩=>if op=5 then(kids.map fun k=>Pattern.splits k).flatten else(kids.map fun k=>Pattern.splits k).foldl ZAr [⟨op,ctor,n,m,var,[]⟩]
theorem ZCG (p:Pattern):p.splits=if p.op=5 then(p.kids.map Pattern.splits).flatten else(p.kids.map Pattern.splits).foldl ZAr [⟨p.op,p.ctor,p.n,p.m,p.var,[]⟩]:=by
 cases p;rw[Pattern.splits]
theorem ZE5 (list v:List Pattern):(ZAr list v).length=list.length*v.length:=by
 unfold ZAr
 induction list with
 |nil=>simp
 |cons q r ih=>rw[yG,yA,ih,yI,yJ,zF,zJ,Nat.add_comm]
theorem ZGg :∀(vs:List (List Pattern)) (list:List Pattern),(vs.foldl ZAr list).length=list.length*ZAg (vs.map vC)
 | [],list=>by simp[ZAg]
 |v::vs,list=>by rw[yZ,ZGg vs,ZE5,yB,ZAg,zO]
theorem ZAE (p:Pattern):p.splits.length=p.alts:=by
 induction p using Pattern.ind with
 |_ p ih=>
  have e:(p.kids.map Pattern.splits).map vC=p.kids.map Pattern.alts:=by simp_all
  rw[ZCG,ZFp]
  by_cases h5:p.op=5
  ·grind
  ·rw[iN h5,iN h5,ZGg,e];simp
theorem ZGf {G:Nat->Pattern->Prop}{p:Pattern}:∀(vs:List (List Pattern)) (i:Nat) (list:List Pattern) (hv:∀k (h:k<vs.length) x,x∈vs[k]->G (i+k) x)
  (hl:∀q,q∈list->q=⟨p.op,p.ctor,p.n,p.m,p.var,q.kids⟩/\q.kids.length=i/\∀k (h:k<q.kids.length),G k q.kids[k]) (q:Pattern) (hq:q∈vs.foldl ZAr list),
  q=⟨p.op,p.ctor,p.n,p.m,p.var,q.kids⟩/\q.kids.length=i+vs.length/\∀k (h:k<q.kids.length),G k q.kids[k]
 | [],i,list,hv,hl,q,hq=>hl q hq
 |v::vs,i,list,hv,hl,q,hq=>by
  rw[yZ]at hq
  have:=ZGf vs (i+1) (ZAr list v) (fun k h x hx=>by have:=hv (k+1) (by simpa using h) x (by simpa using hx);rw[show i+(k+1)=i+1+k by omega]at this;exact this) (fun q hq=>by
   obtain⟨q0,h0,hq⟩:=yV.1 hq
   obtain⟨x,hx,rfl⟩:=yE.1 hq
   obtain⟨e1,e2,e3⟩:=hl q0 h0
   have f1:q0.op=p.op:=by rw[e1]
   have f2:q0.ctor=p.ctor:=by rw[e1]
   have f3:q0.n=p.n:=by rw[e1]
   have f4:q0.m=p.m:=by rw[e1]
   have f5:q0.var=p.var:=by rw[e1]
   refine⟨?_,by simp[e2],fun k hk=> ?_⟩
   ·show(⟨q0.op,q0.ctor,q0.n,q0.m,q0.var,q0.kids++[x]⟩:Pattern)=⟨p.op,p.ctor,p.n,p.m,p.var,q0.kids++[x]⟩
    rw[f1,f2,f3,f4,f5]
   ·by_cases hk':k<q0.kids.length
    ·grind
    ·have:k=i:=by simp at hk;omega
     subst this
     show G k (q0.kids++[x])[k]
     rw[xM (by omega)]
     have:=hv 0 (by simp) x (by simpa using hx)
     simpa[e2]using this) q hq
  grind
theorem P.YAL (p:Pattern)(list:List Pattern)(i:Nat)(v:List Pattern)(hq:∀q,q∈list->q.kids.length<=1048576)(hb:list.length*v.length<=60000000)(hll:list.length<=1048576):
  ∀(m k:Nat) (more:List Pattern),list.length-k=m->k<=list.length->more.length=k*v.length->F.f152 p list i v more k=some (more++ZAr (list.drop k) v)
 |0,k,more,hm,hk,ho=>by
  rw[F.f152,iN (by omega),zY (by omega)]
  simp[ZAr]
 |m+1,k,more,hm,hk,ho=>by
  have hkl:k<list.length:=by omega
  have hmul:(k+1)*v.length<=list.length*v.length:=zD _ hkl
  rw[zF,zJ]at hmul
  rw[F.f152,iP hkl,gQ hkl]
  simp only[oE,oS]
  rw[P.YAY p list i v k list[k] (hq _ (gM hkl)) _ 0 more rfl (by omega)]
  simp only[oS]
  rw[iP (by omega),P.YAL p list i v hq hb hll m (k+1) _ (by omega) (by omega) (by rw[yA,yI,zZ,ho,zF,zJ]),zX hkl,zZ]
  simp only[ZAr,yG,yK]
theorem P.YAP {w:List Data}:∀(d:Nat) (t:Ty) (p:Pattern),Zi w d t p->p.wt<=1048576->p.alts<=400->F.f153 p=some p.splits
 |0,_,_,h,_,_=>h.elim
 |d+1,t,p,⟨ho,hl,hk⟩,hw,ha=>by
  have hwk:∀i (h:i<p.kids.length),1+p.kids[i].wt<=p.wt:=fun i h=>by rw[p.wt_eq];exact Zt Pattern.wt (gM h)
  have hkl:p.kids.length<=p.wt:=by rw[p.wt_eq];exact ZBB Pattern.wt p.kids
  have hsh:∀i (h:i<p.kids.length),∃u,Zi w d u p.kids[i]:=fun i h=>⟨_,hk i (zC _) (by omega) (by omega) h⟩
  have hpos:∀x,x∈p.kids.map Pattern.alts->1<=x:=fun x hx=>by
   obtain⟨k,hk2,rfl⟩:=yE.1 hx
   obtain⟨i,hi,rfl⟩:=yH hk2
   obtain⟨u,hu⟩:=hsh i hi
   exact ZFo hu
  have e:=ZFp p
  rw[F.f153,ZCG]
  by_cases h5:p.op=5
  ·rw[iP h5]at e ⊢
   rw[iP h5]
   have e5:=Zz ho h5
   have h2:p.kids.length=2:=by rw[hl,e5];rfl
   have e2:p.kids=[p.kids[0]'(by omega),p.kids[1]'(by omega)]:=ZDX h2
   have es:p.alts=(p.kids[0]'(by omega)).alts+(p.kids[1]'(by omega)).alts:=by grind
   obtain⟨u0,s0⟩:=hsh 0 (by omega)
   obtain⟨u1,s1⟩:=hsh 1 (by omega)
   have w0:=hwk 0 (by omega)
   have w1:=hwk 1 (by omega)
   have ea:=P.YAP d u0 _ s0 (by omega) (by omega)
   have eb:=P.YAP d u1 _ s1 (by omega) (by omega)
   have la:=ZAE (p.kids[0]'(by omega))
   have lb:=ZAE (p.kids[1]'(by omega))
   have es2:(p.kids.map Pattern.splits).flatten=(p.kids[0]'(by omega)).splits++(p.kids[1]'(by omega)).splits:=by grind
   rw[gQ (by omega),gQ (by omega)]
   simp only[oE,oS]
   grind
  ·rw[iN h5]at e ⊢
   rw[iN h5]
   have key:∀(m i:Nat) (list:List Pattern),p.kids.length-i=m->i<=p.kids.length->list.length=ZAg ((p.kids.map Pattern.alts).take i)->(∀q,q∈list->q.kids.length=i)->
     F.f154 p list i=some (((p.kids.map Pattern.splits).drop i).foldl ZAr list):=by
    intro m
    induction m with
    |zero=>
     intro i list hm hi hlen hq
     rw[F.f154,iN (by omega),zY (by simp;omega)]
     rfl
    |succ m ihm=>
     intro i list hm hi hlen hq
     have hik:i<p.kids.length:=by omega
     obtain⟨u,hu⟩:=hsh i hik
     have hm1:p.kids[i].alts<=ZAg (p.kids.map Pattern.alts):=ZKf hpos (yE.2 ⟨_,gM hik,rfl⟩)
     have hm2:=ZEf hpos i
     have hwi:=hwk i hik
     have ev:=P.YAP d u _ hu (by omega) (by omega)
     have lv:=ZAE p.kids[i]
     have hts:(p.kids.map Pattern.alts).take (i+1)=(p.kids.map Pattern.alts).take i++[p.kids[i].alts]:=by
      rw[xG (by simpa using hik)];simp
     have hprod:list.length*p.kids[i].splits.length=ZAg ((p.kids.map Pattern.alts).take (i+1)):=by rw[hts,ZJM,hlen,lv]
     have hm3:=ZEf hpos (i+1)
     have el:=P.YAL p list i p.kids[i].splits (fun q h=>by rw[hq q h];omega) (by rw[hprod];omega) (by omega) _ 0 [] rfl (zC _) (by simp)
     rw[yN,zZ]at el
     rw[F.f154,iP hik,gQ hik]
     simp only[oE,oS]
     rw[ev]
     simp only[oS]
     rw[el]
     simp only[oS]
     rw[iP (by omega),ihm (i+1) _ (by omega) (by omega) (by rw[ZE5,hprod]) fun q h=>by
      obtain⟨q0,h0,h⟩:=yV.1 h
      obtain⟨x,_,rfl⟩:=yE.1 h
      simp[hq q0 h0]]
     rw[zX (show i<(p.kids.map Pattern.splits).length by simpa using hik),yZ,xC]
   have k0:=key _ 0 [⟨p.op,p.ctor,p.n,p.m,p.var,[]⟩] rfl (zC _) (by simp[ZAg]) (fun q h=>by rw[yP.1 h];rfl)
   grind
theorem ZIH {f:Ty×Pattern->List VarType}:∀(ts:List Ty) (qs ks:List Pattern),qs.length=ts.length->ks.length=ts.length->(∀i (h:i<ts.length) (h1:i<qs.length) (h2:i<ks.length),((f (ts[i],qs[i])).map VarType.var).Perm ((f (ts[i],ks[i])).map VarType.var))->
  (((ts.zip qs).flatMap f).map VarType.var).Perm (((ts.zip ks).flatMap f).map VarType.var)
 | [],_,_,_,_,_=>by simp
 |t::ts,[],_,h,_,_=>by simp at h
 |t::ts,_::_,[],_,h,_=>by simp at h
 |t::ts,q::qs,k::ks,h1,h2,h=>by
  have h0:=h 0 (by simp) (by simp) (by simp)
  have hr:=ZIH ts qs ks (by simpa using h1) (by simpa using h2) fun i a b c=>by have:=h (i+1) (by simpa using a) (by simpa using b) (by simpa using c);simpa using this
  rw[xA,xA,yG,yG,yO,yO]
  grind
theorem ZI9 {a b:List VarType}(ha:ZG4 a)(h:ZHI a b):(a.map VarType.var).Perm (b.map VarType.var):=by
 obtain⟨hl,hs⟩:=h
 have sub:∀l l':List VarType,l.length=l'.length->l.Nodup->(∀x,x∈l->x∈l')->l.Perm l':=by
  intro l
  induction l with
  |nil=>intro l' h _ _;rw[List.eq_nil_of_length_eq_zero (l:=l') (by simpa using h.symm)]
  |cons x r ih=>
   intro l' h hn hs
   obtain⟨s,t,rfl⟩:=xU (hs x (yL ..))
   rw[yY]at hn
   refine((ih (s++t) (by simp at h ⊢;omega) hn.2 fun y hy=> ?_).cons x).trans xW.symm
   grind
 have hn:a.Nodup:=by
  unfold ZG4 at ha
  exact List.Pairwise.of_map VarType.var (fun a b h e=>h (congrArg _ e)) ha
 grind
theorem ZNP {f g:Ty×Pattern->List VarType}:∀(ts:List Ty) (ks:List Pattern),ks.length=ts.length->(∀i (h:i<ts.length) (h2:i<ks.length),f (ts[i],ks[i])=g (ts[i],ks[i]))->(ts.zip ks).flatMap f=(ts.zip ks).flatMap g
 | [],_,_,_=>by simp
 |t::ts,[],h,_=>by simp at h
 |t::ts,k::ks,h2,h=>by
  have h0:=h 0 (by simp) (by simp)
  have hr:=ZNP ts ks (by simpa using h2) fun i a c=>by have:=h (i+1) (by simpa using a) (by simpa using c);simpa using this
  simp_all
theorem ZCo {w:List Data}:∀(d:Nat) (t:Ty) (q:Pattern),ZFu w d t q->ZU w (d+1) t q=ZU w d t q
 |0,_,_,h=>h.elim
 |d+1,t,q,⟨h1,h5,hl,hk⟩=>by
  rw[ZU,ZU,iN h5,yD (by simp;omega)]
  congr 1
  exact ZNP _ _ hl fun i h h2=>ZCo d _ _ (hk i h h2)
theorem ZBS {w:List Data}:∀(d:Nat) (t:Ty) (p:Pattern),Zi w d t p->ZFv w d t p->∀q,q∈p.splits->ZFu w d t q/\((ZU w d t q).map VarType.var).Perm ((ZU w d t p).map VarType.var)/\q.wt<=p.wt
 |0,_,_,h,_,_,_=>h.elim
 |d+1,t,p,⟨ho,hl,hk⟩,⟨hlk,hlin⟩,q,hq=>by
  have hwk:∀i (h:i<p.kids.length),1+p.kids[i].wt<=p.wt:=fun i h=>by rw[p.wt_eq];exact Zt Pattern.wt (gM h)
  have ih:∀i (h:i<(ZF w t p).length) (h':i<p.kids.length) q,q∈p.kids[i].splits->ZFu w d (ZF w t p)[i] q/\((ZU w d (ZF w t p)[i] q).map VarType.var).Perm ((ZU w d (ZF w t p)[i] p.kids[i]).map VarType.var)/\q.wt<=p.kids[i].wt:=
   fun i h h' q hq=>ZBS d _ _ (hk i (zC _) h h h') (hlk i (zC _) h h h') q hq
  rw[ZCG]at hq
  by_cases h5:p.op=5
  ·rw[iP h5]at hq hlin
   have et:=Zz ho h5
   have h2:p.kids.length=2:=by rw[hl,et];rfl
   have ev:=ZDU (d:=d) ho h5 (by omega)
   have es2:(p.kids.map Pattern.splits).flatten=(p.kids[0]'(by omega)).splits++(p.kids[1]'(by omega)).splits:=by
    have e9:(([p.kids[0]'(by omega),p.kids[1]'(by omega)]:List Pattern).map Pattern.splits).flatten=(p.kids[0]'(by omega)).splits++(p.kids[1]'(by omega)).splits:=by simp
    rw[←ZDX h2]at e9;exact e9
   rw[es2]at hq
   have hall:∀x,x∈ZF w t p->x=t:=by rw[et];simp
   have t0:∀i (h:i<(ZF w t p).length),(ZF w t p)[i]=t:=fun i h=>hall _ (gM h)
   have i0:=ih 0 (by omega) (by omega)
   have i1:=ih 1 (by omega) (by omega)
   have s0:=hk 0 (zC _) (by omega) (by omega) (by omega)
   have l0:=hlk 0 (zC _) (by omega) (by omega) (by omega)
   have s1:=hk 1 (zC _) (by omega) (by omega) (by omega)
   have l1:=hlk 1 (zC _) (by omega) (by omega) (by omega)
   rw[t0]at i0 i1 s0 l0 s1 l1
   have w0:=hwk 0 (by omega)
   have w1:=hwk 1 (by omega)
   rcases yC.1 hq with hq|hq
   ·obtain⟨a1,a2,a3⟩:=i0 q hq
    exact⟨ZDf a1,by rw[ZCo d t q a1,ev];exact a2,by omega⟩
   ·obtain⟨a1,a2,a3⟩:=i1 q hq
    refine⟨ZDf a1,?_,by omega⟩
    rw[ZCo d t q a1,ev]
    exact a2.trans (ZI9 (ZBi s0 l0) (hlin (by omega) (by omega))).symm
  ·rw[iN h5]at hq
   obtain⟨e1,e2,e3⟩:=ZGf (G:=fun k x=>∀h:k<p.kids.length,x∈p.kids[k].splits) (p:=p) _ 0 _ (fun k h x hx h'=>by
    have e:(0+k)=k:=zM k
    simp only[xC]at hx
    simpa only[e]using hx) (fun q hq=>by rw[yP.1 hq];exact⟨rfl,rfl,fun k h=>absurd h (by simp)⟩) q hq
   rw[yI,zM]at e2
   have eo:q.op=p.op:=by rw[e1]
   have ec:q.ctor=p.ctor:=by rw[e1]
   have en:q.n=p.n:=by rw[e1]
   have em:q.m=p.m:=by rw[e1]
   have ew:q.var=p.var:=by rw[e1]
   have ety:ZF w t q=ZF w t p:=by unfold ZF;rw[eo,ec]
   have eow:ZAw w t q:=by unfold ZAw at ho ⊢;rw[eo,ec,en,em,ew];exact ho
   have ihq:∀i (h:i<(ZF w t p).length) (h1:i<q.kids.length) (h':i<p.kids.length),ZFu w d (ZF w t p)[i] q.kids[i]/\((ZU w d (ZF w t p)[i] q.kids[i]).map VarType.var).Perm ((ZU w d (ZF w t p)[i] p.kids[i]).map VarType.var)/\q.kids[i].wt<=p.kids[i].wt:=
    fun i h h1 h'=>ih i h h' _ (e3 i h1 h')
   refine⟨⟨eow,by omega,by rw[ety];omega,fun i h h'=> ?_⟩,?_,?_⟩
   ·grind
   ·have vp:ZU w (d+1) t p=(if p.op=2∨p.op=6 then[⟨p.var,t⟩]else[])++((ZF w t p).zip p.kids).flatMap fun x=>ZU w d x.1 x.2:=by
     rw[ZU,iN h5,yD (by rw[xZ];omega)]
    have vq:ZU w (d+1) t q=(if p.op=2∨p.op=6 then[⟨p.var,t⟩]else[])++((ZF w t p).zip q.kids).flatMap fun x=>ZU w d x.1 x.2:=by
     rw[ZU,iN (show ¬q.op=5 by omega),yD (by rw[xZ];omega),ety,eo,ew]
    rw[vp,vq,yO,yO]
    exact(ZIH _ _ _ (by omega) hl fun i h h1 h2=>(ihq i h h1 h2).2.1).append_left _
   ·rw[q.wt_eq,p.wt_eq]
    exact ZKA (by omega) fun i h h'=>(ihq i (by omega) h h').2.2
theorem ZDD {w:List Data}{d:Nat}{t:Ty}{p:Pattern}(h1:Zi w d t p)(h2:ZFv w d t p){q:Pattern}(hq:q∈p.splits)(path:List Int):((q.bnd path).map PathBind.var).Nodup:=by
 obtain⟨s1,s2,_⟩:=ZBS d t p h1 h2 q hq
 rw[ZIo w d t q s1 path]
 exact s2.nodup_iff.2 (ZBi h1 h2)
/-! The reference cuts a pattern's choices off at 401. -/
theorem ZBL {α:Type}(n:Nat)(a b:List α):((a.take n)++b).take n=(a++b).take n:=by
 rw[yS,yS,xJ,Nat.min_self]
 grind
theorem P.YAp {lists:List (List Pattern)}{i:Nat}(hi:i<lists.length){out:List (List Pattern)}{k:Nat}(hk:k<out.length)(hR:out[k].length<=1048576)(hx:lists[i].length<=401):
  ∀(m j:Nat) (next:List (List Pattern)),lists[i].length-j=m->next.length<=401->F.f176 lists out i k next j=some ((next++(lists[i].drop j).map fun x=>out[k]++[x]).take 401)
 |m,j,next,hm,hn=>by
  rw[F.f176,gQ hi]
  simp only[oE,oS]
  by_cases hj:j<lists[i].length
  ·rw[iP hj]
   by_cases h4:next.length<=400
   ·rw[iP h4,gQ hk]
    simp only[oS]
    rw[iP (by omega),gQ hj]
    simp only[oS]
    rw[iP (by omega),iP (by omega),iP (by omega)]
    match m,hm with
    |0,hm=>omega
    |m+1,hm=>
     rw[P.YAp hi hk hR hx m (j+1) _ (by omega) (by simp;omega),zX hj,yB,yK]
     rfl
   ·grind
  ·rw[iN hj,zY (by omega),xH,vA,yD (by omega)]
def addT (out:List (List Pattern))(v:List Pattern):List (List Pattern):=out.flatMap fun x=>v.map fun y=>x++[y]
theorem P.YAq {lists:List (List Pattern)}{i:Nat}(hi:i<lists.length){out:List (List Pattern)}(ho:out.length<=401)(hR:∀x,x∈out->x.length<=1048576)(hx:lists[i].length<=401):
  ∀(m k:Nat) (next:List (List Pattern)),out.length-k=m->next.length<=401->F.f177 lists out i next k=some ((next++addT (out.drop k) lists[i]).take 401)
 |m,k,next,hm,hn=>by
  rw[F.f177]
  by_cases hk:k<out.length
  ·rw[iP hk]
   by_cases h4:next.length<=400
   ·rw[iP h4,P.YAp hi hk (hR _ (gM hk)) hx _ 0 next rfl hn]
    simp only[oE,oS]
    rw[iP (by omega)]
    match m,hm with
    |0,hm=>omega
    |m+1,hm=>
     rw[P.YAq hi ho hR hx m (k+1) _ (by omega) (by rw[yT];omega),ZBL,zZ,zX hk]
     simp only[addT,yG,yK]
   ·grind
  ·rw[iN hk,zY (by omega)]
   simp only[addT,List.flatMap_nil,vA]
   rw[yD (by omega)]
theorem ZFz {α β:Type}{f:α->List β}(hf:∀x,f x≠[])(n:Nat):∀l:List α,((l.take n).flatMap f).take n=(l.flatMap f).take n:=by
 have key:∀(l:List α) (n m:Nat),m<=n->((l.take n).flatMap f).take m=(l.flatMap f).take m:=by
  intro l
  induction l with
  |nil=>intro n m _;simp
  |cons x r ih=>
   intro n m hm
   cases n with
   |zero=>grind
   |succ n=>
    rw[xF,yG,yG,yS,yS,ih n (m- (f x).length) (by have:=xS.2 (hf x);omega)]
 grind
theorem ZEW {α β γ:Type}(g:α->β->γ)(n:Nat)(v:List β):∀(l:List α) (m:Nat),m<=n->(l.flatMap fun x=>(v.take n).map (g x)).take m=(l.flatMap fun x=>v.map (g x)).take m
 | [],m,_=>by simp
 |x::r,m,hm=>by
  rw[yG,yG,yS,yS,yI,yI,yT,←vB,←vB,xJ,zK hm]
  by_cases h:v.length<=n
  ·rw[zN h,ZEW g n v r _ (by omega)]
  ·rw[show m-min n v.length=0 by omega,show m-v.length=0 by omega]
   simp
theorem ZLb {v:List Pattern}(hv:v≠[])(out:List (List Pattern)):(addT (out.take 401) (v.take 401)).take 401=(addT out v).take 401:=by
 unfold addT
 rw[ZEW (fun(x:List Pattern) y=>x++[y]) 401 v _ 401 (zB _),ZFz (fun x h=>hv (List.map_eq_nil_iff.1 h))]
theorem P.YAr {Ls:List (List Pattern)}(hb:Ls.length<=1048576)(hne:∀L,L∈Ls->L≠[]):
  ∀(m i:Nat) (out:List (List Pattern)),Ls.length-i=m->(∀x,x∈out->x.length=i)->i<=Ls.length->F.f178 (Ls.map fun L=>L.take 401) (out.take 401) i=some (((Ls.drop i).foldl addT out).take 401)
 |m,i,out,hm,hR,hi=>by
  rw[F.f178]
  by_cases h:i<Ls.length
  ·have h':i<(Ls.map fun L=>L.take 401).length:=by simpa using h
   have ei:(Ls.map fun L=>L.take 401)[i]=Ls[i].take 401:=xC ..
   rw[iP h',P.YAq h' (by rw[yT];omega) (fun x hx=>by rw[hR x (xP hx)];omega) (by rw[ei,yT];omega) _ 0 [] rfl (by simp)]
   simp only[oE,oS,yN,zZ]
   rw[iP (by omega),ei,ZLb (hne _ (gM h))]
   match m,hm with
   |0,hm=>omega
   |m+1,hm=>
    rw[P.YAr hb hne m (i+1) _ (by omega) (fun x hx=>by
     obtain⟨y,hy,hx⟩:=yV.1 hx
     obtain⟨z,_,rfl⟩:=yE.1 hx
     simp[hR y hy]) (by omega),zX h,yZ]
  ·grind
theorem ZEs (mk:List Pattern->Pattern)(hmk:∀q,mk q=⟨(mk q).op,(mk q).ctor,(mk q).n,(mk q).m,(mk q).var,q⟩)(hmk2:∀a b,(⟨(mk a).op,(mk a).ctor,(mk a).n,(mk a).m,(mk a).var,b⟩:Pattern)=mk b)(hk:∀a,(mk a).kids=a):
  ∀(Ls:List (List Pattern)) (out:List (List Pattern)),Ls.foldl ZAr (out.map mk)=(Ls.foldl addT out).map mk
 | [],out=>rfl
 |L::Ls,out=>by
  have e:ZAr (out.map mk) L=(addT out L).map mk:=by
   unfold ZAr addT
   rw[List.flatMap_map,List.map_flatMap]
   refine congrArg (fun f=>out.flatMap f) (funext fun x=> ?_)
   simp_all
  rw[yZ,yZ,e,ZEs mk hmk hmk2 hk Ls]
theorem P.YAM (p:Pattern)(h:∀i (h:i<p.kids.length),F.f181 p.kids[i]=some (p.kids[i].splits.take 401))(hk:p.kids.length<=67108863):
  ∀(m i:Nat) (out:List (List Pattern)),p.kids.length-i=m->out.length=i->F.f182 p out i=some (out++(p.kids.drop i).map fun k=>k.splits.take 401)
 |0,i,out,hm,ho=>by rw[F.f182,iN (by omega),zY (by omega)];simp
 |m+1,i,out,hm,ho=>by
  have hi':i<p.kids.length:=by omega
  rw[F.f182,iP hi',gQ hi']
  simp only[oE,oS]
  rw[h i hi']
  simp only[oS]
  rw[iP (by omega),P.YAM p h hk m (i+1) _ (by omega) (by simp[ho]),zX hi',yB,yK]
  rfl
theorem P.YQ (w:List Data):∀(d:Nat) (t:Ty) (p:Pattern),Zi w d t p->p.wt<=1048576->F.f181 p=some (p.splits.take 401)
 |0,_,_,h,_=>h.elim
 |d+1,t,p,⟨h1,h2,h3⟩,hw=>by
  have hwk:∀i (h:i<p.kids.length),1+p.kids[i].wt<=p.wt:=fun i h=>by rw[p.wt_eq];exact Zt Pattern.wt (gM h)
  have hkl:p.kids.length<=p.wt:=by rw[p.wt_eq];exact ZBB Pattern.wt p.kids
  have hsh:∀i (h:i<p.kids.length),∃u,Zi w d u p.kids[i]:=fun i h=>⟨_,h3 i (zC _) (by omega) (by omega) h⟩
  have ih:∀i (h':i<p.kids.length),F.f181 p.kids[i]=some (p.kids[i].splits.take 401):=fun i h'=>by
   obtain⟨u,hu⟩:=hsh i h'
   exact P.YQ w d _ _ hu (by have:=hwk i h';omega)
  rw[F.f181,ZCG]
  by_cases h5:p.op=5
  ·have ht:ZF w t p=[t,t]:=Zz h1 h5
   have k2:p.kids.length=2:=by rw[h2,ht];rfl
   have es2:(p.kids.map Pattern.splits).flatten=(p.kids[0]'(by omega)).splits++(p.kids[1]'(by omega)).splits:=by
    have e9:(([p.kids[0]'(by omega),p.kids[1]'(by omega)]:List Pattern).map Pattern.splits).flatten=(p.kids[0]'(by omega)).splits++(p.kids[1]'(by omega)).splits:=by simp
    rw[←ZDX k2]at e9;exact e9
   rw[iP h5,iP h5,es2,gQ (by omega),gQ (by omega)]
   simp only[oE,oS]
   rw[ih 0 (by omega),ih 1 (by omega)]
   simp only[oS]
   generalize(p.kids[0]'(by omega)).splits=a
   generalize(p.kids[1]'(by omega)).splits=b
   have e:((a.take 401)++(b.take 401)).take 401=(a++b).take 401:=by
    rw[ZBL,yS,yS,xJ]
    grind
   have l1:(a.take 401).length<=401:=by rw[yT];omega
   have l2:(b.take 401).length<=401:=by rw[yT];omega
   rw[iP (by omega)]
   by_cases hc:401<(a.take 401++b.take 401).length
   ·grind
   ·have e2:(a.take 401++b.take 401).take 401=a.take 401++b.take 401:=yD (by omega)
    rw[iN hc,←e,e2]
  ·have key:=P.YAM p ih (by omega) _ 0 [] rfl rfl
   rw[zZ,yN]at key
   have hne:∀L,L∈p.kids.map Pattern.splits->L≠[]:=fun L hL hn=>by
    obtain⟨k,hk,rfl⟩:=yE.1 hL
    obtain⟨i,hi,rfl⟩:=xE.1 hk
    obtain⟨u,hu⟩:=hsh i hi
    have l1:=ZAE p.kids[i]
    have l2:=ZFo hu
    grind
   have t1:=P.YAr (Ls:=p.kids.map Pattern.splits) (by simp;omega) hne _ 0 [[]] rfl (by simp) (zC _)
   rw[xB,zZ]at t1
   rw[iN h5,iN h5,key]
   simp only[oE,oS]
   unfold F.f179
   rw[show F.f178 (p.kids.map fun k=>k.splits.take 401) [[]] 0=some (((p.kids.map Pattern.splits).foldl addT [[]]).take 401)from t1]
   simp only[oE,oS]
   rw[P.YAz p _ _ 0 [] rfl (by rw[yT,yM];omega),zZ,yN]
   have e:=ZEs (fun ks=>⟨p.op,p.ctor,p.n,p.m,p.var,ks⟩) (fun q=>rfl) (fun a b=>rfl) (fun a=>rfl) (p.kids.map Pattern.splits) [[]]
   simp_all
/-! The code of clauses. -/
theorem ZDT {α:Type}{f:α->α}{L:List α->Nat->Option (List α)}{n:Nat}(hL:∀out k,out.length=n->L out k=if h:k<out.length then L (out.set k (f out[k])) (k+1)else some out):
  ∀(m k:Nat) (out:List α),out.length=n->out.length-k=m->k<=out.length->L out k=some (out.take k++(out.drop k).map f)
 |0,k,out,hn,hm,hk=>by
  rw[hL out k hn,dif_neg (by omega),zY (by omega),yD (by omega)]
  simp
 |m+1,k,out,hn,hm,hk=>by
  have hk':k<out.length:=by omega
  rw[hL out k hn,dif_pos hk',ZDT hL m (k+1) _ (by simpa using hn) (by simp;omega) (by simp;omega)]
  have e1:(out.set k (f out[k])).take (k+1)=out.take k++[f out[k]]:=by
   rw[xG (by simpa using hk'),List.take_set_of_le (zB _)]
   simp
  have e2:(out.set k (f out[k])).drop (k+1)=out.drop (k+1):=List.drop_set_of_lt (by omega)
  rw[e1,e2,zX hk',yB]
  simp
def ZKD (i:Nat)(q:Pattern)(e:Int):Step:=⟨2,[],0,0,0,(i:Int),sortI (fun x=>x.var) (q.bnd []),e⟩
def toS (e:Int)(s:Step):Step:=⟨s.op,s.path,s.ctor,s.n,s.m,s.clause,s.binds,e⟩
def Zd (g:Nat->Int)(i:Nat):Nat->List Pattern->List Step
 |_,[]=>[]
 |n,q::r=>((q.tst []).map (toS ((n+(q.tst []).length+1:Nat):Int))++[ZKD i q (g (n+(q.tst []).length+1))])++Zd g i (n+(q.tst []).length+1) r
theorem ZEh (g g':Nat->Int)(i:Nat):∀(qs:List Pattern) (n:Nat),(Zd g i n qs).length=(Zd g' i n qs).length
 | [],n=>rfl
 |q::r,n=>by simp only[Zd,yA,ZEh g g' i r];simp
theorem ZGS {β:Type}{R:β->Prop}(op:Int)(g:Pattern->List Int->List β)(path:List Int):∀(l:List Pattern) (h:∀k,k∈l->∀path s,s∈g k path->R s) (i:Nat) (s:β),s∈ZAC op path i (l.map g)->R s
 | [],h,i,s,hs=>by simp[ZAC]at hs
 |k::r,h,i,s,hs=>by
  rw[yB,ZAC,yC]at hs
  rcases hs with hs|hs
  ·grind
  ·exact ZGS op g path r (fun k hk=>h k (yF _ hk)) (i+1) s hs
theorem ZPe (p:Pattern):∀path s,s∈p.tst path->s.op=1:=by
 induction p using Pattern.ind with
 |_ p ih=>
  intro path s hs
  rw[ZFx,yC]at hs
  rcases hs with hs|hs
  ·grind
  ·exact ZGS p.op Pattern.tst path p.kids ih 0 s hs
theorem P.YAA (v4:List (List Pattern)×Bool)(out:List Step)(i:Nat)(x:List Pattern)(hx:∀q,q∈x->q.wt<=900/\((q.bnd []).map PathBind.var).Nodup)(hxl:x.length<=1000):
  ∀(m j:Nat) (o:List Step),x.length-j=m->o.length+m*1000<=67108000->F.f166 v4 out i x o j=some (o++Zd (fun _=>0) i o.length (x.drop j))
 |0,j,o,hm,hb=>by
  rw[F.f166,iN (by omega),zY (by omega)]
  simp[Zd]
 |m+1,j,o,hm,hb=>by
  have hj:j<x.length:=by omega
  obtain⟨w1,n1⟩:=hx _ (gM hj)
  have t1:=ZCh x[j] []
  have b1:=ZD7 x[j] []
  rw[F.f166,iP hj,gQ hj]
  simp only[oE,oS]
  rw[P.YAk x[j] [] o [] (by simp;omega) (by omega) (by simp;omega)]
  simp only[oS,yN]
  unfold F.f164
  rw[iP ⟨n1,by omega⟩]
  simp only[oS]
  have hl:(o++x[j].tst []).length=o.length+(x[j].tst []).length:=yA
  have key:=ZDT (f:=toS ((o.length+(x[j].tst []).length+1:Nat):Int)) (n:=o.length+(x[j].tst []).length) (L:=fun a k=>F.f165 v4 out i x j (sortI (fun x=>x.var) (x[j].bnd [])) a k)
   (fun a k ha=>by
    show F.f165 v4 out i x j _ a k=_
    rw[F.f165]
    by_cases hk:k<a.length
    ·rw[iP hk,dif_pos hk,iP (by omega),gQ hk]
     simp only[oE,oS]
     rw[ha]
     rfl
    ·rw[iN hk,dif_neg hk]) _ o.length (o++x[j].tst []) hl rfl (by omega)
  rw[key,xK,xL]
  simp only[oS]
  rw[iP (by simp;omega),iP (by omega),P.YAA v4 out i x hx hxl m (j+1) _ (by omega) (by simp;omega),zX hj]
  have el:(o++(x[j].tst []).map (toS ((o.length+(x[j].tst []).length+1:Nat):Int))++[(⟨2,[],0,0,0,(i:Int),sortI (fun x=>x.var) (x[j].bnd []),0⟩:Step)]).length=o.length+(x[j].tst []).length+1:=by simp;omega
  rw[el,Zd]
  simp only[ZKD,yK]
theorem ZEk {α:Type}:∀l l':List α,l.Nodup->l'.Nodup->(∀x,x∈l↔x∈l')->l.Perm l'
 | [],l',_,_,h=>by
  cases l' with
  |nil=>exact .refl _
  |cons a r=>exact absurd ((h a).2 (yL ..)) (by simp)
 |x::r,l',hn,hn',h=>by
  obtain⟨s,t,rfl⟩:=xU ((h x).1 (yL ..))
  rw[yY]at hn
  have hp:(s++x::t).Perm (x::(s++t)):=xW
  have hn2:=hp.nodup_iff.1 hn'
  rw[yY]at hn2
  refine((ZEk r (s++t) hn.2 hn2.2 fun y=> ?_).cons x).trans hp.symm
  grind
def ZD6 (l:List PathBind)(n m:Nat):List PathBind:=(List.range' n m).flatMap fun(k:Nat)=>l.filter fun b=>decide (b.var=(k:Int))
theorem ZGw {l:List PathBind}{n m:Nat}{x:PathBind}:x∈ZD6 l n m↔x∈l/\(n:Int)<=x.var/\x.var<(n+m:Nat):=by
 unfold ZD6
 simp only[yV,xD,decide_eq_true_eq,List.mem_range'_1]
 constructor
 ·grind
 ·rintro⟨hx,h1,h2⟩
  exact⟨x.var.toNat,by omega,hx,by omega⟩
theorem ZMm {l:List PathBind}(h:(l.map PathBind.var).Nodup)(n:Int):(l.filter fun b=>decide (b.var=n)).Pairwise fun x y=>x.var<y.var:=by
 induction l with
 |nil=>simp
 |cons b r ih=>
  rw[yB,yY]at h
  by_cases e:b.var=n
  all_goals simp_all
theorem ZFm {l:List PathBind}(h:(l.map PathBind.var).Nodup):∀m n,(ZD6 l n m).Pairwise fun x y=>x.var<y.var
 |0,n=>by simp[ZD6]
 |m+1,n=>by
  have ih:=ZFm h m (n+1)
  have e:ZD6 l n (m+1)=(l.filter fun b=>decide (b.var=(n:Int)))++ZD6 l (n+1) m:=by
   unfold ZD6;rw[xV,yG]
  rw[e,List.pairwise_append]
  refine⟨ZMm h _,ih,fun a ha b hb=> ?_⟩
  have h1:=(xD.1 ha).2
  have h2:=(ZGw.1 hb).2.1
  grind
theorem ZJt {l:List PathBind}(h:(l.map PathBind.var).Nodup)(hv:∀b,b∈l->0<=b.var/\b.var<=5):ZD6 l 0 6=sortI (fun x=>x.var) l:=by
 have nd:∀l:List PathBind,l.Pairwise (fun x y=>x.var<y.var)->l.Nodup:=fun l h=>h.imp fun{a b} hab e=>by subst e;omega
 refine ZHa (key:=fun x=>x.var) _ _ (ZEk _ _ (nd _ (ZFm h 6 0)) (nd _ (ZDR l h)) fun x=> ?_) (ZFm h 6 0) (ZDR l h)
 rw[ZGw,ZDd]
 grind
theorem P.YBC (list:List PathBind)(n:Nat)(hp:∀b,b∈list->b.path.length<=67108864):∀(m i:Nat) (out:List PathBind),list.length-i=m->out.length+m<=67108864->F.f190 list n out i=some (out++(list.drop i).filter fun b=>decide (b.var=(n:Int)))
 |0,i,out,hm,hb=>by rw[F.f190,iN (by omega),zY (by omega)];simp
 |m+1,i,out,hm,hb=>by
  have hi:i<list.length:=by omega
  rw[F.f190,iP hi,gQ hi,zX hi,List.filter_cons]
  simp only[oE,oS]
  by_cases e:list[i].var=(n:Int)
  ·rw[iP e,iP (hp _ (gM hi)),iP (by omega),iP (by simpa using e),P.YBC list n hp m (i+1) _ (by omega) (by simp;omega),←e,yK]
   rfl
  ·rw[iN e,iN (by simpa using e),P.YBC list n hp m (i+1) _ (by omega) (by omega)]
theorem P.YBG (list:List PathBind)(hp:∀b,b∈list->b.path.length<=67108864)(hl:list.length<=1048576):∀(m n:Nat) (out:List PathBind),6-n=m->n<=6->out.length+m*1048576<=67108864->F.f191 list out n=some (out++ZD6 list n m)
 |0,n,out,hm,hn,hb=>by rw[F.f191,iN (by omega)];simp[ZD6]
 |m+1,n,out,hm,hn,hb=>by
  have hf:(list.filter fun b=>decide (b.var=(n:Int))).length<=list.length:=List.length_filter_le ..
  rw[F.f191,iP (by omega),P.YBC list n hp _ 0 out rfl (by omega)]
  simp only[oE,oS,zZ]
  rw[iP (by omega),P.YBG list hp hl m (n+1) _ (by omega) (by omega) (by rw[yA];omega)]
  unfold ZD6
  rw[xV,yG,yK]
theorem P.YAj (list:List PathBind)(hp:∀b,b∈list->b.path.length<=67108864)(hl:list.length<=1048576)(h:(list.map PathBind.var).Nodup)(hv:∀b,b∈list->0<=b.var/\b.var<=5):F.f192 list=some (sortI (fun x=>x.var) list):=by
 unfold F.f192
 rw[P.YBG list hp hl 6 0 [] rfl (by omega) (by simp),ZJt h hv]
 rfl
theorem ZDt {β:Type}(op:Int)(g:Pattern->List Int->List β)(path:List Int):∀(l:List Pattern) (i:Nat) (s:β),s∈ZAC op path i (l.map g)->∃k,k∈l/\∃path',path'.length<=path.length+1/\s∈g k path'
 | [],i,s,hs=>by simp[ZAC]at hs
 |k::r,i,s,hs=>by
  rw[yB,ZAC,yC]at hs
  rcases hs with hs|hs
  ·grind
  ·obtain⟨k',h1,h2⟩:=ZDt op g path r (i+1) s hs
   grind
theorem ZIp (p:Pattern):∀path b,b∈p.bnd path->b.path.length<=path.length+p.wt:=by
 induction p using Pattern.ind with
 |_ p ih=>
  intro path b hb
  rw[ZD8,yC]at hb
  rcases hb with hb|hb
  ·grind
  ·obtain⟨k,hk,path',hp,hb⟩:=ZDt p.op Pattern.bnd path p.kids 0 b hb
   have h1:=ih k hk path' b hb
   have h2:1+k.wt<=p.wt:=by rw[p.wt_eq];exact Zt Pattern.wt hk
   omega
theorem ZH5 {w:List Data}:∀(d:Nat) (t:Ty) (p:Pattern),ZFu w d t p->∀path b,b∈p.bnd path->0<=b.var/\b.var<=5
 |0,_,_,h,_,_,_=>h.elim
 |d+1,t,p,⟨h1,h5,hl,hk⟩,path,b,hb=>by
  rw[ZD8,yC]at hb
  rcases hb with hb|hb
  ·split at hb
   ·next h26=>
    rw[yP.1 hb]
    show 0<=p.var/\p.var<=5
    unfold ZAw at h1
    omega
   ·cases hb
  ·obtain⟨k,hm,path',hp,hb⟩:=ZDt p.op Pattern.bnd path p.kids 0 b hb
   obtain⟨i,hi,rfl⟩:=xE.1 hm
   exact ZH5 d _ _ (hk i (by omega) hi) path' b hb
theorem P.YA1 (w:List Data)(list:List Clause)(out:List Step)(i:Nat)(x:List Pattern)(hx:∀q,q∈x->q.wt<=900/\((q.bnd []).map PathBind.var).Nodup/\∃d t,ZFu w d t q)(hxl:x.length<=1000):
  ∀(m j:Nat) (o:List Step),x.length-j=m->o.length+m*1000<=67108000->F.f194 list out i x o j=some (o++Zd (fun n=>(n:Int)) i o.length (x.drop j))
 |0,j,o,hm,hb=>by
  rw[F.f194,iN (by omega),zY (by omega)]
  simp[Zd]
 |m+1,j,o,hm,hb=>by
  have hj:j<x.length:=by omega
  obtain⟨w1,n1,d,t,s1⟩:=hx _ (gM hj)
  have t1:=ZCh x[j] []
  have b1:=ZD7 x[j] []
  rw[F.f194,iP hj,gQ hj]
  simp only[oE,oS]
  rw[P.YAs w d t x[j] s1 [] o (by simp;omega) (by omega)]
  simp only[oS]
  rw[P.YA6 x[j] [] [] (by simp;omega) (by simp;omega),yN]
  simp only[oS]
  rw[P.YAj _ (fun b hb=>by have:=ZIp x[j] [] b hb;simp at this;omega) (by omega) n1 (ZH5 d t x[j] s1 [])]
  simp only[oS]
  have hl:(o++x[j].tst []++[(⟨2,[],0,0,0,(i:Int),sortI (fun x=>x.var) (x[j].bnd []),0⟩:Step)]).length=o.length+(x[j].tst []).length+1:=by simp;omega
  have key:=ZDT (f:=toS ((o.length+(x[j].tst []).length+1:Nat):Int)) (n:=o.length+(x[j].tst []).length+1) (L:=fun a k=>F.f193 list out i x j a k)
   (fun a k ha=>by
    show F.f193 list out i x j a k=_
    rw[F.f193]
    by_cases hk:k<a.length
    ·rw[iP hk,dif_pos hk,gQ hk]
     simp only[oE,oS]
     rw[ha]
     rfl
    ·rw[iN hk,dif_neg hk]) _ o.length _ hl rfl (by omega)
  rw[iP (by rw[yA];omega),key,yK,xK,xL]
  simp only[oS]
  rw[iP (by omega),P.YA1 w list out i x hx hxl m (j+1) _ (by omega) (by simp;omega),zX hj]
  have el:(o++(x[j].tst []++[(⟨2,[],0,0,0,(i:Int),sortI (fun x=>x.var) (x[j].bnd []),0⟩:Step)]).map (toS ((o.length+(x[j].tst []).length+1:Nat):Int))).length=o.length+(x[j].tst []).length+1:=by simp;omega
  rw[el,Zd,yO]
  simp only[ZKD,yK]
  rfl
def ZOs (e:Int)(s:Step):Step:=if s.op=2 then toS e s else s
theorem ZEi (g:Nat->Int)(e:Int)(i:Nat):∀(qs:List Pattern) (n:Nat),(Zd g i n qs).map (ZOs e)=Zd (fun _=>e) i n qs
 | [],n=>rfl
 |q::r,n=>by
  simp only[Zd,yO,ZEi g e i r,xB,yB,xH]
  congr 2
  refine List.map_congr_left fun s hs=> ?_
  have:=ZPe q [] s hs
  show ZOs e (toS _ s)=toS _ s
  unfold ZOs
  rw[iN (by show ¬s.op=2;omega)]
theorem ZCQ (g:Nat->Int)(i:Nat):∀(qs:List Pattern) (n:Nat),(∀q,q∈qs->q.wt<=900)->(Zd g i n qs).length<=qs.length*1000
 | [],n,_=>by simp[Zd]
 |q::r,n,h=>by
  have h1:=ZCQ g i r (n+(q.tst []).length+1) fun q hq=>h q (yF _ hq)
  have h2:=ZCh q []
  have h3:=h q (yL ..)
  simp only[Zd,yA,yI,yJ,yM]at h1 ⊢
  omega
def clS (i:Nat)(o:List Step)(x:List Pattern):List Step:=o++Zd (fun _=>((o.length+(Zd (fun _=>0) i o.length x).length:Nat):Int)) i o.length x
def ZAv :Nat->List Step->List (List Pattern)->List Step
 |_,o,[]=>o
 |i,o,x::r=>ZAv (i+1) (clS i o x) r
def ZGG (q:Pattern):Prop:=q.wt<=900/\((q.bnd []).map PathBind.var).Nodup
theorem ZIm {L:List Step->Nat->Option (List Step)}(hL:∀o k,L o k=if k<o.length then(o[k]?)>>=fun x=>if x.op=2 then L (o.set k (⟨x.op,x.path,x.ctor,x.n,x.m,x.clause,x.binds,(o.length:Int)⟩:Step)) (k+1)else L o (k+1)else some o)
  (o:List Step) (k:Nat) (hk:k<=o.length):L o k=some (o.take k++(o.drop k).map (ZOs (o.length:Int))):=by
 refine ZDT (f:=ZOs (o.length:Int)) (n:=o.length) (L:=L) (fun a k ha=> ?_) _ k o rfl rfl hk
 rw[hL]
 by_cases h:k<a.length
 ·rw[iP h,dif_pos h,gQ h]
  simp only[oE,oS]
  unfold ZOs
  by_cases h2:a[k].op=2
  ·rw[iP h2,iP h2,ha];rfl
  ·rw[iN h2,iN h2,List.set_getElem_self]
 ·rw[iN h,dif_neg h]
theorem ZLQ (g:Nat->Int)(i:Nat)(o:List Step)(x:List Pattern):(o++Zd g i o.length x).take o.length++((o++Zd g i o.length x).drop o.length).map (ZOs ((o++Zd g i o.length x).length:Int))=clS i o x:=by
 rw[xK,xL,ZEi,yA,ZEh g (fun _=>0)]
 rfl
theorem ZFj {i:Nat}{o:List Step}{x:List Pattern}(h:∀q,q∈x->q.wt<=900):(clS i o x).length<=o.length+x.length*1000:=by
 unfold clS
 rw[yA]
 have:=ZCQ (fun _=>((o.length+(Zd (fun _=>0) i o.length x).length:Nat):Int)) i x o.length h
 omega
theorem P.YAO (vs:List (List Pattern))(b:Bool)(hv:∀x,x∈vs->x.length<=40/\∀q,q∈x->ZGG q)(hl:vs.length<=1000):∀(m i:Nat) (o:List Step),vs.length-i=m->o.length+m*40000<=67000000->F.f168 (vs,b) o i=some (ZAv i o (vs.drop i))
 |0,i,o,hm,hb=>by
  rw[F.f168,iN (by show ¬i<vs.length;omega),zY (by omega)]
  rfl
 |m+1,i,o,hm,hb=>by
  have hi:i<vs.length:=by omega
  obtain⟨h40,hq⟩:=hv _ (gM hi)
  have hw:∀q,q∈vs[i]->q.wt<=900:=fun q h=>(hq q h).1
  have cl:=ZFj (i:=i) (o:=o) hw
  rw[F.f168,iP (show i<vs.length from hi),show(vs,b).1[i]? =some vs[i]from gQ hi]
  simp only[oE,oS]
  rw[P.YAA (vs,b) o i vs[i] hq (by omega) _ 0 o rfl (by omega),zZ]
  simp only[oS]
  rw[ZIm (L:=F.f167 (vs,b) i) (fun o k=>by rw[F.f167]) _ _ (by rw[yA];omega),ZLQ]
  simp only[oS]
  rw[iP (by omega),P.YAO vs b hv hl m (i+1) _ (by omega) (by omega),zX hi]
  rfl
theorem P.Yi (w:List Data)(list:List Clause)(hv:∀c,c∈list->F.f181 c.pat=some c.pat.splits/\c.pat.splits.length<=40/\∀q,q∈c.pat.splits->ZGG q/\∃d t,ZFu w d t q)(hl:list.length<=1000):
  ∀(m i:Nat) (o:List Step),list.length-i=m->o.length+m*40000<=67000000->F.f196 list o i=some (ZAv i o ((list.map fun c=>c.pat.splits).drop i))
 |0,i,o,hm,hb=>by
  rw[F.f196,iN (by omega),zY (by simp;omega)]
  rfl
 |m+1,i,o,hm,hb=>by
  have hi:i<list.length:=by omega
  obtain⟨e,h40,hq⟩:=hv _ (gM hi)
  have hw:∀q,q∈list[i].pat.splits->q.wt<=900:=fun q h=>(hq q h).1.1
  have cl:=ZFj (i:=i) (o:=o) hw
  rw[F.f196,iP hi,gQ hi]
  simp only[oE,oS]
  rw[e]
  simp only[oS]
  rw[P.YA1 w list o i _ (fun q h=>⟨(hq q h).1.1,(hq q h).1.2,(hq q h).2⟩) (by omega) _ 0 o rfl (by omega),zZ]
  simp only[oS]
  rw[ZIm (L:=F.f195 list i) (fun o k=>by rw[F.f195]) _ _ (by rw[yA];omega),ZLQ]
  simp only[oS]
  rw[iP (by omega),P.Yi w list hv hl m (i+1) _ (by omega) (by omega),zX (show i<(list.map fun c=>c.pat.splits).length by simpa using hi),xC]
  rfl
theorem P.Yd (l:List Clause)(hv:∀c,c∈l->c.pat.alts<=40->F.f153 c.pat=some c.pat.splits)(hl:l.length<=1000):
  ∀(m i:Nat) (out:List (List Pattern)),l.length-i=m->out.length=i->F.f155 l out i=some (if ∀c,c∈l.drop i->c.pat.alts<=40 then .go (out++(l.drop i).map fun c=>c.pat.splits)else .ret ([],false))
 |0,i,out,hm,ho=>by
  rw[F.f155,iN (by omega),zY (by omega),iP (by simp)]
  simp
 |m+1,i,out,hm,ho=>by
  have hi:i<l.length:=by omega
  rw[F.f155,iP hi,gQ hi,zX hi]
  simp only[oE,oS]
  rw[P.YAn]
  simp only[oS]
  by_cases h:l[i].pat.alts<=40
  ·rw[iN (by omega),hv _ (gM hi) h]
   simp only[oS]
   rw[iP (by omega),P.Yd l hv hl m (i+1) _ (by omega) (by simp[ho])]
   grind
  ·grind
theorem P.YF (l:List Clause)(hv:∀c,c∈l->F.f181 c.pat=some (c.pat.splits.take 401)):
  ∀(m i:Nat),l.length-i=m->F.f198 l i=some (if ∀c,c∈l.drop i->c.pat.alts<=40 then .go ()else .ret ([],false))
 |0,i,hm=>by rw[F.f198,iN (by omega),zY (by omega),iP (by simp)]
 |m+1,i,hm=>by
  have hi:i<l.length:=by omega
  rw[F.f198,iP hi,gQ hi,zX hi]
  simp only[oE,oS]
  rw[hv _ (gM hi)]
  simp only[oS]
  have hl:(l[i].pat.splits.take 401).length=min 401 l[i].pat.alts:=by rw[yT,ZAE]
  by_cases h:l[i].pat.alts<=40
  ·rw[iN (by omega),P.YF l hv m (i+1) (by omega)]
   grind
  ·grind
theorem ZD1 :∀(vs:List (List Pattern)) (i:Nat) (o:List Step),(∀x,x∈vs->x.length<=40/\∀q,q∈x->q.wt<=900)->(ZAv i o vs).length<=o.length+vs.length*40000
 | [],i,o,_=>by simp[ZAv]
 |x::r,i,o,h=>by
  obtain⟨h1,h2⟩:=h x (yL ..)
  have h3:=ZFj (i:=i) (o:=o) h2
  have h4:=ZD1 r (i+1) (clS i o x) fun y hy=>h y (yF _ hy)
  rw[ZAv,yJ]
  omega
def ZHu :Step:=⟨3,[],0,0,0,0,[],0⟩
theorem P.Yg (w:List Data)(hw:ZAL w)(t:Ty)(l:List Clause)(hp:∀c,c∈l->c.pat.wt<=1048576)(hpat:ZLO w t l->∀c,c∈l->ZAz w t c.pat):∃r b,F.f169 w t l=some (r,b)/\F.f199 w t l=some (r,b)/\
  (b=true->ZLO w t l/\(∀c,c∈l->c.pat.alts<=40)/\r=ZAv 0 [] (l.map fun c=>c.pat.splits)++[ZHu]):=by
 unfold F.f169 F.f199
 rw[P.Yf w hw t l hp,P.YD w hw t l hp]
 simp only[oE,oS]
 by_cases hc:ZLO w t l
 ·have hpc:=hpat hc
  have hl8:l.length<=8:=hc.2.1
  rw[ZG hc,iP rfl,iP rfl]
  have h1:∀c,c∈l->F.f181 c.pat=some (c.pat.splits.take 401):=fun c h=>P.YQ w 10 t c.pat (hpc c h).1 (hp c h)
  unfold F.f156
  rw[P.Yd l (fun c h ha=>P.YAP 10 t c.pat (hpc c h).1 (hp c h) (by omega)) (by omega) _ 0 [] rfl rfl,P.YF l h1 _ 0 rfl,zZ,yN]
  by_cases ha:∀c,c∈l->c.pat.alts<=40
  ·rw[iP ha,iP ha]
   simp only[oE,oS]
   have hq:∀c,c∈l->∀q,q∈c.pat.splits->ZGG q/\∃d u,ZFu w d u q:=fun c h q hq=>by
    obtain⟨s1,s2,s3⟩:=ZBS 10 t c.pat (hpc c h).1 (hpc c h).2.1 q hq
    have:=(hpc c h).2.2
    exact⟨⟨by omega,ZDD (hpc c h).1 (hpc c h).2.1 hq []⟩,10,t,s1⟩
   have hlen:∀c,c∈l->c.pat.splits.length<=40:=fun c h=>by rw[ZAE];exact ha c h
   have hvs:∀x,x∈l.map (fun c=>c.pat.splits)->x.length<=40/\∀q,q∈x->ZGG q:=fun x hx=>by
    grind
   have e1:=P.YAO (l.map fun c=>c.pat.splits) true hvs (by simp;omega) _ 0 [] rfl (by simp;omega)
   have e2:=P.Yi w l (fun c h=>⟨by rw[h1 c h,yD (by have:=hlen c h;omega)],hlen c h,hq c h⟩) (by omega) _ 0 [] rfl (by simp;omega)
   have cl:=ZD1 (l.map fun c=>c.pat.splits) 0 [] fun x hx=>⟨(hvs x hx).1,fun q hq=>((hvs x hx).2 q hq).1⟩
   rw[yI,yM]at cl
   unfold F.f197
   rw[iP True.intro,e1,e2,zZ]
   simp only[oE,oS]
   rw[iP (by omega),iP (by omega)]
   exact⟨_,_,rfl,rfl,fun _=>⟨hc,ha,rfl⟩⟩
  ·rw[iN ha,iN ha]
   simp_all
 ·simp_all
noncomputable def ZJr (n:Nat):ByteArray:=⟨(Lib.decDigits n).toArray⟩
theorem ZGq (n:Nat)(h:n<10):ZDC [IntKind.u8.wrap (i64.wrap (48+(n:Int)))]=⟨#[vR (48+n)]⟩:=by
 have e1:IntKind.u8.wrap (i64.wrap (48+(n:Int)))=48+(n:Int):=by rw[ZNn,ZFw];omega
 have e2:(48+(n:Int)).toNat=48+n:=by omega
 refine ZCc ?_
 simp[ZDC,e1,e2]
theorem ZFd {n:Nat}(h:n<10):ZJr n=⟨#[vR (48+n)]⟩:=by unfold ZJr;rw[Lib.decDigits,dif_pos h]
theorem ZLN {n:Nat}(h:¬n<10):ZJr n=ZJr (n/10)++⟨#[vR (48+n%10)]⟩:=by
 refine ZCc ?_
 rw[ZCd]
 unfold ZJr
 rw[Lib.decDigits,dif_neg h]
theorem ZD0 :∀(f n:Nat),n<10^ (f+1)->(ZJr n).size<=f+1
 |0,n,h=>by rw[ZFd (by omega)];exact zB _
 |f+1,n,h=>by
  by_cases h9:n<10
  ·rw[ZFd h9];show 1<=_;omega
  ·rw[ZLN h9,ZM]
   have:=ZD0 f (n/10) (by rw[zI]at h;omega)
   show _+1<=_
   omega
theorem P.Yx :∀(f n:Nat) (out:ByteArray),n<10^ (f+1)->(n:Int)<=9223372036854775807->out.size+f<=1000->
  ∃(m:Nat) (o2:ByteArray),F.f25 (n:Int) out=some ((m:Int),o2)/\m<10/\⟨#[vR (48+m)]⟩++o2=ZJr n++out/\o2.size<=out.size+f
 |0,n,out,h,h63,hs=>⟨n,out,by rw[F.f25,iN (by omega)],by omega,by rw[ZFd (by omega)],by omega⟩
 |f+1,n,out,h,h63,hs=>by
  by_cases h9:n<10
  ·exact⟨n,out,by rw[F.f25,iN (by omega)],h9,by rw[ZFd h9],by omega⟩
  ·have e1:(n:Int).tmod 10=((n%10:Nat):Int):=by rw[Int.tmod_eq_emod_of_nonneg (by omega)];omega
   have e2:i64.wrap ((n:Int).tdiv 10)=((n/10:Nat):Int):=by
    rw[Int.tdiv_eq_ediv_of_nonneg (by omega),ZD (by omega) (by omega)];omega
   have e3:(⟨#[vR (48+n%10)]⟩:ByteArray).size=1:=rfl
   obtain⟨m,o2,q1,q2,q3,q4⟩:=P.Yx f (n/10) (⟨#[vR (48+n%10)]⟩++out) (by rw[zI]at h;omega) (by omega) (by rw[ZM,e3];omega)
   refine⟨m,o2,?_,q2,?_,by rw[ZM,e3]at q4;omega⟩
   ·rw[F.f25,iP (by omega),e1,ZGq _ (Nat.mod_lt _ (by omega)),e2,iP (by rw[e3];omega)]
    exact q1
   ·rw[q3,ZLN h9,ZAT]
theorem ZGT (n:Nat):ZBF (n:Int)=ZJr n:=by unfold ZBF ZJr Lib.itoa;rw[iN (by omega)];rfl
theorem ZA2 {n:Int}(h:n<0):ZBF n=⟨#[45]⟩++ZJr n.natAbs:=by
 refine ZCc ?_
 rw[ZCd]
 unfold ZBF ZJr Lib.itoa
 rw[iP h]
 rfl
theorem P.Ya (n:Nat)(h63:(n:Int)<=9223372036854775807):F.f26 (n:Int)=some (ZJr n):=by
 have e:(10:Nat)^ (18+1)=10000000000000000000:=by decide
 obtain⟨m,o2,q1,q2,q3,q4⟩:=P.Yx 18 n vL (by omega) h63 (by decide)
 have e0:vL.size=0:=rfl
 have e1:(⟨#[vR (48+m)]⟩:ByteArray).size=1:=rfl
 rw[F.f26,iN (by omega),iN (by omega),q1]
 simp only[oE,oS]
 rw[ZGq m q2,iP (by rw[e1];omega),q3,ZNj]
theorem ZO {n:Int}(h:inR n):(ZBF n).size<=20:=by
 have e:(10:Nat)^ (18+1)=10000000000000000000:=by decide
 have h1:=h.1
 have h2:=h.2
 by_cases hn:n<0
 ·rw[ZA2 hn,ZM]
  have:=ZD0 18 n.natAbs (by omega)
  have e1:(⟨#[45]⟩:ByteArray).size=1:=rfl
  omega
 ·obtain⟨k,rfl⟩:=vE (show 0<=n by omega)
  rw[ZGT]
  have:=ZD0 18 k (by omega)
  omega
theorem ZK3 :ZBF (-9223372036854775808)=⟨#[45,57,50,50,51,51,55,50,48,51,54,56,53,52,55,55,53,56,48,56]⟩:=by
 rw[ZA2 (by decide)]
 refine ZCc ?_
 rw[ZCd]
 have e:(-9223372036854775808).natAbs=9223372036854775808:=by decide
 rw[e]
 unfold ZJr
 simp[Lib.decDigits]
theorem P.Yb {n:Int}(h:inR n):F.f26 n=some (ZBF n):=by
 have h1:=h.1
 have h2:=h.2
 by_cases hm:n< -9223372036854775807
 ·have:n= -9223372036854775808:=by omega
  subst this
  rw[F.f26,iP (by decide),ZK3]
 by_cases hn:n<0
 ·rw[F.f26,iN hm,iP hn]
  have e:i64.wrap (0-n)=((n.natAbs:Nat):Int):=by rw[ZD (by omega) (by omega)];omega
  have hs:=ZO h
  rw[ZA2 hn,ZM]at hs
  rw[e,P.Ya _ (by omega)]
  simp only[oE,oS]
  rw[iP (by omega),ZA2 hn]
 ·obtain⟨k,rfl⟩:=vE (show 0<=n by omega)
  rw[P.Ya k (by omega),ZGT]
theorem P.YC {n:Int}(h:inR n):F.f208 n=some (ZBF n):=by
 have h1:=h.1
 unfold F.f208
 by_cases hn:n<0
 ·rw[iP hn]
  by_cases hm: -1000000<n
  ·have e:i64.wrap (0-n)=((n.natAbs:Nat):Int):=by rw[ZD (by omega) (by omega)];omega
   have hs:=ZO h
   rw[ZA2 hn,ZM]at hs
   rw[iP hm,e,P.Ya _ (by omega)]
   simp only[oE,oS]
   rw[iP (by omega),ZA2 hn]
  ·rw[iN hm,P.Yb h];rfl
 ·rw[iN hn,P.Yb h];rfl
theorem P.YE {n:Int}(h:inR n):F.f200 n=some (ZBF n):=by unfold F.f200;exact iP h
theorem ZAc (a b:ByteArray):Za (a++b)=Za a++Za b:=by unfold Za;rw[ZCd,yO]
theorem ZGv :Za vL=[]:=rfl
theorem ZAO (a:ByteArray):(Za a).length=a.size:=by unfold Za;rw[yI,ZFn]
theorem ZKp (a:ByteArray):okB (Za a):=by
 intro x hx
 obtain⟨b,_,rfl⟩:=yE.1 hx
 have:=b.toNat_lt
 omega
theorem ZI6 (a:ByteArray):ZDC (Za a)=a:=by
 have key:∀(l:List UInt8) (r:ByteArray),((l.map fun b=>(b.toNat:Int)).foldl (fun r n=>r.push (vR n.toNat)) r).data.toList=r.data.toList++l:=by
  intro l
  induction l with
  |nil=>intro r;simp
  |cons b l ih=>simp_all
 refine ZCc ?_
 unfold ZDC Za
 rw[key]
 rfl
noncomputable def ZLq :List ByteArray->ByteArray
 | []=>vL
 |x::r=>x++ZLq r
theorem ZA6 :∀xs:List ByteArray,(ZLq xs).size=(xs.map vM).sum
 | []=>rfl
 |x::r=>by rw[ZLq,ZM,ZA6 r];rfl
theorem ZFk {α β:Type}{a:List α}{g:α->ByteArray}{c:ByteArray->β}{L:β->Nat->Option β}{M:Nat}(h0:∀o k,¬k<a.length->L (c o) k=some (c o))
  (h1:∀o k (h:k<a.length),o.size+(g a[k]).size<=M->L (c o) k=L (c (o++g a[k])) (k+1)):
  ∀n k o,a.length-k=n->o.size+((a.drop k).map fun x=>(g x).size).sum<=M->L (c o) k=some (c (o++ZLq ((a.drop k).map g)))
 |0,k,o,hn,hs=>by
  have e:a.drop k=[]:=zY (by omega)
  rw[h0 o k (by omega),e,xH,ZLq,ZNj]
 |n+1,k,o,hn,hs=>by
  have hk:k<a.length:=by omega
  have e:a.drop k=a[k]::a.drop (k+1):=zX hk
  rw[e]at hs ⊢
  simp only[yB,yW]at hs
  rw[h1 o k hk (by omega),ZFk h0 h1 n (k+1) _ (by omega) (by rw[ZM];omega),yB,ZLq,ZAT]
theorem ZDY {α:Type}{a:List α}{g:α->ByteArray}{L:ByteArray->Nat->Option ByteArray}{M:Nat}(h0:∀o k,¬k<a.length->L o k=some o)
  (h1:∀o k (h:k<a.length),o.size+(g a[k]).size<=M->L o k=L (o++g a[k]) (k+1)) (o:ByteArray) (hs:o.size+(a.map fun x=>(g x).size).sum<=M):L o 0=some (o++ZLq (a.map g)):=by
 have:=ZFk (c:=id) (L:=L) h0 h1 a.length 0 o rfl (by rw[zZ];exact hs)
 grind
theorem ZNt {α:Type}{f g:α->Nat}{xs:List α}(h:∀x,x∈xs->f x<=g x):(xs.map f).sum<=(xs.map g).sum:=by
 induction xs with
 |nil=>simp
 |cons x r ih=>grind
theorem ZKE {α:Type}(k m:Nat)(f:α->Nat)(xs:List α):(xs.map fun x=>k+m*f x).sum=k*xs.length+m*(xs.map f).sum:=by
 induction xs with
 |nil=>simp
 |cons x r ih=>simp only[yB,yW,yJ,ih,zP,zW];omega
theorem z1a :(⟨#[46]⟩:ByteArray).size=1:=rfl
theorem z1b :(⟨#[118]⟩:ByteArray).size=1:=rfl
theorem z1c :(⟨#[32]⟩:ByteArray).size=1:=rfl
theorem z1d :(⟨#[61]⟩:ByteArray).size=1:=rfl
theorem z1e :(⟨#[45]⟩:ByteArray).size=1:=rfl
theorem z1f :(⟨#[10]⟩:ByteArray).size=1:=rfl
theorem z1g :(⟨#[35]⟩:ByteArray).size=1:=rfl
theorem z2a :(⟨#[32,35]⟩:ByteArray).size=2:=rfl
theorem z5a :(⟨#[116,101,115,116,32]⟩:ByteArray).size=5:=rfl
theorem z5b :(⟨#[116,97,107,101,32]⟩:ByteArray).size=5:=rfl
theorem z5c :(⟨#[102,97,105,108,10]⟩:ByteArray).size=5:=rfl
theorem z4a :(⟨#[102,97,105,108]⟩:ByteArray).size=4:=rfl
noncomputable def ZMx (x:Int):ByteArray:=⟨#[46]⟩++ZBF x
theorem ZLM {x:Int}(h:inR x):(ZMx x).size<=21:=by
 have:=ZO h
 unfold ZMx;rw[ZM,z1a];omega
noncomputable def ZJO (p:List Int):ByteArray:=⟨#[118]⟩++ZLq (p.map ZMx)
theorem ZDy {p:List Int}(h:∀x,x∈p->inR x):(p.map fun x=>(ZMx x).size).sum<=21*p.length:=by
 have h1:=ZNt (f:=fun x=>(ZMx x).size) (g:=fun _=>21+0*0) (xs:=p) fun x hx=>by have:=ZLM (h x hx);omega
 have h2:=ZKE 21 0 (fun _=>0) p
 omega
theorem ZBh {p:List Int}(h:∀x,x∈p->inR x):(ZJO p).size<=1+21*p.length:=by
 have:=ZDy h
 unfold ZJO
 rw[ZM,z1b,ZA6,xB]
 exact Nat.add_le_add_left this 1
theorem P.YX {p:List Int}(h:∀x,x∈p->inR x)(hl:p.length<=10000000):F.f207 p=some (ZJO p):=by
 have hd:=ZDy h
 unfold F.f207
 rw[ZDY (a:=p) (g:=ZMx) (M:=1000000000) (L:=F.f206 p) (fun o k hk=>by rw[F.f206,iN hk]) (fun o k hk hs=>by
  have hx:=ZO (h _ (gM hk))
  unfold ZMx at hs ⊢
  rw[ZM,z1a]at hs
  rw[F.f206,iP hk,gQ hk]
  simp only[oE,oS,P.Yb (h _ (gM hk))]
  rw[iP (by rw[z1a];omega),iP (by rw[ZM,z1a];omega),ZAT]) _ (by rw[z1b];omega)]
 rfl
theorem P.Yc {p:List Int}(h:∀x,x∈p->inR x)(hl:p.length<=10000000):F.f202 p=some (ZJO p):=by
 have hd:=ZDy h
 unfold F.f202
 rw[ZDY (a:=p) (g:=ZMx) (M:=1000000000) (L:=F.f201 p) (fun o k hk=>by rw[F.f201,iN hk]) (fun o k hk hs=>by
  have hx:=ZO (h _ (gM hk))
  unfold ZMx at hs ⊢
  rw[ZM,z1a]at hs
  rw[F.f201,iP hk,gQ hk]
  simp only[oE,oS,P.YE (h _ (gM hk))]
  rw[iP (by rw[z1a];omega),iP (by rw[ZM,z1a];omega)]) _ (by rw[z1b];omega)]
 rfl
noncomputable def ZC0 (b:PathBind):ByteArray:=⟨#[32]⟩++ZBF b.var++⟨#[61]⟩++ZJO b.path
theorem ZJv {b:PathBind}(h:b.Ok):(ZC0 b).size<=23+21*b.wt:=by
 have:=ZO h.var
 have:=ZBh h.path.2
 have e:b.wt=b.path.length:=ZBC b.path
 unfold ZC0
 simp only[ZM,z1c,z1d]
 omega
noncomputable def ZCa (bs:List PathBind):ByteArray:=ZLq (bs.map ZC0)
theorem ZA8 {bs:List PathBind}(h:∀b,b∈bs->b.Ok):(bs.map fun b=>(ZC0 b).size).sum<=23*wtL PathBind.wt bs:=by
 have h1:=ZNt (f:=fun b=>(ZC0 b).size) (g:=fun b=>23+21*b.wt) (xs:=bs) fun b hb=>ZJv (h b hb)
 have h2:=ZKE 23 21 PathBind.wt bs
 rw[ZC9,zP]
 omega
noncomputable def ZI7 (x:Step):ByteArray:=
 if x.op=1 then⟨#[116,101,115,116,32]⟩++ZJO x.path++(if x.ctor= -1 then⟨#[32]⟩++ZBF x.n++⟨#[45]⟩++ZBF x.m else⟨#[32,35]⟩++ZBF x.ctor)++⟨#[32]⟩++ZBF x.to
 else if x.op=2 then⟨#[116,97,107,101,32]⟩++ZBF x.clause++ZCa x.binds++⟨#[32]⟩++ZBF x.to
 else⟨#[102,97,105,108]⟩
theorem ZEY {x:Step}(h:x.Ok):(ZI7 x).size<=70+23*x.wt:=by
 have a1:=ZO h.ctor;have a2:=ZO h.n;have a3:=ZO h.m;have a4:=ZO h.to;have a5:=ZO h.clause
 have a6:=ZBh h.path.2
 have a7:=ZA8 h.binds.2
 have e1:x.wt=x.path.length+wtL PathBind.wt x.binds:=by unfold Step.wt;rw[ZBC]
 have e2:(ZCa x.binds).size=(x.binds.map fun b=>(ZC0 b).size).sum:=by unfold ZCa;rw[ZA6,xB];rfl
 unfold ZI7
 split
 ·split
  ·simp only[ZM,z5a,z1c,z1e];omega
  ·simp only[ZM,z5a,z1c,z2a];omega
 ·split
  ·simp only[ZM,z5b,z1c,e2];omega
  ·rw[z4a];omega
theorem P.YAc {x:Step}(h:∀b,b∈x.binds->b.Ok)(hw:wtL PathBind.wt x.binds<=10000000)(o:ByteArray)(ho:o.size<=1000):F.f209 x o 0=some (o++ZCa x.binds):=by
 have hd:=ZA8 h
 exact ZDY (a:=x.binds) (g:=ZC0) (M:=1000000000) (L:=F.f209 x) (fun o k hk=>by rw[F.f209,iN hk]) (fun o k hk hs=>by
  have hb:=h _ (gM hk)
  have hx:=ZO hb.var
  have hm:=Zt PathBind.wt (gM hk)
  have e:x.binds[k].wt=x.binds[k].path.length:=ZBC x.binds[k].path
  unfold ZC0 at hs ⊢
  simp only[ZM,z1c,z1d]at hs
  rw[F.f209,iP hk,gQ hk]
  simp only[oE,oS,P.YC hb.var,P.YX hb.path.2 (by omega)]
  rw[iP (by rw[z1c];omega),iP (by rw[ZM,z1c];omega),iP (by simp only[ZM,z1c,z1d];omega),iP (by simp only[ZM,z1c,z1d];omega)]
  simp only[ZAT]) o (by omega)
theorem P.YAf {x:Step}{l:List Step}{i:Nat}(h:∀b,b∈x.binds->b.Ok)(hw:wtL PathBind.wt x.binds<=10000000)(o:ByteArray)(ho:o.size+(x.binds.map fun b=>(ZC0 b).size).sum<=1000000000):F.f203 l i x (Za o) 0=some (Za (o++ZCa x.binds)):=by
 have hd:=ZA8 h
 have:=ZFk (c:=Za) (a:=x.binds) (g:=ZC0) (M:=1000000000) (L:=F.f203 l i x) (fun o k hk=>by rw[F.f203,iN hk]) (fun o k hk hs=>by
  have hb:=h _ (gM hk)
  have hx:=ZO hb.var
  have hm:=Zt PathBind.wt (gM hk)
  have e:x.binds[k].wt=x.binds[k].path.length:=ZBC x.binds[k].path
  unfold ZC0 at hs ⊢
  simp only[ZM,z1c,z1d]at hs
  rw[F.f203,iP hk,gQ hk]
  simp only[oE,oS,P.YE hb.var,P.Yc hb.path.2 (by omega)]
  rw[iP (by rw[z1c];omega),iP (by rw[ZM,z1c,z1d];omega),iP (by simp only[ZM,z1c,z1d];omega),iP (by simp only[ZM,z1c,z1d,ZAO];omega),←ZAc]) x.binds.length 0 o rfl (by rw[zZ];omega)
 rw[zZ]at this
 exact this
theorem P.YAg {x:Step}(h:x.Ok)(hw:x.wt<=10000000):F.f210 x=some (ZI7 x):=by
 have a1:=ZO h.ctor;have a2:=ZO h.n;have a3:=ZO h.m;have a4:=ZO h.to;have a5:=ZO h.clause
 have a6:=ZBh h.path.2
 have a7:=ZA8 h.binds.2
 have e1:x.wt=x.path.length+wtL PathBind.wt x.binds:=by unfold Step.wt;rw[ZBC]
 have e2:(ZCa x.binds).size=(x.binds.map fun b=>(ZC0 b).size).sum:=by unfold ZCa;rw[ZA6,xB];rfl
 unfold F.f210 ZI7
 by_cases h1:x.op=1
 ·rw[iP h1,iP h1]
  by_cases hc:x.ctor= -1
  ·rw[iP hc,iP hc]
   simp only[oE,oS,P.YC h.n,P.YC h.m,P.YC h.to,P.YX h.path.2 (by omega)]
   rw[iP (by simp only[ZM,z5a];omega),iP (by simp only[ZM,z5a,z1c];omega),iP (by simp only[ZM,z5a,z1c];omega),iP (by simp only[ZM,z5a,z1c,z1e];omega),iP (by simp only[ZM,z5a,z1c,z1e];omega),
    iP (by simp only[ZM,z5a,z1c,z1e];omega),iP (by simp only[ZM,z5a,z1c,z1e];omega)]
   simp only[ZAT]
  ·rw[iN hc,iN hc]
   simp only[oE,oS,P.YC h.ctor,P.YC h.to,P.YX h.path.2 (by omega)]
   rw[iP (by simp only[ZM,z5a];omega),iP (by simp only[ZM,z5a,z2a];omega),iP (by simp only[ZM,z5a,z2a];omega),iP (by simp only[ZM,z5a,z1c,z2a];omega),iP (by simp only[ZM,z5a,z1c,z2a];omega)]
   simp only[ZAT]
 ·rw[iN h1,iN h1]
  by_cases h2:x.op=2
  ·rw[iP h2,iP h2]
   simp only[oE,oS,P.YC h.clause,P.YC h.to]
   rw[iP (by simp only[z5b];omega),P.YAc h.binds.2 (by omega) _ (by simp only[ZM,z5b];omega)]
   simp only[oS]
   rw[iP (by simp only[ZM,z5b,z1c,e2];omega),iP (by simp only[ZM,z5b,z1c,e2];omega)]
  ·rw[iN h2,iN h2]
noncomputable def ZFU (x:Step):ByteArray:=ZI7 x++⟨#[10]⟩
noncomputable def ZNV (l:List Step):ByteArray:=ZLq (l.map ZFU)
theorem ZGQ {l:List Step}(h:∀x,x∈l->x.Ok):(l.map fun x=>(ZFU x).size).sum<=71*wtL Step.wt l:=by
 have h1:=ZNt (f:=fun x=>(ZFU x).size) (g:=fun x=>71+23*x.wt) (xs:=l) fun x hx=>by
  have:=ZEY (h x hx)
  unfold ZFU;rw[ZM,z1f];omega
 have h2:=ZKE 71 23 Step.wt l
 rw[ZC9,zP]
 omega
theorem P.YAZ {l:List Step}(h:∀x,x∈l->x.Ok)(hw:wtL Step.wt l<=10000000):F.f212 l=some (ZNV l):=by
 have hd:=ZGQ h
 unfold F.f212
 rw[ZDY (a:=l) (g:=ZFU) (M:=1000000000) (L:=F.f211 l) (fun o k hk=>by rw[F.f211,iN hk]) (fun o k hk hs=>by
  have hb:=h _ (gM hk)
  have hm:=Zt Step.wt (gM hk)
  unfold ZFU at hs ⊢
  simp only[ZM,z1f]at hs
  rw[F.f211,iP hk,gQ hk]
  simp only[oE,oS,P.YAg hb (by omega)]
  rw[iP (by omega),iP (by simp only[ZM,z1f];omega),ZAT]) _ (by show 0+_<=_;omega),ZNc]
 rfl
theorem P.Ym {l:List Step}(h:∀x,x∈l->x.Ok)(hw:wtL Step.wt l<=10000000):F.f205 l=some (ZNV l):=by
 have hd:=ZGQ h
 have hll:=ZBB Step.wt l
 unfold F.f205
 have key:=ZFk (c:=Za) (a:=l) (g:=ZFU) (M:=800000000) (L:=F.f204 l) (fun o k hk=>by rw[F.f204,iN hk]) (fun o k hk hs=>by
  have h':=h _ (gM hk)
  have hm:=Zt Step.wt (gM hk)
  have hz:=ZEY h'
  have e1:(l[k]).wt=(l[k]).path.length+wtL PathBind.wt (l[k]).binds:=by unfold Step.wt;rw[ZBC]
  have e2:(ZCa (l[k]).binds).size=((l[k]).binds.map fun b=>(ZC0 b).size).sum:=by unfold ZCa;rw[ZA6,xB];rfl
  have a1:=ZO h'.ctor;have a2:=ZO h'.n;have a3:=ZO h'.m;have a4:=ZO h'.to;have a5:=ZO h'.clause
  have a6:=ZBh h'.path.2
  have a7:=ZA8 h'.binds.2
  unfold ZFU at hs ⊢
  simp only[ZM,z1f]at hs
  rw[F.f204,iP hk,gQ hk]
  simp only[oE,oS]
  unfold ZI7 at hs ⊢
  by_cases h1:l[k].op=1
  ·rw[iP h1]at hs ⊢
   rw[iP h1]
   simp only[P.YE h'.ctor,oS]
   rw[iP (by rw[z1g];omega)]
   by_cases hc:l[k].ctor= -1
   ·rw[iP hc]at hs ⊢
    rw[iP hc]
    simp only[ZM,z5a,z1c,z1e]at hs
    simp only[oS,P.YE h'.n,P.YE h'.m,P.YE h'.to,P.Yc h'.path.2 (by omega)]
    rw[iP (by simp only[z1e];omega),iP (by simp only[ZM,z1e];omega),iP (by simp only[z5a];omega),iP (by simp only[ZM,z5a,z1c];omega),iP (by simp only[ZM,z5a,z1c,z1e];omega),iP (by simp only[ZM,z5a,z1c,z1e];omega),
     iP (by simp only[ZM,z5a,z1c,z1e];omega),iP (by simp only[ZM,z5a,z1c,z1e,z1f];omega),iP (by simp only[ZM,z5a,z1c,z1e,z1f,ZAO];omega),←ZAc]
    simp only[ZAT]
   ·rw[iN hc]at hs ⊢
    rw[iN hc]
    simp only[ZM,z5a,z1c,z2a]at hs
    simp only[oS,P.YE h'.to,P.Yc h'.path.2 (by omega)]
    rw[iP (by simp only[z5a];omega),iP (by simp only[ZM,z5a,z1c];omega),iP (by simp only[ZM,z5a,z1c,z1g];omega),iP (by simp only[ZM,z5a,z1c,z1g];omega),iP (by simp only[ZM,z5a,z1c,z1g];omega),
     iP (by simp only[ZM,z5a,z1c,z1g,z1f];omega),iP (by simp only[ZM,z5a,z1c,z1g,z1f,ZAO];omega),←ZAc]
    have e3:(⟨#[32,35]⟩:ByteArray)=⟨#[32]⟩++⟨#[35]⟩:=ZCc (by rw[ZCd];rfl)
    rw[e3]
    simp only[ZAT]
  ·rw[iN h1]at hs ⊢
   rw[iN h1]
   by_cases h2:l[k].op=2
   ·rw[iP h2]at hs ⊢
    rw[iP h2]
    simp only[ZM,z5b,z1c]at hs
    simp only[P.YE h'.clause,P.YE h'.to,oS]
    rw[iP (by simp only[z5b];omega),iP (by simp only[ZM,z5b,ZAO];omega),←ZAc,P.YAf h'.binds.2 (by omega) _ (by simp only[ZM,z5b];omega)]
    simp only[oS]
    rw[iP (by simp only[z1c];omega),iP (by simp only[ZM,z1c,z1f];omega),iP (by simp only[ZM,z5b,z1c,z1f,ZAO];omega),iP (by omega),←ZAc]
    simp only[ZAT]
   ·rw[iN h2]at hs ⊢
    rw[iN h2]
    rw[z4a]at hs
    rw[iP (by rw[z5c,ZAO];omega),←ZAc]
    rfl) l.length 0 vL rfl (by rw[zZ];show 0+_<=_;omega)
 rw[ZGv]at key
 rw[key]
 simp only[oE,oS,zZ,ZNc]
 rw[iP ⟨ZKp _,by
  rw[ZAO,ZA6,xB]
  show(l.map fun x=>(ZFU x).size).sum<=_
  omega⟩,ZI6]
 rfl
theorem ZFW {β:Type}(op:Int)(g:Pattern->List Int->List β)(path:List Int):∀(l:List Pattern) (i:Nat) (s:β),s∈ZAC op path i (l.map g)->∃(j:Nat) (h:j<l.length),s∈g l[j] (if op=4 then path++[((i+j:Nat):Int)]else path)
 | [],i,s,hs=>by simp[ZAC]at hs
 |k::r,i,s,hs=>by
  rw[yB,ZAC,yC]at hs
  rcases hs with hs|hs
  ·grind
  ·obtain⟨j,h,hj⟩:=ZFW op g path r (i+1) s hs
   exact⟨j+1,by simpa using h,by rw[show i+(j+1)=i+1+j by omega];simpa using hj⟩
def ZGE (p:List Int):Prop:=∀x,x∈p->0<=x/\x<=1048576
theorem ZEg {p:List Int}(h:ZGE p){j:Nat}(hj:j<=1048576):ZGE (p++[(j:Int)]):=by
 intro x hx
 rcases yC.1 hx with hx|hx
 ·exact h x hx
 ·grind
theorem ZIX {p:List Int}(h:ZGE p)(hl:p.length<=1048576):okL inR p:=⟨zG hl (by decide),fun x hx=>by have:=h x hx;exact⟨by omega,by omega⟩⟩
theorem ZRH {n:Int}(h: -9223372036854775808<=n)(h':n<=9223372036854775807):inR n:=⟨h,h'⟩
theorem ZK9 :inR 0:=⟨by decide,by decide⟩
theorem ZSZ :inR 1:=⟨by decide,by decide⟩
theorem ZSY :inR 2:=⟨by decide,by decide⟩
theorem ZSX :inR 3:=⟨by decide,by decide⟩
theorem ZSW :inR (-1):=⟨by decide,by decide⟩
theorem okN {α:Type}{Q:α->Prop}:okL Q []:=⟨zC _,fun x hx=>by cases hx⟩
theorem ZNi {w:List Data}:∀(d:Nat) (t:Ty) (p:Pattern),ZFu w d t p->∀path b,ZGE path->p.wt<=1048576->b∈p.bnd path->ZGE b.path
 |0,_,_,h,_,_,_,_,_=>h.elim
 |d+1,t,p,⟨h1,h5,hl,hk⟩,path,b,hp,hw,hb=>by
  rw[ZD8,yC]at hb
  rcases hb with hb|hb
  ·grind
  ·obtain⟨j,hj,hb⟩:=ZFW p.op Pattern.bnd path p.kids 0 b hb
   have hm:=Zt Pattern.wt (gM hj)
   have hlen:=ZBB Pattern.wt p.kids
   rw[p.wt_eq]at hw
   refine ZNi d _ _ (hk j (by omega) hj) _ b ?_ (by omega) hb
   split
   ·exact ZEg hp (by omega)
   ·exact hp
theorem ZNR {w:List Data}(hwo:ZN w):∀(d:Nat) (t:Ty) (p:Pattern),ZX w t->ZFu w d t p->∀path s,ZGE path->p.wt<=1048576->s∈p.tst path->
  s.op=1/\s.binds=[]/\s.clause=0/\ZGE s.path/\s.path.length<=path.length+p.wt/\inR s.ctor/\inR s.n/\inR s.m
 |0,_,_,_,h,_,_,_,_,_=>h.elim
 |d+1,t,p,ht,⟨h1,h5,hl,hk⟩,path,s,hp,hw,hs=>by
  have hw':=hw
  rw[p.wt_eq]at hw'
  have hlen:=ZBB Pattern.wt p.kids
  rw[ZFx,yC]at hs
  rcases hs with hs|hs
  ·split at hs
   ·next h3=>
    rw[yP.1 hs]
    have hn:0<=p.n/\p.n<=p.m/\p.m<=9:=by unfold ZAw at h1;omega
    exact⟨rfl,rfl,rfl,hp,zS _ _,ZSW,ZRH (n:=p.n) (by omega) (by omega),ZRH (n:=p.m) (by omega) (by omega)⟩
   ·split at hs
    ·next h3 h4=>
     rw[yP.1 hs]
     have hc:p.ctor∈ZS w t:=by
      rcases h1 with h|h|h|h|h|h
      all_goals grind
     obtain⟨c0,c1,c2⟩:=ZW hc
     have hcs:=(Zl hwo (ZBR ht.1) c0).1
     exact⟨rfl,rfl,rfl,hp,zS _ _,ZRH (n:=p.ctor) (by omega) (by omega),ZK9,ZK9⟩
    ·cases hs
  ·obtain⟨j,hj,hs⟩:=ZFW p.op Pattern.tst path p.kids 0 s hs
   have hm:=Zt Pattern.wt (gM hj)
   have hq:ZGE (if p.op=4 then path++[((0+j:Nat):Int)]else path):=by
    split
    ·exact ZEg hp (by omega)
    ·exact hp
   have hql:(if p.op=4 then path++[((0+j:Nat):Int)]else path).length<=path.length+1:=by split<;>simp
   have hj':j<(ZF w t p).length:=by omega
   obtain⟨a1,a2,a3,a4,a5,a6⟩:=ZNR hwo d _ _ (ZAb hwo ht h1 _ (gM hj')) (hk j hj' hj) _ s hq (by omega) hs
   exact⟨a1,a2,a3,a4,by rw[p.wt_eq];omega,a6⟩
theorem ZAx {α:Type}(f:α->Nat)(a b:List α):wtL f (a++b)=wtL f a+wtL f b:=by
 simp only[ZC9,yA,yO,List.sum_append_nat]
 omega
theorem ZE9 {α:Type}{f:α->Nat}{k:Nat}:∀{l:List α},(∀x,x∈l->f x<=k)->wtL f l<=l.length*(1+k)
 | [],_=>by simp
 |x::r,h=>by
  have h1:=h x (yL ..)
  have h2:=ZE9 (l:=r) fun y hy=>h y (yF _ hy)
  rw[ZAR,yJ,zF]
  omega
def ZOF (w:List Data)(q:Pattern):Prop:=q.wt<=60/\∃d t,ZX w t/\ZFu w d t q
theorem ZLy {w:List Data}{q:Pattern}(h:ZOF w q){i:Nat}(hi:i<=1000){e:Int}(he:inR e):(ZKD i q e).Ok/\(ZKD i q e).wt<=61*61:=by
 obtain⟨hw,d,t,ht,hs⟩:=h
 have hb:∀b,b∈q.bnd []->b.Ok/\b.wt<=60:=fun b hb=>by
  have h1:=ZH5 d t q hs [] b hb
  have h2:=ZNi d t q hs [] b (fun x hx=>by cases hx) (by omega) hb
  have h3:=ZIp q [] b hb
  simp only[yM]at h3
  have e:b.wt=b.path.length:=ZBC b.path
  exact⟨⟨⟨by omega,by omega⟩,ZIX h2 (by omega)⟩,by omega⟩
 have hl:=ZD7 q []
 have hl2:(sortI (fun x:PathBind=>x.var) (q.bnd [])).length=(q.bnd []).length:=ZDe _
 have hm:∀b,b∈sortI (fun x:PathBind=>x.var) (q.bnd [])->b∈q.bnd []:=fun b hb=>ZDd.1 hb
 refine⟨⟨ZSY,okN,ZK9,ZK9,ZK9,ZRH (n:=(i:Int)) (by omega) (by omega),⟨?_,fun b h=>(hb b (hm b h)).1⟩,he⟩,?_⟩
 ·show(sortI (fun x:PathBind=>x.var) (q.bnd [])).length<=_
  rw[hl2];exact zG hl (zG (show 1+q.wt<=61 by omega) (by decide))
 ·have:=ZE9 (f:=PathBind.wt) (k:=60) (l:=sortI (fun x:PathBind=>x.var) (q.bnd [])) fun b h=>(hb b (hm b h)).2
  show wtL (fun _=>0) ([]:List Int)+wtL PathBind.wt (sortI (fun x:PathBind=>x.var) (q.bnd []))<=_
  rw[hl2]at this
  have h9:(q.bnd []).length*(1+60)<=61*61:=zL (by omega) (zB _)
  simp only[ZDZ]
  omega
theorem ZGF {w:List Data}(hwo:ZN w)(g:Nat->Int)(hg:∀m,inR (g m))(i:Nat)(hi:i<=1000):∀(qs:List Pattern) (n:Nat),(∀q,q∈qs->ZOF w q)->n+(Zd g i n qs).length<=1000000000->
  (∀s,s∈Zd g i n qs->s.Ok)/\wtL Step.wt (Zd g i n qs)<=qs.length*8000
 | [],n,_,_=>⟨fun s hs=>(by cases hs),by simp[Zd]⟩
 |q::r,n,h,hn=>by
  have hq:=h q (yL ..)
  obtain⟨hw,d,t,ht,hs⟩:=hq
  have hl:=ZCh q []
  have hlen:(Zd g i n (q::r)).length=(q.tst []).length+1+(Zd g i (n+(q.tst []).length+1) r).length:=by simp[Zd];omega
  obtain⟨r1,r2⟩:=ZGF hwo g hg i hi r (n+(q.tst []).length+1) (fun q hq=>h q (yF _ hq)) (by omega)
  obtain⟨k1,k2⟩:=ZLy (h q (yL ..)) hi (hg (n+(q.tst []).length+1))
  have hto:inR ((n+(q.tst []).length+1:Nat):Int):=⟨by omega,by omega⟩
  have hts:∀s,s∈(q.tst []).map (toS ((n+(q.tst []).length+1:Nat):Int))->s.Ok/\s.wt<=60:=fun s hs'=>by
   obtain⟨s0,h0,rfl⟩:=yE.1 hs'
   obtain⟨a1,a2,a3,a4,a5,a6,a7,a8⟩:=ZNR hwo d t q ht hs [] s0 (fun x hx=>by cases hx) (zG hw (by decide)) h0
   simp only[yM]at a5
   refine⟨⟨?_,ZIX a4 (show s0.path.length<=1048576 by omega),a6,a7,a8,?_,?_,hto⟩,?_⟩
   ·show inR s0.op;rw[a1];exact ZSZ
   ·show inR s0.clause;rw[a3];exact ZK9
   ·show okL PathBind.Ok s0.binds;rw[a2];exact okN
   ·show wtL (fun _=>0) s0.path+wtL PathBind.wt s0.binds<=60
    rw[a2,ZBC,ZDZ];exact zG a5 (by omega)
  refine⟨fun s hs'=> ?_,?_⟩
  ·rw[Zd,yC,yC]at hs'
   grind
  ·have u:=ZE9 (f:=Step.wt) (k:=60) fun s hs'=>(hts s hs').2
   rw[yI]at u
   have h9:(q.tst []).length*(1+60)<=61*61:=zL (by omega) (zB _)
   rw[Zd,ZAx,ZAx,ZAR,ZDZ,yJ,zF]
   omega
theorem ZIn {w:List Data}(hwo:ZN w):∀(vs:List (List Pattern)) (i:Nat) (o:List Step),(∀x,x∈vs->x.length<=40/\∀q,q∈x->ZOF w q)->i+vs.length<=1000->o.length+vs.length*40000<=500000000->(∀s,s∈o->s.Ok)->
  (∀s,s∈ZAv i o vs->s.Ok)/\wtL Step.wt (ZAv i o vs)<=wtL Step.wt o+vs.length*320000
 | [],i,o,_,_,_,ho=>⟨ho,by simp[ZAv]⟩
 |x::r,i,o,h,hi,hb,ho=>by
  obtain⟨h1,h2⟩:=h x (yL ..)
  rw[yJ]at hi hb
  have h900:∀q,q∈x->q.wt<=900:=fun q hq=>by have:=(h2 q hq).1;omega
  have hcl:=ZFj (i:=i) (o:=o) h900
  have hpl:=ZCQ (fun _=>0) i x o.length h900
  have hpl2:=ZCQ (fun _=>((o.length+(Zd (fun _=>0) i o.length x).length:Nat):Int)) i x o.length h900
  obtain⟨p1,p2⟩:=ZGF hwo (fun _=>((o.length+(Zd (fun _=>0) i o.length x).length:Nat):Int)) (fun m=>⟨by show _<=((_:Nat):Int);omega,by show((_:Nat):Int)<=_;omega⟩) i (by omega) x o.length h2 (by omega)
  have ho2:∀s,s∈clS i o x->s.Ok:=fun s hs=>by
   rw[clS,yC]at hs
   grind
  obtain⟨q1,q2⟩:=ZIn hwo r (i+1) (clS i o x) (fun y hy=>h y (yF _ hy)) (by omega) (by omega) ho2
  refine⟨q1,?_⟩
  have hw:wtL Step.wt (clS i o x)<=wtL Step.wt o+320000:=by
   rw[clS,ZAx]
   grind
  rw[ZAv,yJ,zF]
  omega
theorem ZMn :ZHu.Ok:=⟨ZSX,okN,ZK9,ZK9,ZK9,ZK9,okN,ZK9⟩
theorem ZLP {w:List Data}{t:Ty}{l:List Clause}(hc:ZLO w t l)(hpat:∀c,c∈l->ZAz w t c.pat)(ha:∀c,c∈l->c.pat.alts<=40):
  (∀s,s∈ZAv 0 [] (l.map fun c=>c.pat.splits)++[ZHu]->s.Ok)/\wtL Step.wt (ZAv 0 [] (l.map fun c=>c.pat.splits)++[ZHu])<=10000000:=by
 have hl8:=hc.2.1
 obtain⟨h1,h2⟩:=ZIn hc.1.1 (l.map fun c=>c.pat.splits) 0 [] (fun x hx=>by
  obtain⟨c,h,rfl⟩:=yE.1 hx
  have hpo:=hpat c h
  refine⟨by rw[ZAE];exact ha c h,fun q hq=> ?_⟩
  obtain⟨s1,_,s3⟩:=ZBS 10 t c.pat hpo.1 hpo.2.1 q hq
  have:=hpo.2.2
  exact⟨by omega,10,t,hc.1.2,s1⟩) (by rw[yI];omega) (by rw[yI,yM];omega) (fun s hs=>by cases hs)
 rw[yI,ZDZ]at h2
 refine⟨fun s hs=> ?_,?_⟩
 ·rcases yC.1 hs with hs|hs
  ·exact h1 s hs
  ·rw[yP.1 hs];exact ZMn
 ·have e:ZHu.wt=0:=by simp[ZHu,Step.wt]
  rw[ZAx,ZAR,ZDZ,e]
  omega
theorem P.YAD (w:List Data)(hw:ZAL w)(t:Ty)(l:List Clause)(hp:∀c,c∈l->c.pat.wt<=1048576)(hpat:ZLO w t l->∀c,c∈l->ZAz w t c.pat):∃r b,F.f199 w t l=some (r,b)/\(b=false->r=[])/\
  (b=true->ZLO w t l/\(∀c,c∈l->c.pat.alts<=40)/\r=ZAv 0 [] (l.map fun c=>c.pat.splits)++[ZHu]):=by
 unfold F.f199
 rw[P.YD w hw t l hp]
 simp only[oE,oS]
 by_cases hc:ZLO w t l
 ·have hpc:=hpat hc
  have hl8:l.length<=8:=hc.2.1
  rw[ZG hc,iP rfl]
  have h1:∀c,c∈l->F.f181 c.pat=some (c.pat.splits.take 401):=fun c h=>P.YQ w 10 t c.pat (hpc c h).1 (hp c h)
  rw[P.YF l h1 _ 0 rfl,zZ]
  by_cases ha:∀c,c∈l->c.pat.alts<=40
  ·rw[iP ha]
   simp only[oS]
   have hq:∀c,c∈l->∀q,q∈c.pat.splits->ZGG q/\∃d u,ZFu w d u q:=fun c h q hq=>by
    obtain⟨s1,s2,s3⟩:=ZBS 10 t c.pat (hpc c h).1 (hpc c h).2.1 q hq
    have:=(hpc c h).2.2
    exact⟨⟨by omega,ZDD (hpc c h).1 (hpc c h).2.1 hq []⟩,10,t,s1⟩
   have hlen:∀c,c∈l->c.pat.splits.length<=40:=fun c h=>by rw[ZAE];exact ha c h
   have e2:=P.Yi w l (fun c h=>⟨by rw[h1 c h,yD (by have:=hlen c h;omega)],hlen c h,hq c h⟩) (by omega) _ 0 [] rfl (by simp;omega)
   have cl:=ZD1 (l.map fun c=>c.pat.splits) 0 [] fun x hx=>by
    obtain⟨c,h,rfl⟩:=yE.1 hx
    exact⟨hlen c h,fun q hq'=>(hq c h q hq').1.1⟩
   rw[yI,yM]at cl
   unfold F.f197
   rw[e2,zZ]
   simp only[oE,oS]
   rw[iP (by omega)]
   exact⟨_,_,rfl,fun h=>(by cases h),fun _=>⟨hc,ha,rfl⟩⟩
  ·rw[iN ha]
   simp_all
 ·simp_all
theorem ZEz (x:List Pattern):∀(vs:List (List Pattern)) (i:Nat) (o:List Step),ZAv i o (vs++[x])=clS (i+vs.length) (ZAv i o vs) x
 | [],i,o=>rfl
 |y::r,i,o=>by
  rw[xY,ZAv,ZEz x r (i+1) (clS i o y),ZAv,yJ,show i+1+r.length=i+(r.length+1) by omega]
theorem P.YAK {w:List Data}(hw:ZAL w){t:Ty}{l:List Clause}(hp:∀c,c∈l->c.pat.wt<=1048576)(hc:ZLO w t l)(hpc:∀c,c∈l->ZAz w t c.pat)(ha:∀c,c∈l->c.pat.alts<=40){r:List Step}{b:Bool}(e:F.f199 w t l=some (r,b)):b=true:=by
 unfold F.f199 at e
 rw[P.YD w hw t l hp,ZG hc]at e
 simp only[oE,oS]at e
 rw[iP True.intro,P.YF l (fun c h=>P.YQ w 10 t c.pat (hpc c h).1 (hp c h)) _ 0 rfl,zZ,iP ha]at e
 simp only[oS]at e
 cases h:F.f197 l with
 |none=>rw[h]at e;cases e
 |some q=>rw[h]at e;exact(Prod.mk.inj (zA e)).2.symm
end Go.Vl
