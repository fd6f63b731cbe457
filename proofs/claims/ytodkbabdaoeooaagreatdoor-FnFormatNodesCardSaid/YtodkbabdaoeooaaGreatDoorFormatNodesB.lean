import Derived.Test.YtodkbabdaoeooaaGreatDoorFormatNodesE
set_option linter.all false
set_option maxRecDepth 100000
open Option.some renaming inj->zA
open Nat renaming le_refl->zB,sub_self->zC,pow_succ->zD,sub_zero->zE,lt_trichotomy->zF,add_mul->zG,le_trans->zH,mul_le_mul_right->zI,zero_mul->zJ,succ_mul->zK,lt_trans->zL,add_comm->zM,zero_le->zN,mul_one->zO,mul_add->zP,mod_lt->zQ
open List renaming drop_eq_getElem_cons->zR,mem_singleton->zS,mem_append->zT,drop_zero->zU,getElem_of_mem->zV,drop_eq_nil_of_le->zW,getD_eq_getElem?_getD->zX,map_cons->zY,getElem?_eq_some_iff->zZ,getElem_append_left->yA,sum_cons->yB,getElem_append_right->yC,mem_cons_of_mem->yD,mem_take_iff_getElem->yE,mem_map->yF,mem_cons_self->yG,length_append->yH,exists_cons_of_length_pos->yI,mem_of_mem_take->yJ,length_cons->yK,mem_cons->yL,nil_append->yM,take_of_length_le->yN,getElem_cons_zero->yO,map_append->yP,replicate->yQ,mem_or_eq_of_mem_set->yR,ext_getElem->yS,getElem_cons_succ->yT,sum_append->yU,pairwise_append->yV,mem_of_mem_drop->yW,take_succ_cons->yX,map_nil->yY,all_eq_true->yZ,length_map->xA,pairwise_iff_getElem->xB,sum_nil->xC,take_append_drop->xD,sizeOf_lt_of_mem->xE,mem_append_right->xF,length_singleton->xG,mem_append_left->xH,zip_cons_cons->xI,range->xJ,flatMap_cons->xK,not_mem_nil->xL,mem_flatMap->xM,mem_filter->xN,length_nil->xO,map_map->xP
open Classical renaming byContradiction->xQ
open Int renaming eq_ofNat_of_zero_le->xR,toNat_of_nonneg->xS,le_refl->xT,tmod_lt_of_pos->xU,toNat_natCast->xV,tdiv_le_self->xW,tmod_nonneg->xX,tdiv_nonneg->xY
open ByteArray renaming empty->xZ,size->vA,push->vB,data_append->vC
open Bool renaming and_eq_true->vD,or_eq_true->vE
open UInt8 renaming ofNat->vF
namespace Go.Vl
open Go Go.RowKit
open F renaming f187->vG,f53->vH,f74->vI,f38->vJ,f186->vK,f177->vL,f113->vM,f68->vN,f82->vO,f80->vP,f59->vQ,f55->vR,f22->vS,f20->vT,f19->vU,f18->vV,f166->vW,f165->vX,f163->vY,f161->vZ,f16->uA,f155->uB,f13->uC,f111->uD,f84->uE,f78->uF,f76->uG,f73->uH,f71->uI,f70->uJ,f64->uK,f61->uL,f56->uM,f174->uN,f169->uO,f168->uP,f158->uQ,f157->uR,f153->uS,f152->uT,f151->uU,f120->uV,f119->uW,f118->uX,f112->uY,f110->uZ,f104->kA,f87->kB,f86->kC,f83->kD,f79->kE,f72->kF,f60->kG,f57->kH,f48->kI,f41->kJ,f24->kK,f23->kL
open E renaming f53_le->kM,f38_le->kN,f24_le->kO
open Pattern renaming wt->kP,wt_eq->kQ,ind->kR
open Tree renaming ind->kS,wt_eq->kT,wt->kU
open PathBind renaming wt->kV
open Go.IntKind (i64)
theorem oS {α β:Type}{a:α}{f:α->Option β}:(some a).bind f=f a:=rfl
theorem oE {α β:Type}:(bind:Option α->(α->Option β)->Option β)=Option.bind:=rfl
theorem gQ {α:Type}{l:List α}{i:Nat}(h:i<l.length):l[i]? =some l[i]:=List.getElem?_eq_getElem h
theorem gM {α:Type}{l:List α}{n:Nat}(h:n<l.length):l[n]∈l:=List.getElem_mem h
noncomputable def ZGK {α:Type}(p:α->Prop):Nat->List α->Option Nat
 |_,[]=>none
 |k,x::r=>if dec (p x)=true then some k else ZGK p (k+1) r
theorem ZCa {α:Type}{p:α->Prop}:∀{l:List α} {k j:Nat},ZGK p k l=some j->k<=j/\∃h:j-k<l.length,p l[j-k]/\∀i (hi:i<l.length),i<j-k->¬p l[i]
 |x::r,k,j,h=>by
  simp only[ZGK]at h
  split at h
  ·next hp=>
   obtain rfl:=zA h
   refine⟨zB _,by simp,?_,fun i _ hi=>by omega⟩
   simpa using ZDy.1 hp
  ·next hp=>
   obtain⟨h1,h2,h3,h4⟩:=ZCa h
   have e:j-k=(j- (k+1))+1:=by omega
   refine⟨by omega,by simp;omega,?_,fun i hi hlt=> ?_⟩
   ·simp only[e,yT];exact h3
   ·cases i with
    |zero=>exact fun hq=>hp (ZI hq)
    |succ i=>exact h4 i (by simpa using hi) (by omega)
theorem ZCb {α:Type}{p:α->Prop}:∀{l:List α} {k:Nat},ZGK p k l=none->∀x,x∈l->¬p x
 | [],_,_=>fun x hx=>by cases hx
 |x::r,k,h=>by
  simp only[ZGK]at h
  split at h
  ·cases h
  ·next hp=>
   intro y hy
   rcases yL.1 hy with rfl|hy
   ·exact fun hq=>hp (ZI hq)
   ·exact ZCb h y hy
theorem ZRQ {α:Type}{a:List α}{p:α->Prop}{L:Nat->Option (Lo Int Unit)}(h0:∀k,a.length<=k->L k=some (.go ()))(h1:∀k (h:k<a.length),¬p a[k]->L k=L (k+1))
  (h2:∀k (h:k<a.length),p a[k]->L k=some (.ret (k:Int))):∀(m k:Nat),a.length-k=m->L k=some (match ZGK p k (a.drop k)with|some j=>.ret (j:Int)|none=>.go ()):=by
 intro m
 induction m with
 |zero=>intro k hm;rw[h0 k (by omega),zW (by omega)];rfl
 |succ m ih=>
  intro k hm
  have hk:k<a.length:=by omega
  rw[zR hk]
  by_cases hp:p a[k]
  ·rw[h2 k hk hp];simp only[ZGK];rw[iP (ZI hp)]
  ·rw[h1 k hk hp,ih (k+1) (by omega)];simp only[ZGK];rw[iN (by rw[ZG hp];simp)]
def ZQc (c:Nat):Prop:=65<=c/\c<=90
def ZFV (s:ByteArray):Prop:=s.size=1/\ZQc (byteAt s 0)/\s≠⟨#[73]⟩
def ZKh (s:ByteArray):Prop:=1<=s.size/\s.size<=5/\ZQc (byteAt s 0)/\∀i,1<=i->i<s.size->97<=byteAt s i/\byteAt s i<=122
def ZFe (n:Nat)(t:Ty):Prop:=(t.data= -1/\t.index=0)∨(0<=t.data/\t.data<n/\-1<=t.index/\t.index<=3)
def ZIa (n:Nat)(c:Ctor):Prop:=ZKh c.name/\c.args.length<=3/\0<=c.index/\c.index<=3/\∀j,0<=j->(h:j<c.args.length)->ZFe n c.args[j]
theorem P.Yg (c:Nat):F.f11 c=some (dec (ZQc c)):=by
 unfold F.f11
 by_cases h:65<=(c:Int)
 ·rw[iP h];congr 1;rw[←ZAo];exact ZV ⟨fun h'=>⟨by omega,by omega⟩,fun h'=>by have:=h'.2;omega⟩
 ·rw[iN h,ZG fun h'=>h (by have:=h'.1;omega)]
theorem P.YAF (s:ByteArray):F.f12 s=some (dec (ZFV s)):=by
 unfold F.f12
 by_cases h:s.size=1
 ·rw[iP h,iP (by omega),P.Yg]
  simp only[oE,oS]
  by_cases hb:ZQc (byteAt s 0)
  ·rw[iP (ZI hb)];congr 1;rw[←ZAo];exact ZV ⟨fun h'=>⟨h,hb,fun e=>h' (by rw[e])⟩,fun h' e=>h'.2.2 (ZAx.1 e)⟩
  ·rw[iN (by rw[ZG hb];simp),ZG fun h'=>hb h'.2.1]
 ·rw[iN h,ZG fun h'=>h h'.1]
theorem P.Ys (s:ByteArray)(hs:s.size<=1048576):uC s 1=some (if dec (∀i,1<=i->i<s.size->97<=byteAt s i/\byteAt s i<=122)=true then .go ()else .ret false):=by
 refine ZIi (L:=uC s) (fun k hk=> ?_) (fun k hk hq=> ?_) (fun k hk hq=> ?_) _ 1 rfl
 ·rw[uC,iN (by omega)]
 ·rw[uC,iP hk,iN (by omega),iN (by omega),iP (by omega)]
 ·rw[uC,iP hk]
  by_cases h:byteAt s k<97
  ·rw[iP h]
  ·rw[iN h,iP (by omega)]
theorem P.Yi (s:ByteArray)(hs:s.size<=1048576):F.f14 s=some (dec (ZKh s)):=by
 unfold F.f14
 by_cases h0:s.size=0
 ·rw[iP h0,ZG fun h=>by have:=h.1;omega]
 by_cases h5:5<s.size
 ·rw[iN h0,iP h5,ZG fun h=>by have:=h.2.1;omega]
 rw[iN h0,iN h5,iP (by omega),P.Yg]
 simp only[oE,oS]
 by_cases hb:ZQc (byteAt s 0)
 ·rw[iP (ZI hb),P.Ys s hs]
  simp only[oS]
  by_cases hall:∀i,1<=i->i<s.size->97<=byteAt s i/\byteAt s i<=122
  ·rw[iP (ZI hall),ZI ⟨by omega,by omega,hb,hall⟩]
  ·rw[iN (by rw[ZG hall];simp),ZG fun h=>hall h.2.2.2]
 ·rw[iN (by rw[ZG hb];simp),ZG fun h=>hb h.2.2.1]
theorem P.YV (n:Nat)(t:Ty):F.f15 n t=some (dec (ZFe n t)):=by
 unfold F.f15
 by_cases h:t.data= -1
 ·rw[iP h];congr 1;rw[←ZAo];exact ZV ⟨fun h'=>.inl ⟨h,h'⟩,fun h'=>h'.elim (·.2) (fun h'=>by have:=h'.1;omega)⟩
 rw[iN h]
 by_cases h1:0<=t.data
 ·by_cases h2:t.data<n
  ·by_cases h3: -1<=t.index
   ·rw[iP h1,iP h2,iP h3];congr 1;rw[←ZAo];exact ZV ⟨fun h'=>.inr ⟨h1,h2,h3,h'⟩,fun h'=>h'.elim (fun h'=>absurd h'.1 h) (fun h'=>h'.2.2.2)⟩
   ·rw[iP h1,iP h2,iN h3,ZG fun h'=>h'.elim (fun h'=>h h'.1) (fun h'=>h3 h'.2.2.1)]
  ·rw[iP h1,iN h2,ZG fun h'=>h'.elim (fun h'=>h h'.1) (fun h'=>h2 h'.2.1)]
 ·rw[iN h1,ZG fun h'=>h'.elim (fun h'=>h h'.1) (fun h'=>h1 h'.1)]
theorem P.Yc (n:Nat)(c:Ctor)(hs:c.name.size<=1048576):F.f17 n c=some (dec (ZIa n c)):=by
 unfold F.f17
 rw[P.Yi _ hs]
 simp only[oE,oS]
 by_cases h1:ZKh c.name
 ·rw[iP (ZI h1)]
  by_cases h2:3<c.args.length
  ·rw[iP h2,ZG fun h=>by have:=h.2.1;omega]
  by_cases h3:c.index<0
  ·rw[iN h2,iP h3,ZG fun h=>by have:=h.2.2.1;omega]
  by_cases h4:3<c.index
  ·rw[iN h2,iN h3,iP h4,ZG fun h=>by have:=h.2.2.2.1;omega]
  rw[iN h2,iN h3,iN h4]
  have key:uA n c 0=some (if dec (∀j,0<=j->j<c.args.length->∀h:j<c.args.length,ZFe n c.args[j])=true then .go ()else .ret false):=by
   refine ZIi (n:=c.args.length) (Q:=fun j=>∀h:j<c.args.length,ZFe n c.args[j]) (L:=uA n c) (fun k hk=> ?_) (fun k hk hq=> ?_) (fun k hk hq=> ?_) _ 0 rfl
   ·rw[uA,iN (by omega)]
   ·rw[uA,iP hk,gQ hk]
    simp only[oE,oS]
    rw[P.YV]
    simp only[oS]
    rw[iP (ZI (hq hk))]
   ·rw[uA,iP hk,gQ hk]
    simp only[oE,oS]
    rw[P.YV]
    simp only[oS]
    rw[iN (by rw[ZG fun h=>hq fun _=>h];simp)]
  rw[key]
  simp only[oS]
  by_cases hall:∀j,0<=j->j<c.args.length->∀h:j<c.args.length,ZFe n c.args[j]
  ·rw[iP (ZI hall),ZI ⟨h1,by omega,by omega,by omega,fun j h0 hj=>hall j h0 hj hj⟩]
  ·rw[iN (by rw[ZG hall];simp),ZG fun h=>hall fun j h0 _ hj=>h.2.2.2.2 j h0 hj]
 ·rw[iN (by rw[ZG h1];simp),ZG fun h=>h1 h.1]
abbrev ZNO (d:Data):List ByteArray:=d.ctors.map (·.name)
structure ctorAt (w:List Data)(i:Nat)(d:Data)(k:Nat)(c:Ctor):Prop where
 ok:ZIa w.length c
 new:c.name∉(w.take i).flatMap ZNO++(d.ctors.take k).map (·.name)
structure dataAt (w:List Data)(i:Nat)(d:Data):Prop where
 name:ZFV d.name
 new:d.name∉(w.take i).map (·.name)
 some:1<=d.ctors.length
 few:d.ctors.length<=4
 ctors:∀k,0<=k->k<d.ctors.length->∀h:k<d.ctors.length,ctorAt w i d k d.ctors[k]
def ZS (w:List Data):Prop:=w.length<=4/\∀i,0<=i->i<w.length->∀h:i<w.length,dataAt w i w[i]
def ZBO (w:List Data):Prop:=w.length<=1048576/\∀d,d∈w->∀c,c∈d.ctors->c.name.size<=1048576
theorem P.YAA (w:List Data)(hw:ZBO w)(d k i:Nat)(hd:d<w.length)(hk:k<w[d].ctors.length)(hi:i<d)(hl:w[d].ctors.length<=4)(hli:w[i].ctors.length<=4):vV w d k i 0=
  some (if dec (∀j,0<=j->j<w[i].ctors.length->∀h:j<w[i].ctors.length,w[i].ctors[j].name≠w[d].ctors[k].name)=true then .go ()else .ret true):=by
 have hi':i<w.length:=by omega
 refine ZIi (n:=w[i].ctors.length) (r:=true) (Q:=fun j=>∀h:j<w[i].ctors.length,w[i].ctors[j].name≠w[d].ctors[k].name) (L:=vV w d k i) (fun j hj=> ?_) (fun j hj hq=> ?_) (fun j hj hq=> ?_) _ 0 rfl
 ·rw[vV,gQ hi']
  simp only[oE,oS]
  rw[iN (by omega)]
 ·rw[vV,gQ hi']
  simp only[oE,oS]
  rw[iP hj,iP (by omega),ZAN hd]
  simp only[oS]
  rw[iP (by omega),gQ hj,ZAN hk]
  simp only[oS]
  rw[iN (fun h=>hq hj (ZAx.1 h)),iP (by omega)]
 ·rw[vV,gQ hi']
  simp only[oE,oS]
  rw[iP hj,iP (by omega),ZAN hd]
  simp only[oS]
  rw[iP (by omega),gQ hj,ZAN hk]
  simp only[oS]
  rw[iP (ZAx.2 (xQ fun h=>hq fun _=>h))]
theorem P.Yz (w:List Data)(hw:ZBO w)(d k:Nat)(hd:d<w.length)(hk:k<w[d].ctors.length)(hl:w[d].ctors.length<=4):vU w d k d 0=
  some (if dec (∀j,0<=j->j<k->∀h:j<w[d].ctors.length,w[d].ctors[j].name≠w[d].ctors[k].name)=true then .go ()else .ret true):=by
 refine ZIi (n:=k) (r:=true) (Q:=fun j=>∀h:j<w[d].ctors.length,w[d].ctors[j].name≠w[d].ctors[k].name) (L:=vU w d k d) (fun j hj=> ?_) (fun j hj hq=> ?_) (fun j hj hq=> ?_) _ 0 rfl
 ·rw[vU,gQ hd]
  simp only[oE,oS]
  rcases Nat.lt_or_ge j w[d].ctors.length with h|h
  ·rw[iP h,iN (by omega),iN (by omega)]
  ·rw[iN (by omega)]
 ·have hj':j<w[d].ctors.length:=zL hj hk
  rw[vU,gQ hd]
  simp only[oE,oS]
  rw[iP hj',iN (by omega),iP (by omega),ZAN hd]
  simp only[oS]
  rw[iP (by omega),gQ hj',ZAN hk]
  simp only[oS]
  rw[iN (fun h=>hq hj' (ZAx.1 h)),iP (by omega)]
 ·have hj':j<w[d].ctors.length:=zL hj hk
  rw[vU,gQ hd]
  simp only[oE,oS]
  rw[iP hj',iN (by omega),iP (by omega),ZAN hd]
  simp only[oS]
  rw[iP (by omega),gQ hj',ZAN hk]
  simp only[oS]
  rw[iP (ZAx.2 (xQ fun h=>hq fun _=>h))]
structure fresh (w:List Data)(d k i:Nat)(hd:d<w.length)(hk:k<w[d].ctors.length):Prop where
 data:i<d->∀h:i<w.length,w[i].name≠w[d].name
 ctor:i<d->∀h:i<w.length,∀j,0<=j->j<w[i].ctors.length->∀h:j<w[i].ctors.length,w[i].ctors[j].name≠w[d].ctors[k].name
 own:i=d->∀j,0<=j->j<k->∀h:j<w[d].ctors.length,w[d].ctors[j].name≠w[d].ctors[k].name
theorem P.YY (w:List Data)(hw:ZBO w)(d k:Nat)(hd:d<w.length)(hk:k<w[d].ctors.length)(hw4:w.length<=4)(hl:∀i,i<=d->∀h:i<w.length,w[i].ctors.length<=4):F.f21 w d k=some (!dec (∀i,0<=i->i<d+1->fresh w d k i hd hk)):=by
 unfold F.f21
 have key:vT w d k 0=some (if dec (∀i,0<=i->i<d+1->fresh w d k i hd hk)=true then .go ()else .ret true):=by
  refine ZIi (n:=d+1) (r:=true) (Q:=fun i=>fresh w d k i hd hk) (L:=vT w d k) (fun i hi=> ?_) (fun i hi hq=> ?_) (fun i hi hq=> ?_) _ 0 rfl
  ·rw[vT,iN (by omega)]
  ·rw[vT,iP (by omega)]
   by_cases h:i<d
   ·have hi':i<w.length:=by omega
    rw[iP (by omega),gQ hi',ZAN hd]
    simp only[oE,oS]
    rw[iN (fun e=>hq.data h hi' (ZAx.1 e)),P.YAA w hw d k i hd hk h (hl d (zB _) hd) (hl i (by omega) hi'),iP (ZI (hq.ctor h hi'))]
    simp only[oS]
    rw[iP (by omega)]
   ·obtain rfl:i=d:=by omega
    rw[iN (by omega),P.Yz w hw i k hd hk (hl i (zB _) hd),iP (ZI (hq.own rfl))]
    simp only[oE,oS]
    rw[iP (by omega)]
  ·rw[vT,iP (by omega)]
   by_cases h:i<d
   ·have hi':i<w.length:=by omega
    rw[iP (by omega),gQ hi',ZAN hd]
    simp only[oE,oS]
    by_cases hn:w[i].name=w[d].name
    ·rw[iP (ZAx.2 hn)]
    ·rw[iN (fun e=>hn (ZAx.1 e)),P.YAA w hw d k i hd hk h (hl d (zB _) hd) (hl i (by omega) hi'),iN (by rw[ZG fun hh=>hq ⟨fun _ _=>hn,fun _ _=>hh,fun e=>by omega⟩];simp)]
     rfl
   ·obtain rfl:i=d:=by omega
    rw[iN (by omega),P.Yz w hw i k hd hk (hl i (zB _) hd),iN (by rw[ZG fun hh=>hq ⟨fun e=>by omega,fun e=>by omega,fun _=>hh⟩];simp)]
    rfl
 rw[key]
 simp only[oE,oS]
 by_cases hall:∀i,0<=i->i<d+1->fresh w d k i hd hk
 ·rw[iP (ZI hall),ZI hall];rfl
 ·rw[iN (by rw[ZG hall];simp),ZG hall];rfl
theorem ZDv (w:List Data)(d k:Nat)(hd:d<w.length)(hk:k<w[d].ctors.length):(∀i,0<=i->i<d+1->fresh w d k i hd hk)↔w[d].name∉(w.take d).map (·.name)/\w[d].ctors[k].name∉(w.take d).flatMap ZNO++(w[d].ctors.take k).map (·.name):=by
 constructor
 ·intro h
  refine⟨fun hm=> ?_,fun hm=> ?_⟩
  ·obtain⟨x,hx,e⟩:=yF.1 hm
   obtain⟨i,hi,rfl⟩:=yE.1 hx
   exact(h i (by omega) (by omega)).data (by omega) (by omega) e
  ·rcases zT.1 hm with hm|hm
   ·obtain⟨x,hx,hc⟩:=xM.1 hm
    obtain⟨i,hi,rfl⟩:=yE.1 hx
    obtain⟨c,hc,e⟩:=yF.1 hc
    obtain⟨j,hj,rfl⟩:=zV hc
    exact(h i (by omega) (by omega)).ctor (by omega) (by omega) j (by omega) hj hj e
   ·obtain⟨c,hc,e⟩:=yF.1 hm
    obtain⟨j,hj,rfl⟩:=yE.1 hc
    exact(h d (by omega) (by omega)).own rfl j (by omega) (by omega) (by omega) e
 ·rintro⟨h1,h2⟩ i _ hi
  refine⟨fun hid hiw e=>h1 (yF.2 ⟨w[i],yE.2 ⟨i,by omega,rfl⟩,e⟩),fun hid hiw j _ hj hj' e=>h2 (xH _ (xM.2 ⟨w[i],yE.2 ⟨i,by omega,rfl⟩,yF.2 ⟨_,gM hj,e⟩⟩)),fun e j _ hj hj' e=>h2 (xF _ (yF.2 ⟨_,yE.2 ⟨j,by omega,rfl⟩,e⟩))⟩
theorem P.Yp (w:List Data)(hw:ZBO w)(d:Nat)(hd:d<w.length)(hw4:w.length<=4)(hl:∀i,i<=d->∀h:i<w.length,w[i].ctors.length<=4):vS w d 0=
  some (if dec (∀k,0<=k->k<w[d].ctors.length->∀h:k<w[d].ctors.length,w[d].name∉(w.take d).map (·.name)/\ctorAt w d w[d] k w[d].ctors[k])=true then .go ()else .ret false):=by
 have hl0:=hl d (zB _) hd
 refine ZIi (n:=w[d].ctors.length) (r:=false) (Q:=fun k=>∀h:k<w[d].ctors.length,w[d].name∉(w.take d).map (·.name)/\ctorAt w d w[d] k w[d].ctors[k]) (L:=vS w d) (fun k hk=> ?_) (fun k hk hq=> ?_) (fun k hk hq=> ?_) _ 0 rfl
 ·rw[vS,gQ hd]
  simp only[oE,oS]
  rw[iN (by omega)]
 ·obtain⟨h1,h2⟩:=hq hk
  rw[vS,gQ hd]
  simp only[oE,oS]
  rw[iP hk,gQ hk]
  simp only[oS]
  rw[P.Yc _ _ (hw.2 _ (gM hd) _ (gM hk))]
  simp only[oS]
  rw[iP (ZI h2.ok),P.YY w hw d k hd hk hw4 hl]
  simp only[oS]
  rw[ZI ((ZDv w d k hd hk).2 ⟨h1,h2.new⟩),iN (by simp),iP (by omega)]
 ·rw[vS,gQ hd]
  simp only[oE,oS]
  rw[iP hk,gQ hk]
  simp only[oS]
  rw[P.Yc _ _ (hw.2 _ (gM hd) _ (gM hk))]
  simp only[oS]
  by_cases h1:ZIa w.length w[d].ctors[k]
  ·rw[iP (ZI h1),P.YY w hw d k hd hk hw4 hl]
   simp only[oS]
   rw[ZG fun hh=>hq fun _=>⟨((ZDv w d k hd hk).1 hh).1,⟨h1,((ZDv w d k hd hk).1 hh).2⟩⟩,iP (by simp)]
  ·rw[iN (by rw[ZG h1];simp)]
theorem P.YQ (w:List Data)(hw:ZBO w):kK w=some (dec (ZS w)):=by
 unfold kK
 by_cases h4:4<w.length
 ·rw[iP h4,ZG fun hh=>by have:=hh.1;omega]
 rw[iN h4]
 -- the loop runs only on over types that are right
 have key:∀(m d:Nat),w.length-d=m->(∀i,i<d->∀h:i<w.length,w[i].ctors.length<=4)->kL w d=some (if dec (∀i,d<=i->i<w.length->∀h:i<w.length,dataAt w i w[i])=true then .go ()else .ret false):=by
  intro m
  induction m with
  |zero=>
   intro d hm hl
   rw[kL,iN (by omega),iP (ZI fun i h1 h2=>by omega)]
  |succ m ih=>
   intro d hm hl
   have hd:d<w.length:=by omega
   rw[kL,iP hd,gQ hd]
   simp only[oE,oS]
   rw[P.YAF]
   simp only[oS]
   have no:¬dataAt w d w[d]->¬∀i,d<=i->i<w.length->∀h:i<w.length,dataAt w i w[i]:=fun h hh=>h (hh d (zB _) hd hd)
   by_cases h1:ZFV w[d].name
   ·rw[iP (ZI h1)]
    by_cases h2:w[d].ctors.length=0
    ·rw[iP h2,iN (by rw[ZG (no fun h=>by have:=h.some;omega)];simp)]
    by_cases h3:4<w[d].ctors.length
    ·rw[iN h2,iP h3,iN (by rw[ZG (no fun h=>by have:=h.few;omega)];simp)]
    have hl':∀i,i<=d->∀h:i<w.length,w[i].ctors.length<=4:=fun i hi h=>by
     by_cases e:i=d
     ·subst e;omega
     ·exact hl i (by omega) h
    rw[iN h2,iN h3,P.Yp w hw d hd (by omega) hl']
    simp only[oS]
    by_cases hq:∀k,0<=k->k<w[d].ctors.length->∀h:k<w[d].ctors.length,w[d].name∉(w.take d).map (·.name)/\ctorAt w d w[d] k w[d].ctors[k]
    ·have hda:dataAt w d w[d]:=⟨h1,(hq 0 (by omega) (by omega) (by omega)).1,by omega,by omega,fun k a b c=>(hq k a b c).2⟩
     rw[iP (ZI hq)]
     simp only
     rw[iP (by omega),ih (d+1) (by omega) fun i hi h=>hl' i (by omega) h]
     by_cases hall:∀i,d+1<=i->i<w.length->∀h:i<w.length,dataAt w i w[i]
     ·rw[iP (ZI hall),iP (ZI fun i a b c=> ?_)]
      by_cases e:i=d
      ·subst e;exact hda
      ·exact hall i (by omega) b c
     ·rw[iN (by rw[ZG hall];simp),iN (by rw[ZG fun hh=>hall fun i a b c=>hh i (by omega) b c];simp)]
    ·rw[iN (by rw[ZG hq];simp)]
     simp only
     rw[iN (by rw[ZG (no fun h=>hq fun k a b c=>⟨h.new,h.ctors k a b c⟩)];simp)]
   ·rw[iN (by rw[ZG h1];simp),iN (by rw[ZG (no fun h=>h1 h.name)];simp)]
 rw[key _ 0 rfl fun i hi=>by omega]
 simp only[oE,oS]
 by_cases hall:∀i,0<=i->i<w.length->∀h:i<w.length,dataAt w i w[i]
 ·rw[iP (ZI hall),ZI ⟨by omega,hall⟩]
 ·rw[iN (by rw[ZG hall];simp),ZG fun hh=>hall hh.2]
def Za (w:List Data)(t:Ty):Prop:=ZFe w.length t/\0<=t.index
theorem P.YAh (w:List Data)(t:Ty):F.f100 w t=some (dec (Za w t)):=by
 unfold F.f100
 rw[P.YV]
 simp only[oE,oS]
 by_cases h:ZFe w.length t
 ·rw[iP (ZI h),←ZAo];congr 1;exact ZV ⟨fun h'=>⟨h,h'⟩,fun h'=>h'.2⟩
 ·rw[iN (by rw[ZG h];simp),ZG fun h'=>h h'.1]
def ZDY (w:List Data)(t:Ty):Prop:=ZS w/\Za w t
theorem P.Yh (w:List Data)(t:Ty)(hw:ZBO w):F.f101 w t=some (dec (ZDY w t)):=by
 unfold F.f101
 rw[P.YQ w hw]
 simp only[oE,oS]
 by_cases h:ZS w
 ·rw[iP (ZI h),P.YAh]
  simp only[oS]
  congr 1;exact ZV ⟨fun h'=>⟨h,h'⟩,fun h'=>h'.2⟩
 ·rw[iN (by rw[ZG h];simp),ZG fun h'=>h h'.1]
theorem ZJ6 {w:List Data}(h:wtL Data.wt w<=1048576):ZBO w:=by
 refine⟨by have:=ZAb Data.wt w;omega,fun d hd c hc=> ?_⟩
 have h1:=ZAQ Data.wt hd
 have h2:=ZAQ Ctor.wt hc
 have e1:d.wt=d.name.size+wtL Ctor.wt d.ctors:=rfl
 have e2:c.wt=c.name.size+wtL Ty.wt c.args:=rfl
 omega
def tOk (w:List Data)(t:Ty):Prop:=t.data= -1∨(0<=t.data/\t.data<w.length)
theorem ZAP {w:List Data}{t:Ty}(h:ZFe w.length t):tOk w t:=h.elim (fun h=>.inl h.1) (fun h=>.inr ⟨h.1,h.2.1⟩)
def ZO6 (i:Int)(c:Ctor):Prop:=i=0∨c.index=0∨c.index=i
noncomputable def ZID (i:Int):Nat->List Ctor->List Int
 |_,[]=>[]
 |k,c::r=>(if dec (ZO6 i c)=true then[(k:Int)]else[])++ZID i (k+1) r
theorem ZE3 (i:Int):∀(k:Nat) (l:List Ctor),(ZID i k l).length<=l.length
 |_,[]=>by simp[ZID]
 |k,c::r=>by
  have:=ZE3 i (k+1) r
  unfold ZID
  split<;>simp<;>omega
theorem ZIC (i:Int){x:Int}:∀{k:Nat} {l:List Ctor},x∈ZID i k l->(k:Int)<=x/\x<k+l.length
 |_,[],h=>by simp[ZID]at h
 |k,c::r,h=>by
  unfold ZID at h
  rcases zT.1 h with h|h
  ·split at h
   ·simp at h;subst h;simp;omega
   ·simp at h
  ·have:=ZIC i h
   simp;omega
def Zu (w:List Data)(t:Ty):Data:=w.getD t.data.toNat Data.z
noncomputable def ZP (w:List Data)(t:Ty):List Int:=if t.data= -1 then[]else ZID t.index 0 (Zu w t).ctors
def ZAF (w:List Data)(t:Ty)(c:Int):Ctor:=(Zu w t).ctors.getD c.toNat Ctor.z
def ZHu (t:Ty)(c:Ctor)(a:Ty):Ty:=if a.index= -1 then⟨a.data,if c.index=0 then t.index else c.index⟩else a
def ZQ (w:List Data)(t:Ty)(c:Int):List Ty:=(ZAF w t c).args.map (ZHu t (ZAF w t c))
theorem ZFd {w:List Data}{t:Ty}(h:tOk w t)(hn:t.data≠-1):at? w t.data=some (Zu w t)/\Zu w t∈w/\∃h:t.data.toNat<w.length,Zu w t=w[t.data.toNat]:=by
 obtain⟨h1,h2⟩:=h.resolve_left hn
 have hlt:t.data.toNat<w.length:=by omega
 unfold at? Zu
 rw[iP h1,gQ hlt,zX,gQ hlt]
 exact⟨rfl,gM hlt,hlt,rfl⟩
theorem Zr {w:List Data}(hw:ZS w){t:Ty}(h:tOk w t)(hn:t.data≠-1):(Zu w t).ctors.length<=4/\∀c,c∈(Zu w t).ctors->ZIa w.length c:=by
 obtain⟨_,_,hlt,e⟩:=ZFd h hn
 have hd:=hw.2 t.data.toNat (by omega) hlt hlt
 rw[e]
 refine⟨hd.few,fun c hc=> ?_⟩
 obtain⟨k,hk,rfl⟩:=zV hc
 exact(hd.ctors k (by omega) hk hk).ok
theorem P.Yq (w:List Data)(hw:ZS w)(t:Ty)(h:tOk w t)(hn:t.data≠-1):∀(m k:Nat) (out:List Int),(Zu w t).ctors.length-k=m->out.length<=k->k<=(Zu w t).ctors.length->
  kJ w t out k=some (out++ZID t.index k ((Zu w t).ctors.drop k)):=by
 have h4:=(Zr hw h hn).1
 intro m
 induction m with
 |zero=>
  intro k out hm ho hk
  rw[kJ,(ZFd h hn).1]
  simp only[oE,oS]
  rw[iN (by omega),zW (by omega)];simp[ZID]
 |succ m ih=>
  intro k out hm ho hk
  have hlt:k<(Zu w t).ctors.length:=by omega
  rw[kJ,(ZFd h hn).1]
  simp only[oE,oS]
  rw[iP hlt,gQ hlt,zR hlt]
  simp only[oS,ZID]
  have hf:F.f40 (Zu w t).ctors[k] t.index=some (dec (ZO6 t.index (Zu w t).ctors[k])):=by
   unfold F.f40
   by_cases h1:(Zu w t).ctors[k].index=0
   ·rw[iP h1,ZI (.inr (.inl h1))]
   ·by_cases h2:t.index=0
    ·rw[iN h1,iP h2,ZI (.inl h2)]
    ·rw[iN h1,iN h2,←ZAo];congr 1;exact ZV ⟨fun h=>.inr (.inr h),fun h=>h.elim (fun h=>absurd h h2) (fun h=>h.elim (fun h=>absurd h h1) id)⟩
  rw[hf]
  simp only[oS]
  by_cases hfit:ZO6 t.index (Zu w t).ctors[k]
  ·rw[iP (ZI hfit),iP (by omega),iP (by omega),ih (k+1) _ (by omega) (by simp;omega) (by omega),iP (ZI hfit)];simp
  ·rw[iN (by rw[ZG hfit];simp),iP (by omega),ih (k+1) _ (by omega) (by omega) (by omega),iN (by rw[ZG hfit];simp)];simp
theorem P.YJ (w:List Data)(hw:ZS w)(t:Ty)(h:tOk w t):F.f42 w t=some (ZP w t):=by
 unfold F.f42 ZP
 by_cases hn:t.data= -1
 ·rw[iP hn,iP hn]
 ·rw[iN hn,iN hn,P.Yq w hw t h hn _ 0 [] rfl (by simp) (by omega)];simp
theorem ZY {w:List Data}{t:Ty}{c:Int}(h:c∈ZP w t):t.data≠-1/\0<=c/\c<(Zu w t).ctors.length:=by
 unfold ZP at h
 split at h
 ·cases h
 ·next hn=>
  have:=ZIC t.index h
  exact⟨hn,by omega,by omega⟩
theorem ZC5 {w:List Data}{t:Ty}{c:Int}(h:c∈ZP w t):at? (Zu w t).ctors c=some (ZAF w t c)/\ZAF w t c∈(Zu w t).ctors:=by
 obtain⟨_,h1,h2⟩:=ZY h
 have hlt:c.toNat<(Zu w t).ctors.length:=by omega
 unfold at? ZAF
 rw[iP h1,gQ hlt,zX,gQ hlt]
 exact⟨rfl,gM hlt⟩
theorem ZHt {w:List Data}(hw:ZS w){t:Ty}(ht:tOk w t){c:Int}(h:c∈ZP w t):(ZQ w t c).length<=3/\∀a,a∈ZQ w t c->tOk w a:=by
 have hc:=(Zr hw ht (ZY h).1).2 _ (ZC5 h).2
 refine⟨by unfold ZQ;rw[xA];exact hc.2.1,fun a ha=> ?_⟩
 obtain⟨b,hb,rfl⟩:=yF.1 ha
 obtain⟨j,hj,rfl⟩:=zV hb
 have:=ZAP (hc.2.2.2.2 j (by omega) hj)
 unfold ZHu
 split
 ·exact this
 ·exact this
theorem P.YB (w:List Data)(hw:ZS w)(t:Ty)(ht:tOk w t)(c:Int)(h:c∈ZP w t):F.f45 w t c=some (ZQ w t c):=by
 have hc:=(Zr hw ht (ZY h).1).2 _ (ZC5 h).2
 unfold F.f45
 rw[(ZFd ht (ZY h).1).1]
 simp only[oE,oS]
 rw[(ZC5 h).1]
 simp only[oS]
 rw[ZLP (L:=F.f44 t (ZAF w t c)) (a:=(ZAF w t c).args) (g:=ZHu t (ZAF w t c)) (f:=fun a=>some (ZHu t (ZAF w t c) a)) (fun out i=> ?_) (fun _ _=>rfl) _ 0 [] rfl (by have:=hc.2.1;simp;omega)]
 ·simp[ZQ]
 ·rw[F.f44]
  split
  ·cases(ZAF w t c).args[i]? with
   |none=>rfl
   |some a=>
    simp only[oE,oS,F.f43,ZHu]
    split
    ·split<;>simp
    ·simp
  ·rfl
theorem P.YAS (l:List Int)(n:Int):F.f65 l n=some (dec (n∈l)):=by
 unfold F.f65
 rw[ZIi (n:=l.length) (r:=true) (Q:=fun j=>∀h:j<l.length,l[j]≠n) (L:=uK l n) (fun k hk=>by rw[uK,iN (by omega)])
  (fun k hk hq=>by
   rw[uK,iP hk,gQ hk]
   simp only[oE,oS]
   rw[iN (hq hk)])
  (fun k hk hq=>by
   rw[uK,iP hk,gQ hk]
   simp only[oE,oS]
   rw[iP (xQ fun h=>hq fun _=>h)]) _ 0 rfl]
 simp only[oE,oS]
 by_cases hm:n∈l
 ·obtain⟨j,hj,e⟩:=zV hm
  rw[iN (by rw[ZG fun hh=>hh j (by omega) hj hj e];simp),ZI hm]
 ·rw[iP (ZI fun j _ hj h e=>hm (by rw[←e];exact gM h)),ZG hm]
def pv (w:List Data)(holes:Bool):Nat->Ty->Value->Prop
 |0,_,_=>False
 |d+1,t,v=>(holes=true/\v.ctor= -2/\v.n=0/\v.kids.length=0)∨(¬(holes=true/\v.ctor= -2)/\
   ((t.data= -1/\v.ctor= -1/\0<=v.n/\v.n<=9/\v.kids.length=0)∨
   (t.data≠-1/\v.n=0/\v.ctor∈ZP w t/\v.kids.length=(ZQ w t v.ctor).length/\
    ∀i,0<=i->i<(ZQ w t v.ctor).length->∀(h:i<(ZQ w t v.ctor).length) (h':i<v.kids.length),pv w holes d (ZQ w t v.ctor)[i] v.kids[i])))
theorem ZNS (v:Value):v.wt=((v.kids.drop 0).map fun k=>1+k.wt).sum:=by
 rw[zU,v.wt_eq]
 have:∀l:List Value,(l.map fun k=>1+k.wt).sum=wtL Value.wt l:=by
  intro l
  induction l with
  |nil=>rfl
  |cons a r ih=>simp[ih]
 exact(this _).symm
def rok (K:Nat)(r:ZB):Prop:=r.f0.length<=2000/\(∀x,x∈r.f0->0<=x/\x<=255)/\0<=r.f1/\r.f1<=(K:Int)
theorem rok.mono {K L:Nat}{r:ZB}(h:rok K r)(hl:K<=L):rok L r:=⟨h.1,h.2.1,h.2.2.1,by have:=h.2.2.2;omega⟩
theorem ZNR {a b:Int}(ha:0<=a)(hb:0<=b)(ha':a<4611686018427387904)(hb':b<4611686018427387904):0<=ZO9 .i64 a b:=by
 unfold ZO9
 obtain⟨m,rfl⟩:=xR ha
 obtain⟨n,rfl⟩:=xR hb
 have hm:m<2^62:=by omega
 have hn:n<2^62:=by omega
 have h:(BitVec.ofInt IntKind.i64.bits (m:Int)^^^BitVec.ofInt IntKind.i64.bits (n:Int)).toNat<2^62:=by
  rw[BitVec.toNat_xor]
  refine Nat.xor_lt_two_pow ?_ ?_
  ·show(BitVec.ofInt 64 (m:Int)).toNat<2^62
   rw[BitVec.toNat_ofInt];omega
  ·show(BitVec.ofInt 64 (n:Int)).toNat<2^62
   rw[BitVec.toNat_ofInt];omega
 rw[ZF (by omega) (by omega)]
 exact Int.natCast_nonneg _
theorem ZEs {α:Type}{xs:List α}{i:Int}(h0:0<=i)(h1:i<xs.length):∃x,at? xs i=some x/\x∈xs:=by
 have hi:i.toNat<xs.length:=by omega
 refine⟨xs[i.toNat],?_,gM hi⟩
 unfold at?
 rw[iP h0,gQ hi]
theorem P.YK {K:Nat}{r:ZB}(h:rok K r)(hK:K<=1099511627776)(n:Int):∃v r',F.f1 r n=some (v,r')/\rok (K+1) r'/\0<=v/\(1<=n->v<n)/\(n<1->v=0):=by
 obtain⟨h1,h2,h3,h4⟩:=h
 unfold F.f1
 have e1:i64.wrap (r.f1+1)=r.f1+1:=ZF (by omega) (by omega)
 have e2:i64.wrap (r.f1+1-1)=r.f1:=by rw[ZF (by omega) (by omega)];omega
 have hr':rok (K+1) ⟨r.f0,r.f1+1⟩:=⟨h1,h2,by show 0<=r.f1+1;omega,by show r.f1+1<=((K+1:Nat):Int);omega⟩
 rw[e1,e2]
 by_cases hn:n<1
 ·rw[iP hn];exact⟨0,_,rfl,hr',by omega,by omega,fun _=>rfl⟩
 rw[iN hn]
 by_cases hl:r.f0.length=0
 ·rw[iP hl];exact⟨0,_,rfl,hr',by omega,by omega,fun _=>rfl⟩
 rw[iN hl]
 have tm:∀x:Int,0<=x->0<=x.tmod n/\x.tmod n<n:=fun x hx=>⟨xX n hx,xU x (by omega)⟩
 have tl:∀x:Int,0<=x->0<=x.tmod (r.f0.length:Int)/\x.tmod (r.f0.length:Int)<r.f0.length:=fun x hx=>⟨xX _ hx,xU x (by omega)⟩
 by_cases hk:r.f1<(r.f0.length:Int)
 ·rw[iP hk]
  obtain⟨x,hx,hm⟩:=ZEs h3 hk
  have hb:=h2 x hm
  rw[hx]
  simp only[oE,oS]
  rw[iP (by omega),ZF (by omega) (by omega)]
  have:=tm x hb.1
  exact⟨_,_,rfl,hr',this.1,fun _=>this.2,fun h=>by omega⟩
 ·rw[iN hk,iP (by omega)]
  have e7:i64.wrap (r.f1*7)=r.f1*7:=ZF (by omega) (by omega)
  have e73:i64.wrap (r.f1*7+3)=r.f1*7+3:=ZF (by omega) (by omega)
  rw[e7,e73]
  have t1:=tl r.f1 h3
  have t2:=tl (r.f1*7+3) (by omega)
  obtain⟨x,hx,hm⟩:=ZEs t1.1 t1.2
  obtain⟨y,hy,hm'⟩:=ZEs t2.1 t2.2
  have hb:=h2 x hm
  have hb':=h2 y hm'
  have hq0:0<=r.f1.tdiv (r.f0.length:Int):=xY h3 (by omega)
  have hq1:r.f1.tdiv (r.f0.length:Int)<=r.f1:=xW _ h3
  rw[hx,hy]
  simp only[oE,oS]
  rw[iP (by omega)]
  generalize r.f1.tdiv (r.f0.length:Int)=q at hq0 hq1 ⊢
  rw[ZF (n:=x) (by omega) (by omega),ZF (n:=y) (by omega) (by omega),ZF (n:=q) (by omega) (by omega),ZF (n:=x*131) (by omega) (by omega),ZF (n:=y*1117) (by omega) (by omega),
   ZF (n:=r.f1*29) (by omega) (by omega),ZF (n:=q*53) (by omega) (by omega),ZF (n:=x*131+y*1117) (by omega) (by omega),ZF (n:=x*131+y*1117+r.f1*29) (by omega) (by omega),
   ZF (n:=x*131+y*1117+r.f1*29+q*53) (by omega) (by omega)]
  have hz0:0<=x*131+y*1117+r.f1*29+q*53:=by omega
  have hz1:x*131+y*1117+r.f1*29+q*53<4611686018427387904:=by omega
  generalize x*131+y*1117+r.f1*29+q*53=z at hz0 hz1 ⊢
  have hd0:0<=z.tdiv 64:=xY hz0 (by omega)
  have hd1:z.tdiv 64<=z:=xW _ hz0
  rw[ZF (n:=z.tdiv 64) (by omega) (by omega)]
  have:=tm _ (ZNR hz0 hd0 hz1 (by omega))
  exact⟨_,_,rfl,hr',this.1,fun _=>this.2,fun h=>by omega⟩
theorem P.num {K:Nat}{r:ZB}(h:rok K r)(hK:K<=1099511627776)(l:List Int)(hl:l≠[]):∃v r',F.f54 r l=some (v,r')/\rok (K+1) r'/\v∈l:=by
 unfold F.f54
 obtain⟨v,r',e,h1,h2,h3,_⟩:=P.YK h hK (l.length:Int)
 have:0<l.length:=List.length_pos_iff.2 hl
 obtain⟨x,hx,hm⟩:=ZEs h2 (h3 (by omega))
 rw[e]
 simp only[oE,oS]
 rw[hx]
 exact⟨x,r',rfl,h1,hm⟩
def W0 :List Data:=[⟨⟨#[76]⟩,[⟨⟨#[78,105,108]⟩,[],0⟩,⟨⟨#[67,111,110,115]⟩,[⟨-1,0⟩,⟨0,0⟩],0⟩]⟩]
theorem ZM7 :vJ ⟨#[76,61,78,105,108,124,67,111,110,115,40,73,44,76,41]⟩=some (W0,true):=kN 100 _ _ (by kernel_rfl)
theorem ZM6 :vH W0=some [1,1,1,1]:=kM 100 _ _ (by kernel_rfl)
def W1 :List Data:=[⟨⟨#[66]⟩,[⟨⟨#[84,114,117]⟩,[],0⟩,⟨⟨#[70,108,115]⟩,[],0⟩]⟩,⟨⟨#[84]⟩,[⟨⟨#[76,101,97,102]⟩,[],0⟩,⟨⟨#[78,111,100,101]⟩,[⟨1,0⟩,⟨0,0⟩,⟨1,0⟩],0⟩]⟩]
theorem ZM5 :vJ ⟨#[66,61,84,114,117,124,70,108,115,59,84,61,76,101,97,102,124,78,111,100,101,40,84,44,66,44,84,41]⟩=some (W1,true):=kN 100 _ _ (by kernel_rfl)
theorem ZM4 :vH W1=some [1,1,1,1,1,1,1,1]:=kM 100 _ _ (by kernel_rfl)
def W2 :List Data:=[⟨⟨#[69]⟩,[⟨⟨#[78,117,109]⟩,[⟨-1,0⟩],1⟩,⟨⟨#[66,111,108]⟩,[⟨1,0⟩],2⟩,⟨⟨#[65,100,100]⟩,[⟨0,1⟩,⟨0,1⟩],1⟩,⟨⟨#[73,102]⟩,[⟨0,2⟩,⟨0,-1⟩,⟨0,-1⟩],0⟩]⟩,⟨⟨#[66]⟩,[⟨⟨#[84,114,117]⟩,[],0⟩,⟨⟨#[70,108,115]⟩,[],0⟩]⟩]
theorem ZM3 :vJ ⟨#[69,61,78,117,109,40,73,41,58,49,124,66,111,108,40,66,41,58,50,124,65,100,100,40,69,49,44,69,49,41,58,49,124,73,102,40,69,50,44,69,42,44,69,42,41,59,66,61,84,114,117,124,70,108,115]⟩=some (W2,true):=kN 100 _ _ (by kernel_rfl)
theorem ZM2 :vH W2=some [2,2,2,0,1,1,1,1]:=kM 100 _ _ (by kernel_rfl)
def W3 :List Data:=[⟨⟨#[79]⟩,[⟨⟨#[78,111,110]⟩,[],0⟩,⟨⟨#[83,111,109]⟩,[⟨-1,0⟩],0⟩]⟩,⟨⟨#[80]⟩,[⟨⟨#[80,97,105,114]⟩,[⟨0,0⟩,⟨0,0⟩],0⟩]⟩]
theorem ZM1 :vJ ⟨#[79,61,78,111,110,124,83,111,109,40,73,41,59,80,61,80,97,105,114,40,79,44,79,41]⟩=some (W3,true):=kN 100 _ _ (by kernel_rfl)
theorem ZM0 :vH W3=some [1,1,1,1,2,2,2,2]:=kM 100 _ _ (by kernel_rfl)
def W4 :List Data:=[⟨⟨#[86]⟩,[⟨⟨#[69,110,100]⟩,[],1⟩,⟨⟨#[83,111,109,101]⟩,[⟨-1,0⟩,⟨0,1⟩],2⟩,⟨⟨#[84,119,111]⟩,[⟨0,-1⟩],0⟩]⟩]
theorem ZMz :vJ ⟨#[86,61,69,110,100,58,49,124,83,111,109,101,40,73,44,86,49,41,58,50,124,84,119,111,40,86,42,41]⟩=some (W4,true):=kN 100 _ _ (by kernel_rfl)
theorem ZMy :vH W4=some [1,1,2,0]:=kM 100 _ _ (by kernel_rfl)
def W5 :List Data:=[⟨⟨#[78]⟩,[⟨⟨#[78,101,118,101,114]⟩,[⟨0,0⟩],0⟩]⟩,⟨⟨#[66]⟩,[⟨⟨#[84,114,117]⟩,[],0⟩,⟨⟨#[70,108,115]⟩,[],0⟩,⟨⟨#[77,97,121]⟩,[⟨0,0⟩],0⟩]⟩]
theorem ZMx :vJ ⟨#[78,61,78,101,118,101,114,40,78,41,59,66,61,84,114,117,124,70,108,115,124,77,97,121,40,78,41]⟩=some (W5,true):=kN 100 _ _ (by kernel_rfl)
theorem ZMw :vH W5=some [0,0,0,0,1,1,1,1]:=kM 100 _ _ (by kernel_rfl)
def W6 :List Data:=[⟨⟨#[83]⟩,[⟨⟨#[82,101,100]⟩,[],0⟩,⟨⟨#[71,114,101,101,110]⟩,[],0⟩,⟨⟨#[66,108,117,101]⟩,[],0⟩,⟨⟨#[77,105,120]⟩,[⟨0,0⟩,⟨0,0⟩],0⟩]⟩]
theorem ZMv :vJ ⟨#[83,61,82,101,100,124,71,114,101,101,110,124,66,108,117,101,124,77,105,120,40,83,44,83,41]⟩=some (W6,true):=kN 100 _ _ (by kernel_rfl)
theorem ZMu :vH W6=some [1,1,1,1]:=kM 100 _ _ (by kernel_rfl)
def ZE1 :List ByteArray:=[⟨#[76,61,78,105,108,124,67,111,110,115,40,73,44,76,41]⟩,⟨#[66,61,84,114,117,124,70,108,115,59,84,61,76,101,97,102,124,78,111,100,101,40,84,44,66,44,84,41]⟩,⟨#[69,61,78,117,109,40,73,41,58,49,124,66,111,108,40,66,41,58,50,124,65,100,100,40,69,49,44,69,49,41,58,49,124,73,102,40,69,50,44,69,42,44,69,42,41,59,66,61,84,114,117,124,70,108,115]⟩,⟨#[79,61,78,111,110,124,83,111,109,40,73,41,59,80,61,80,97,105,114,40,79,44,79,41]⟩,⟨#[86,61,69,110,100,58,49,124,83,111,109,101,40,73,44,86,49,41,58,50,124,84,119,111,40,86,42,41]⟩,⟨#[78,61,78,101,118,101,114,40,78,41,59,66,61,84,114,117,124,70,108,115,124,77,97,121,40,78,41]⟩,⟨#[83,61,82,101,100,124,71,114,101,101,110,124,66,108,117,101,124,77,105,120,40,83,44,83,41]⟩,xZ]
theorem P.YA5 :F.f0=some ZE1:=rfl
def ZAO :List (List Data):=[W0,W1,W2,W3,W4,W5,W6]
theorem P.YA4 {K:Nat}{r:ZB}(h:rok K r)(hK:K<=1099511627776):∃w r',F.f39 r=some (w,r')/\rok (K+1) r'/\w∈ZAO:=by
 unfold F.f39
 rw[P.YA5]
 simp only[oE,oS]
 obtain⟨v,r',e,h1,h2,h3,_⟩:=P.YK h hK 7
 have e7:i64.wrap (((8:Nat):Int) -1)=7:=by rw[ZF (by omega) (by omega)];rfl
 have e8:ZE1.length=8:=rfl
 rw[e8,e7,e]
 simp only[oS]
 have h3:=h3 (by omega)
 have hv:v=0∨v=1∨v=2∨v=3∨v=4∨v=5∨v=6:=by omega
 rcases hv with rfl|rfl|rfl|rfl|rfl|rfl|rfl
 ·have:at? ZE1 0=some (⟨#[76,61,78,105,108,124,67,111,110,115,40,73,44,76,41]⟩:ByteArray):=rfl
  rw[this];simp only[oS]
  rw[ZM7]
  exact⟨W0,r',rfl,h1,by simp[ZAO]⟩
 ·have:at? ZE1 1=some (⟨#[66,61,84,114,117,124,70,108,115,59,84,61,76,101,97,102,124,78,111,100,101,40,84,44,66,44,84,41]⟩:ByteArray):=rfl
  rw[this];simp only[oS]
  rw[ZM5]
  exact⟨W1,r',rfl,h1,by simp[ZAO]⟩
 ·have:at? ZE1 2=some (⟨#[69,61,78,117,109,40,73,41,58,49,124,66,111,108,40,66,41,58,50,124,65,100,100,40,69,49,44,69,49,41,58,49,124,73,102,40,69,50,44,69,42,44,69,42,41,59,66,61,84,114,117,124,70,108,115]⟩:ByteArray):=rfl
  rw[this];simp only[oS]
  rw[ZM3]
  exact⟨W2,r',rfl,h1,by simp[ZAO]⟩
 ·have:at? ZE1 3=some (⟨#[79,61,78,111,110,124,83,111,109,40,73,41,59,80,61,80,97,105,114,40,79,44,79,41]⟩:ByteArray):=rfl
  rw[this];simp only[oS]
  rw[ZM1]
  exact⟨W3,r',rfl,h1,by simp[ZAO]⟩
 ·have:at? ZE1 4=some (⟨#[86,61,69,110,100,58,49,124,83,111,109,101,40,73,44,86,49,41,58,50,124,84,119,111,40,86,42,41]⟩:ByteArray):=rfl
  rw[this];simp only[oS]
  rw[ZMz]
  exact⟨W4,r',rfl,h1,by simp[ZAO]⟩
 ·have:at? ZE1 5=some (⟨#[78,61,78,101,118,101,114,40,78,41,59,66,61,84,114,117,124,70,108,115,124,77,97,121,40,78,41]⟩:ByteArray):=rfl
  rw[this];simp only[oS]
  rw[ZMx]
  exact⟨W5,r',rfl,h1,by simp[ZAO]⟩
 ·have:at? ZE1 6=some (⟨#[83,61,82,101,100,124,71,114,101,101,110,124,66,108,117,101,124,77,105,120,40,83,44,83,41]⟩:ByteArray):=rfl
  rw[this];simp only[oS]
  rw[ZMv]
  exact⟨W6,r',rfl,h1,by simp[ZAO]⟩
def row (T G:Nat):Nat:=Nat.mod (Nat.div T (Nat.pow 1024 (Nat.mul 64 (Nat.add (Nat.mul 3 (Nat.mod G 64)) (Nat.mod (Nat.sub 3 (Nat.mod (Nat.xor G (Nat.div G 64)) 3)) 3))))) (Nat.pow 1024 64)
def gl (a:Nat):Int:=if((a^^^ (a/64))%8)=3 then -1 else if(a^^^ (a/64))%8<2 then 0 else 1
def ZBH (code:List Int):Prop:=code.length<=maxLen/\∀x,x∈code->0<=x/\x<=255
theorem ZDU {code:List Int}(h:ZBH code)(hl:code.length<=2000):rok 0 ⟨code,0⟩:=⟨hl,h.2,xT 0,xT 0⟩
theorem ZE6 {code:List Int}(h:ZBH code):rok 0 ⟨(code.drop 0).take (2000-0),0⟩:=⟨by simp;omega,fun x hx=>h.2 x (yW (yJ hx)),xT 0,xT 0⟩
theorem ZDC {w:List Data}(h:w∈ZAO):ZBO w:=by
 simp only[ZAO,yL,xL,or_false]at h
 rcases h with rfl|rfl|rfl|rfl|rfl|rfl|rfl<;>exact ZJ6 (by decide)
def tIx (w:List Data)(t:Ty):Prop:=t.data= -1∨(0<=t.data/\t.data<w.length/\0<=t.index/\t.index<=3)
theorem tIx.tOk {w:List Data}{t:Ty}(h:tIx w t):tOk w t:=h.imp id fun h=>⟨h.1,h.2.1⟩
def ZCA (T:List Int)(t:Ty):Int:=if t.data= -1 then 1 else T.getD (t.data*4+t.index).toNat 0
def ZB2 (T:List Int):Int->List Ty->Int
 |m,[]=>m+1
 |m,a::r=>if ZCA T a=0 then 0 else ZB2 T (if m<ZCA T a then ZCA T a else m) r
def ZCu (w:List Data)(T:List Int)(t:Ty)(c:Int):Int:=ZB2 T 0 (ZQ w t c)
def ZRP (i:Int)(c:Ctor):Bool:=decide (i=0)||decide (c.index=0)||decide (c.index=i)
def ZPG (w:List Data)(T:List Int):Bool:=decide (T.length=w.length*4)&& T.all (fun x=>decide (0<=x)&& decide (x<=2))&&
 (xJ w.length).all fun d=>(xJ 4).all fun i=>decide (T.getD (d*4+i) 0=0)||
  (xJ (w.getD d Data.z).ctors.length).any fun k=>ZRP i ((w.getD d Data.z).ctors.getD k Ctor.z)&& decide (ZCu w T ⟨d,i⟩ k=T.getD (d*4+i) 0)
theorem ZMZ {i:Int}{c:Ctor}(h:ZRP i c=true):ZO6 i c:=by
 simp only[ZRP,vE,decide_eq_true_eq]at h
 rcases h with(h|h)|h
 ·exact .inl h
 ·exact .inr (.inl h)
 ·exact .inr (.inr h)
theorem ZJ7 {i:Int}:∀{k:Nat} {l:List Ctor} {j:Nat} (hj:j<l.length),ZO6 i l[j]->((k+j:Nat):Int)∈ZID i k l
 |k,c::r,0,hj,h=>by simp only[ZID];rw[iP (ZI (show ZO6 i c from h))];exact xH _ (by simp)
 |k,c::r,j+1,hj,h=>by
  simp only[ZID]
  refine xF _ ?_
  have:=ZJ7 (k:=k+1) (l:=r) (j:=j) (by simpa using hj) h
  have e:k+1+j=k+(j+1):=by omega
  rwa[e]at this
structure TOk (w:List Data)(T:List Int):Prop where
 wok:ZS w
 len:T.length=w.length*4
 rng:∀k,0<=T.getD k 0/\T.getD k 0<=2
 has:∀t,tIx w t->t.data≠-1->ZCA T t≠0->∃c,c∈ZP w t/\ZCu w T t c=ZCA T t
theorem TOk.of {w:List Data}{T:List Int}(hw:ZS w)(h:ZPG w T=true):TOk w T:=by
 simp only[ZPG,vD,decide_eq_true_eq]at h
 obtain⟨⟨h1,h2⟩,h3⟩:=h
 refine⟨hw,h1,fun k=> ?_,fun t ht hn hd=> ?_⟩
 ·by_cases hk:k<T.length
  ·rw[zX,gQ hk]
   have:=yZ.1 h2 _ (gM hk)
   simpa using this
  ·rw[zX,List.getElem?_eq_none (by omega)];simp
 ·obtain⟨q1,q2,q3,q4⟩:=ht.resolve_left hn
  have a1:=yZ.1 h3 t.data.toNat (by simp;omega)
  have a2:=yZ.1 a1 t.index.toNat (by simp;omega)
  simp only[vE,decide_eq_true_eq]at a2
  have e:(t.data*4+t.index).toNat=t.data.toNat*4+t.index.toNat:=by omega
  have ed:ZCA T t=T.getD (t.data.toNat*4+t.index.toNat) 0:=by unfold ZCA;rw[iN hn,e]
  have a3:=a2.resolve_left (by rw[←ed];exact hd)
  obtain⟨k,hk,hkk⟩:=List.any_eq_true.1 a3
  simp only[vD,decide_eq_true_eq]at hkk
  have et:(⟨(t.data.toNat:Int),(t.index.toNat:Int)⟩:Ty)=t:=by
   obtain⟨d,i⟩:=t
   simp only at q1 q3 ⊢
   rw[xS q1,xS q3]
  rw[et]at hkk
  have hk':k<(Zu w t).ctors.length:=by simpa[Zu]using hk
  refine⟨(k:Int),?_,by rw[hkk.2,ed]⟩
  unfold ZP
  rw[iN hn]
  have hf:=ZMZ hkk.1
  rw[xS q3]at hf
  have hg:(w.getD t.data.toNat Data.z).ctors.getD k Ctor.z=(Zu w t).ctors[k]:=by
   unfold Zu at hk' ⊢
   rw[zX,gQ hk'];rfl
  rw[hg]at hf
  have:=ZJ7 (k:=0) hk' hf
  rwa[Nat.zero_add]at this
theorem TOk.dep {w:List Data}{T:List Int}(h:TOk w T)(t:Ty):0<=ZCA T t/\ZCA T t<=2:=by
 unfold ZCA;split
 ·omega
 ·exact h.rng _
theorem P.YI {w:List Data}{T:List Int}(h:TOk w T){t:Ty}(ht:tIx w t):F.f47 T t=some (ZCA T t):=by
 unfold F.f47 F.f46 ZCA
 by_cases hn:t.data= -1
 ·rw[iP hn,iP hn]
 ·obtain⟨q1,q2,q3,q4⟩:=ht.resolve_left hn
  have hw:=h.wok.1
  rw[iN hn,iN hn,ZF (n:=t.data*4) (by omega) (by omega),ZF (by omega) (by omega)]
  simp only[oE,oS]
  have hl:(t.data*4+t.index).toNat<T.length:=by rw[h.len];omega
  unfold at?
  rw[iP (by omega),gQ hl,zX,gQ hl]
  rfl
theorem ZLO {w:List Data}(hw:ZS w){t:Ty}(ht:tIx w t){c:Int}(h:c∈ZP w t):∀a,a∈ZQ w t c->tIx w a:=by
 have hc:=(Zr hw ht.tOk (ZY h).1).2 _ (ZC5 h).2
 have hn:=(ZY h).1
 intro a ha
 obtain⟨b,hb,rfl⟩:=yF.1 ha
 obtain⟨j,hj,rfl⟩:=zV hb
 have:=hc.2.2.2.2 j (by omega) hj
 obtain⟨q1,q2,q3,q4⟩:=ht.resolve_left hn
 unfold ZHu
 rcases this with⟨p1,p2⟩|⟨p1,p2,p3,p4⟩
 ·rw[iN (by omega)];exact .inl p1
 ·split
  ·next e=>
   refine .inr ⟨p1,p2,?_,?_⟩
   ·show 0<=(if(ZAF w t c).index=0 then t.index else(ZAF w t c).index)
    split
    ·exact q3
    ·exact hc.2.2.1
   ·show(if(ZAF w t c).index=0 then t.index else(ZAF w t c).index)<=3
    split
    ·exact q4
    ·exact hc.2.2.2.1
  ·next e=>exact .inr ⟨p1,p2,by omega,p4⟩
theorem ZFK {w:List Data}{T:List Int}(h:TOk w T):∀(l:List Ty) (m:Int),0<=m->m<=2->0<=ZB2 T m l/\ZB2 T m l<=3/\(ZB2 T m l≠0->m+1<=ZB2 T m l/\∀a,a∈l->ZCA T a≠0/\ZCA T a+1<=ZB2 T m l)
 | [],m,h0,h2=>⟨by simp only[ZB2];omega,by simp only[ZB2];omega,fun _=>⟨by simp only[ZB2];omega,fun a ha=>by cases ha⟩⟩
 |a::r,m,h0,h2=>by
  have hd:=h.dep a
  simp only[ZB2]
  by_cases ha:ZCA T a=0
  ·rw[iP ha];exact⟨by omega,by omega,fun h=>absurd rfl h⟩
  ·rw[iN ha]
   have hm:∃m',(if m<ZCA T a then ZCA T a else m)=m'/\0<=m'/\m'<=2/\m<=m'/\ZCA T a<=m':=by
    split
    ·exact⟨_,rfl,by omega,by omega,by omega,by omega⟩
    ·exact⟨_,rfl,by omega,by omega,by omega,by omega⟩
   obtain⟨m',e,k0,k2,k3,k4⟩:=hm
   rw[e]
   obtain⟨i1,i2,i3⟩:=ZFK h r m' k0 k2
   refine⟨i1,i2,fun hne=> ?_⟩
   obtain⟨j1,j2⟩:=i3 hne
   refine⟨by omega,fun b hb=> ?_⟩
   rcases yL.1 hb with rfl|hb
   ·exact⟨ha,by omega⟩
   ·exact j2 b hb
def mR (n:Int):Lo Int Int:=if n=0 then .ret 0 else .go (n-1)
theorem P.Yf {w:List Data}{T:List Int}(h:TOk w T)(l:List Ty)(hl:∀a,a∈l->tIx w a):∀(n k:Nat) (m:Int),l.length-k=n->0<=m->m<=2->
  kI T l m k=some (mR (ZB2 T m (l.drop k))):=by
 intro n
 induction n with
 |zero=>
  intro k m hn h0 h2
  rw[kI,iN (by omega),zW (by omega)]
  show some (Lo.go m)=some (mR (m+1))
  unfold mR
  rw[iN (by omega)];congr 2;omega
 |succ n ih=>
  intro k m hn h0 h2
  have hk:k<l.length:=by omega
  have hd:=h.dep l[k]
  rw[kI,iP hk,gQ hk]
  simp only[oE,oS]
  rw[P.YI h (hl _ (gM hk)),zR hk]
  simp only[oS,ZB2]
  by_cases ha:ZCA T l[k]=0
  ·rw[iP ha,iP ha];rfl
  ·rw[iN ha,iN ha]
   by_cases hm:m<ZCA T l[k]
   ·rw[iP hm,iP hm,ih _ _ (by omega) (by omega) (by omega)]
   ·rw[iN hm,iN hm,ih _ _ (by omega) (by omega) (by omega)]
theorem P.YAE {w:List Data}{T:List Int}(h:TOk w T){t:Ty}(ht:tIx w t){c:Int}(hc:c∈ZP w t):F.f49 w T t c=some (ZCu w T t c):=by
 unfold F.f49
 rw[P.YB w h.wok t ht.tOk c hc]
 simp only[oE,oS]
 rw[P.Yf h _ (ZLO h.wok ht hc) _ 0 0 rfl (by omega) (by omega),zU]
 simp only[oS]
 have:=ZFK h (ZQ w t c) 0 (by omega) (by omega)
 unfold ZCu
 unfold mR
 by_cases h0:ZB2 T 0 (ZQ w t c)=0
 ·rw[iP h0,h0]
 ·rw[iN h0]
  show some (i64.wrap (ZB2 T 0 (ZQ w t c) -1+1))=_
  rw[ZF (by omega) (by omega)];congr 1;omega
def ZC0 (w:List Data)(T:List Int)(t:Ty)(depth:Int)(c:Int):Bool:=decide (0<ZCu w T t c)&& (decide (ZCu w T t c<=depth)||decide (ZCu w T t c=ZCA T t))
theorem P.Ye {w:List Data}{T:List Int}(h:TOk w T){t:Ty}(ht:tIx w t)(r:ZB)(depth:Int)(l:List Int)(hl:∀c,c∈l->c∈ZP w t)(h8:l.length<=4):∀(n k:Nat) (out:List Int),l.length-k=n->out.length<=k->
  vR r w T t depth l out k=some (out++(l.drop k).filter (ZC0 w T t depth)):=by
 intro n
 induction n with
 |zero=>intro k out hn ho;rw[vR,iN (by omega),zW (by omega)];simp
 |succ n ih=>
  intro k out hn ho
  have hk:k<l.length:=by omega
  rw[vR,iP hk,gQ hk]
  simp only[oE,oS]
  rw[P.YAE h ht (hl _ (gM hk)),zR hk,P.YI h ht]
  simp only[oS]
  have yes:ZC0 w T t depth l[k]=true->vR r w T t depth l (out++[l[k]]) (k+1)=some (out++(l[k]::l.drop (k+1)).filter (ZC0 w T t depth)):=fun hf=>by
   rw[ih (k+1) _ (by omega) (by simp;omega),List.filter_cons_of_pos hf];simp
  have no:ZC0 w T t depth l[k]=false->vR r w T t depth l out (k+1)=some (out++(l[k]::l.drop (k+1)).filter (ZC0 w T t depth)):=fun hf=>by
   rw[ih (k+1) _ (by omega) (by omega),List.filter_cons_of_neg (by simp[hf])]
  by_cases h1:0<ZCu w T t l[k]
  ·rw[iP h1]
   by_cases h2:ZCu w T t l[k]<=depth
   ·rw[iP h2,iP (by omega)];exact yes (by simp[ZC0,h1,h2])
   ·rw[iN h2]
    by_cases h3:ZCu w T t l[k]=ZCA T t
    ·rw[iP h3,iP (by omega)];exact yes (by simp only[ZC0,h1,h3];simp[←h3,h1])
    ·rw[iN h3];exact no (by simp[ZC0,h2,h3])
  ·rw[iN h1];exact no (by simp[ZC0,h1])
theorem ZJ8 {w:List Data}(hw:ZS w){t:Ty}(ht:tOk w t):(ZP w t).length<=4:=by
 unfold ZP
 split
 ·simp
 ·next hn=>exact zH (ZE3 _ _ _) (Zr hw ht hn).1
theorem ZPC (c n:Int)(ks:List Value):(⟨c,n,ks⟩:Value).wt=((ks.map fun k=>1+k.wt).sum):=by
 have:=ZNS ⟨c,n,ks⟩
 simpa using this
theorem P.YAe {w:List Data}{T:List Int}(h:TOk w T):∀(n:Nat) (t:Ty) (depth:Int) (K:Nat) (r:ZB),tIx w t->ZCA T t≠0->ZCA T t<=n->depth<=n->-1000000+n<=depth->n<=12->rok K r->K+4^n<=1099511627776->
  ∃v r',uM r w T t depth=some (v,r')/\rok (K+4^n) r'/\pv w false n t v/\v.wt+1<=4^n/\(t.data≠-1->∀a,a∈ZQ w t v.ctor->ZCA T a≠0)
 |0,t,depth,K,r,ht,hd,hdn,_,_,_,_,_=>by have:=h.dep t;omega
 |n+1,t,depth,K,r,ht,hd,hdn,hde,hlo,h12,hr,hK=>by
  have p4:1<=4^n:=Nat.one_le_pow _ _ (by omega)
  have p4':4^ (n+1)=4*4^n:=by rw[zD];omega
  rw[uM]
  by_cases hn:t.data= -1
  ·rw[iP hn]
   obtain⟨v,r',e,h1,h2,h3,_⟩:=P.YK hr (by omega) 10
   have h3:=h3 (by omega)
   rw[e]
   refine⟨_,_,rfl,h1.mono (by omega),?_,?_,fun h=>absurd hn h⟩
   ·exact .inr ⟨by simp,.inl ⟨hn,rfl,h2,by show v<=9;omega,rfl⟩⟩
   ·rw[ZPC];simp;omega
  ·rw[iN hn,P.YJ w h.wok t ht.tOk]
   simp only[oE,oS]
   rw[P.Ye h ht r depth _ (fun c hc=>hc) (ZJ8 h.wok ht.tOk) _ 0 [] rfl (by simp),zU,yM]
   simp only[oS]
   obtain⟨c0,hc0,hm0⟩:=h.has t ht hn hd
   have hdt:=h.dep t
   have hf0:c0∈(ZP w t).filter (ZC0 w T t depth):=xN.2 ⟨hc0,by simp only[ZC0,hm0];simp;omega⟩
   have hpos:=List.length_pos_of_mem hf0
   obtain⟨v,r1,e,h1,h2,h3,_⟩:=P.YK hr (by omega) (((ZP w t).filter (ZC0 w T t depth)).length:Int)
   obtain⟨c,hcx,hcm⟩:=ZEs h2 (h3 (by omega))
   rw[e];simp only[oS]
   rw[hcx];simp only[oS]
   obtain⟨hcl,hcf⟩:=xN.1 hcm
   simp only[ZC0,vD,vE,decide_eq_true_eq]at hcf
   rw[P.YB w h.wok t ht.tOk c hcl]
   simp only[oS]
   obtain⟨g1,g2,g3⟩:=ZFK h (ZQ w t c) 0 (by omega) (by omega)
   have g3:=g3 (by unfold ZCu at hcf;omega)
   have hal:=(ZHt h.wok ht.tOk hcl).1
   have hax:=ZLO h.wok ht hcl
   have hmn:ZCu w T t c<=(n:Int)+1:=by rcases hcf.2 with q|q<;>omega
   have kid:∀a,a∈ZQ w t c->∀K r,rok K r->K+4^n<=1099511627776->∃v r',uM r w T a (i64.wrap (depth-1))=some (v,r')/\rok (K+4^n) r'/\pv w false n a v/\v.wt+1<=4^n:=by
    intro a ha K r hr hK
    rw[ZF (by omega) (by omega)]
    obtain⟨q1,q2⟩:=g3.2 a ha
    obtain⟨v,r',e,k1,k2,k3,_⟩:=P.YAe h n a (depth-1) K r (hax a ha) q1 (by unfold ZCu at hmn;omega) (by omega) (by omega) (by omega) hr hK
    exact⟨v,r',e,k1,k2,k3⟩
   have loop:∀(m k:Nat) (z:List Int) (z33:Int) (out:List Value) (K:Nat),(ZQ w t c).length-k=m->out.length=k->rok K ⟨z,z33⟩->K+m*4^n<=1099511627776->
     (∀i (hi:i<out.length) (hi':i<(ZQ w t c).length),pv w false n (ZQ w t c)[i] out[i])->((out.map fun k=>1+k.wt).sum)<=k*4^n->k<=(ZQ w t c).length->
     ∃z' z33' out',kH w T depth c (ZQ w t c) z z33 out k=some (z',z33',out')/\rok (K+m*4^n) ⟨z',z33'⟩/\out'.length=(ZQ w t c).length/\
      (∀i (hi:i<out'.length) (hi':i<(ZQ w t c).length),pv w false n (ZQ w t c)[i] out'[i])/\((out'.map fun k=>1+k.wt).sum)<=(ZQ w t c).length*4^n:=by
    intro m
    induction m with
    |zero=>
     intro k z z33 out K hm ho hr hK hp hs hk
     rw[kH,iN (by omega)]
     have:k=(ZQ w t c).length:=by omega
     subst this
     exact⟨z,z33,out,rfl,by simpa using hr,ho,hp,hs⟩
    |succ m ih=>
     intro k z z33 out K hm ho hr hK hp hs hkl
     have hk:k<(ZQ w t c).length:=by omega
     rw[kH,iP hk,gQ hk]
     simp only[oE,oS]
     have e1:(m+1)*4^n=m*4^n+4^n:=by rw[zK]
     obtain⟨v,r',e,k1,k2,k3⟩:=kid _ (gM hk) K ⟨z,z33⟩ hr (by omega)
     rw[e];simp only[oS]
     rw[iP (by omega)]
     have e2:(k+1)*4^n=k*4^n+4^n:=by rw[zK]
     have key:=fun p1 p2=>ih (k+1) r'.f0 r'.f1 (out++[v]) (K+4^n) (by omega) (by simp[ho]) k1 (by omega) p1 p2 hk
     obtain⟨z',z33',out',q1,q2,q3⟩:=key (by
      intro i hi hi'
      by_cases hik:i<out.length
      ·rw[yA hik];exact hp i hik hi'
      ·have:i=k:=by simp at hi;omega
       subst this
       rw[yC (by omega)]
       simpa using k2) (by
      simp only[yP,yU,zY,yY,yB,xC];omega)
     exact⟨z',z33',out',q1,q2.mono (by omega),q3⟩
   have m3:(ZQ w t c).length*4^n<=3*4^n:=zI _ hal
   obtain⟨z',z33',out',q1,q2,q3,q4,q5⟩:=loop _ 0 r1.f0 r1.f1 [] (K+1) rfl rfl h1 (by simp only[zE];omega) (fun i hi=>by simp at hi) (by simp) (by omega)
   rw[q1];simp only[oS]
   refine⟨_,_,rfl,q2.mono (by simp only[zE];omega),?_,?_,fun _ a ha=>(g3.2 a ha).1⟩
   ·refine .inr ⟨by simp,.inr ⟨hn,rfl,hcl,q3,fun i _ _ hi hi'=>q4 i hi' hi⟩⟩
   ·rw[ZPC];omega
theorem P.YAt {w:List Data}{T:List Int}(h:TOk w T)(n:Nat)(t:Ty)(depth:Int)(K:Nat)(r:ZB)(a1:tIx w t)(a2:ZCA T t≠0)(a3:ZCA T t<=n)(a4:depth<=n)(a5: -1000000+n<=depth)(a6:n<=12)(a7:rok K r)(a8:K+4^n<=1099511627776):
  ∃v r',uM r w T t depth=some (v,r')/\rok (K+4^n) r'/\pv w false n t v/\v.wt+1<=4^n:=by
 obtain⟨v,r',e,k1,k2,k3,_⟩:=P.YAe h n t depth K r a1 a2 a3 a4 a5 a6 a7 a8
 exact⟨v,r',e,k1,k2,k3⟩
theorem ZLk {w:List Data}(hw:w∈ZAO):ZS w/\1<=w.length/\w.length<=2/\ZBO w/\∃T,vH w=some T/\TOk w T:=by
 have hs:=ZDC hw
 have wok:kK w=some true->ZS w:=fun h=>by rw[P.YQ w hs]at h;exact ZDy.1 (zA h)
 simp only[ZAO,yL,xL,or_false]at hw
 rcases hw with rfl|rfl|rfl|rfl|rfl|rfl|rfl
 ·have:=wok (kO 100 _ _ (by kernel_rfl));exact⟨this,by decide,by decide,hs,_,ZM6,TOk.of this (by decide)⟩
 ·have:=wok (kO 100 _ _ (by kernel_rfl));exact⟨this,by decide,by decide,hs,_,ZM4,TOk.of this (by decide)⟩
 ·have:=wok (kO 100 _ _ (by kernel_rfl));exact⟨this,by decide,by decide,hs,_,ZM2,TOk.of this (by decide)⟩
 ·have:=wok (kO 100 _ _ (by kernel_rfl));exact⟨this,by decide,by decide,hs,_,ZM0,TOk.of this (by decide)⟩
 ·have:=wok (kO 100 _ _ (by kernel_rfl));exact⟨this,by decide,by decide,hs,_,ZMy,TOk.of this (by decide)⟩
 ·have:=wok (kO 100 _ _ (by kernel_rfl));exact⟨this,by decide,by decide,hs,_,ZMw,TOk.of this (by decide)⟩
 ·have:=wok (kO 100 _ _ (by kernel_rfl));exact⟨this,by decide,by decide,hs,_,ZMu,TOk.of this (by decide)⟩
theorem P.YAs {K:Nat}{r:ZB}(h:rok K r)(hK:K+300<=1099511627776):∃w t v r' T,F.f58 r=some (w,t,v,r')/\rok (K+300) r'/\w∈ZAO/\vH w=some T/\TOk w T/\tIx w t/\t.index<=2/\0<=t.index/\ZCA T t≠0/\pv w false 4 t v/\v.wt+1<=256/\(t.data= -1->t.index=0):=by
 unfold F.f58
 obtain⟨w,r1,e1,h1,hw⟩:=P.YA4 h (by omega)
 obtain⟨hwo,hl1,hl2,hs,T,hT,hTo⟩:=ZLk hw
 obtain⟨p,r2,e2,h2,p0,p1,_⟩:=P.YK h1 (by omega) (w.length:Int)
 obtain⟨i,r3,e3,h3,hi⟩:=P.num h2 (by omega) [0,0,1,2] (by simp)
 obtain⟨d,r4,e4,h4,hd⟩:=P.num h3 (by omega) [3,2,4,1] (by simp)
 have hi:0<=i/\i<=2:=by simp at hi;omega
 have hd:1<=d/\d<=4:=by simp at hd;omega
 have p1:=p1 (by omega)
 have ht:tIx w ⟨p,i⟩:=.inr ⟨p0,p1,hi.1,by show i<=3;omega⟩
 rw[e1];simp only[oE,oS]
 rw[hT];simp only[oS]
 rw[e2];simp only[oS]
 rw[e3];simp only[oS]
 rw[P.YI hTo ht,e4];simp only[oS]
 split
 ·obtain⟨v,r',e,k1,k2,k3⟩:=P.YAt hTo 4 ⟨-1,0⟩ d _ r4 (.inl rfl) (by simp[ZCA]) (by simp[ZCA]) (by omega) (by omega) (by omega) h4 (by omega)
  rw[e]
  exact⟨w,⟨-1,0⟩,v,r',T,rfl,k1.mono (by omega),hw,hT,hTo,.inl rfl,by simp,by simp,by simp[ZCA],k2,k3,fun _=>rfl⟩
 ·next hne=>
  have:=hTo.dep ⟨p,i⟩
  obtain⟨v,r',e,k1,k2,k3⟩:=P.YAt hTo 4 ⟨p,i⟩ d _ r4 ht hne (by omega) (by omega) (by omega) (by omega) h4 (by omega)
  rw[e]
  exact⟨w,⟨p,i⟩,v,r',T,rfl,k1.mono (by omega),hw,hT,hTo,ht,hi.2,hi.1,hne,k2,k3,fun hh=>by have:p= -1:=hh;omega⟩
theorem ZBY {a b:ByteArray}(h:a.data.toList=b.data.toList):a=b:=by
 obtain⟨x⟩:=a
 obtain⟨y⟩:=b
 congr 1
 exact Array.toList_inj.1 h
theorem ZBK (a b:ByteArray):(a++b).data.toList=a.data.toList++b.data.toList:=by rw[vC,Array.toList_append]
theorem ZC3 (a:ByteArray):a.size=a.data.toList.length:=by rw[Array.length_toList];rfl
theorem ZU (a b:ByteArray):(a++b).size=a.size+b.size:=by rw[ZC3,ZBK,yH,←ZC3,←ZC3]
theorem Zt (a b c:ByteArray):a++b++c=a++(b++c):=ZBY (by simp[ZBK])
theorem ZD6 (a:ByteArray):a++xZ=a:=ZBY (by simp[ZBK])
theorem ZNI (a:ByteArray):xZ++a=a:=ZBY (by simp[ZBK])
theorem ZNU (n:Int):IntKind.u8.wrap n=n%256:=rfl
theorem ZFi (n:Int):i64.wrap n%256=n%256:=by
 have:i64.wrap n=n%18446744073709551616∨i64.wrap n=n%18446744073709551616-18446744073709551616:=by
  unfold IntKind.wrap
  simp only
  split
  ·exact .inr rfl
  ·exact .inl rfl
 rcases this with e|e<;>omega
theorem ZOd {a b:List Int}{L:Nat->Option (Lo Bool Unit)}(hl:a.length=b.length)(hL:∀i,L i=if i<a.length then a[i]? >>=fun x=>b[i]? >>=fun y=>if x=y then L (i+1)else some (.ret false)else some (.go ())):
  L 0=some (if dec (a=b)=true then .go ()else .ret false):=by
 rw[ZIi (n:=a.length) (r:=false) (Q:=fun i=>∀(h:i<a.length) (h':i<b.length),a[i]=b[i]) (L:=L)
  (fun k hk=>by rw[hL,iN (by omega)])
  (fun k hk hq=>by
   rw[hL,iP hk,gQ hk,gQ (show k<b.length by omega)]
   simp only[oE,oS]
   rw[iP (hq hk (by omega))])
  (fun k hk hq=>by
   rw[hL,iP hk,gQ hk,gQ (show k<b.length by omega)]
   simp only[oE,oS]
   rw[iN fun h=>hq fun _ _=>h]) _ 0 rfl]
 have:(∀j,0<=j->j<a.length->∀(h:j<a.length) (h':j<b.length),a[j]=b[j])↔a=b:=
  ⟨fun h=>yS hl fun i hi hi'=>h i (by omega) hi hi hi',fun e=>by subst e;exact fun _ _ _ _ _=>rfl⟩
 rw[ZV this]
theorem P.YH (a b:List Int):F.f160 a b=some (dec (a=b)):=by
 unfold F.f160
 by_cases hl:a.length=b.length
 ·rw[iP hl,ZOd hl (L:=F.f159 a b) (fun i=>by rw[F.f159])]
  by_cases h:a=b
  ·rw[iP (ZI h),ZI h];rfl
  ·rw[iN (by rw[ZG h];simp),ZG h];rfl
 ·rw[iN hl,ZG fun h=>hl (by rw[h])]
noncomputable def ZEM (l:List VarType)(n:Int):Int:=match ZGK (fun x=>x.var=n) 0 l with
 |some j=>(j:Int)
 |none=> -1
theorem P.YN (l:List VarType)(n:Int):kE l n=some (ZEM l n):=by
 unfold kE ZEM
 rw[ZRQ (a:=l) (p:=fun x=>x.var=n) (L:=uF l n) (fun k hk=>by rw[uF,iN (by omega)])
  (fun k hk hp=>by rw[uF,iP hk,gQ hk];simp only[oE,oS];rw[iN hp])
  (fun k hk hp=>by rw[uF,iP hk,gQ hk];simp only[oE,oS];rw[iP hp]) _ 0 rfl,zU]
 cases ZGK (fun x=>x.var=n) 0 l<;>rfl
theorem ZB7 (l:List VarType)(n:Int):ZEM l n= -1∨∃(j:Nat) (h:j<l.length),ZEM l n=(j:Int)/\l[j].var=n/\∀i (hi:i<l.length),i<j->l[i].var≠n:=by
 unfold ZEM
 cases h:ZGK (fun x:VarType=>x.var=n) 0 l with
 |none=>exact .inl rfl
 |some j=>
  obtain⟨_,h2,h3,h4⟩:=ZCa h
  exact .inr ⟨j,h2,rfl,h3,h4⟩
theorem ZEk (l:List VarType)(j:Nat)(hj:j<l.length):ZEM l l[j].var=(j:Int)↔∀i (hi:i<l.length),i<j->l[i].var≠l[j].var:=by
 constructor
 ·intro h
  rcases ZB7 l l[j].var with q|⟨k,hk,q1,q2,q3⟩
  ·omega
  ·have:k=j:=by omega
   subst this;exact q3
 ·intro h
  unfold ZEM
  cases hf:ZGK (fun x:VarType=>x.var=l[j].var) 0 l with
  |none=>exact absurd rfl (ZCb hf l[j] (gM hj))
  |some k=>
   obtain⟨_,h2,h3,h4⟩:=ZCa hf
   show(k:Int)=j
   have:¬k<j:=fun hlt=>h k h2 hlt h3
   have:¬j<k:=fun hlt=>h4 j hj (by omega) rfl
   omega
theorem ZBj {w:List Data}(hw:ZS w){t:Ty}(ht:Za w t){c:Int}(h:c∈ZP w t):∀a,a∈ZQ w t c->Za w a:=by
 have hc:=(Zr hw (ZAP ht.1) (ZY h).1).2 _ (ZC5 h).2
 have hn:=(ZY h).1
 intro a ha
 obtain⟨b,hb,rfl⟩:=yF.1 ha
 obtain⟨j,hj,rfl⟩:=zV hb
 have:=hc.2.2.2.2 j (by omega) hj
 have ht2:=ht.2
 rcases ht.1 with q|⟨q1,q2,q3,q4⟩
 ·exact absurd q.1 hn
 unfold ZHu
 rcases this with⟨p1,p2⟩|⟨p1,p2,p3,p4⟩
 ·rw[iN (by omega)];exact⟨.inl ⟨p1,p2⟩,by omega⟩
 ·split
  ·next e=>
   have hx:0<=(if(ZAF w t c).index=0 then t.index else(ZAF w t c).index)/\(if(ZAF w t c).index=0 then t.index else(ZAF w t c).index)<=3:=by
    split
    ·exact⟨ht2,q4⟩
    ·exact⟨hc.2.2.1,hc.2.2.2.1⟩
   exact⟨.inr ⟨p1,p2,by show -1<=(if(ZAF w t c).index=0 then t.index else(ZAF w t c).index);omega,hx.2⟩,hx.1⟩
  ·next e=>exact⟨.inr ⟨p1,p2,p3,p4⟩,by omega⟩
def ZEb (w:List Data)(t:Ty)(p:Pattern):Prop:=
 (p.op=1/\p.var=0/\p.n=0/\p.m=0/\p.ctor=0)∨
 (p.op=2/\0<=p.var/\p.var<=5/\p.n=0/\p.m=0/\p.ctor=0)∨
 (p.op=3/\p.var=0/\p.ctor=0/\t.data= -1/\0<=p.n/\p.n<=p.m/\p.m<=9)∨
 (p.op=4/\p.var=0/\p.n=0/\p.m=0/\p.ctor∈ZP w t)∨
 (p.op=5/\p.var=0/\p.n=0/\p.m=0/\p.ctor=0)∨
 (p.op=6/\0<=p.var/\p.var<=5/\p.n=0/\p.m=0/\p.ctor=0)
noncomputable def ZM (w:List Data)(t:Ty)(p:Pattern):List Ty:=if p.op=4 then ZQ w t p.ctor else if p.op=5 then[t,t]else if p.op=6 then[t]else[]
theorem P.YAR (w:List Data)(hw:ZS w)(t:Ty)(ht:tOk w t)(p:Pattern):F.f66 w t p=some (dec (ZEb w t p)):=by
 unfold F.f66
 rw[P.YJ w hw t ht]
 simp only[oE,oS,P.YAS]
 have yes:ZEb w t p->some true=some (dec (ZEb w t p)):=fun h=>by rw[ZI h]
 have no:¬ZEb w t p->some false=some (dec (ZEb w t p)):=fun h=>by rw[ZG h]
 repeat' split
 all_goals first
  |(refine no fun h=> ?_;unfold ZEb at h;omega)
  |(refine yes ?_;unfold ZEb;omega)
  |skip
 ·rw[←ZAo];congr 1;refine ZV ?_;unfold ZEb;omega
 ·congr 1;refine ZV ⟨fun h=>.inr (.inr (.inr (.inl ⟨by assumption,by assumption,by assumption,by assumption,h⟩))),fun h=> ?_⟩
  unfold ZEb at h
  rcases h with h|h|h|h|h|h
  ·omega
  ·omega
  ·omega
  ·exact h.2.2.2.2
  ·omega
  ·omega
theorem P.YO (w:List Data)(hw:ZS w)(t:Ty)(ht:tOk w t)(p:Pattern)(h:ZEb w t p):F.f69 w t p=some (ZM w t p):=by
 unfold F.f69 ZM
 by_cases h4:p.op=4
 ·rw[iP h4,iP h4]
  have hc:p.ctor∈ZP w t:=by
   unfold ZEb at h
   rcases h with h|h|h|h|h|h
   ·omega
   ·omega
   ·omega
   ·exact h.2.2.2.2
   ·omega
   ·omega
  rw[P.YB w hw t ht _ hc];rfl
 ·rw[iN h4,iN h4]
  have k:F.f67 p.op=some (if p.op=5 then 2 else if p.op=6 then 1 else 0):=by
   unfold F.f67;split
   ·rfl
   ·split
    ·rfl
    ·rfl
  by_cases h5:p.op=5
  ·rw[iP h5]
   rw[iP h5]at k
   rw[vN,k]
   simp only[oE,oS]
   rw[iP (by omega),iP (by simp),iP (by omega),vN,k]
   simp only[oE,oS]
   rw[iP (by omega),iP (by simp),iP (by omega),vN,k]
   simp only[oE,oS]
   rw[iN (by omega)];simp
  ·rw[iN h5]
   rw[iN h5]at k
   by_cases h6:p.op=6
   ·rw[iP h6]
    rw[iP h6]at k
    rw[vN,k]
    simp only[oE,oS]
    rw[iP (by omega),iP (by simp),iP (by omega),vN,k]
    simp only[oE,oS]
    rw[iN (by omega)];simp
   ·rw[iN h6]
    rw[iN h6]at k
    rw[vN,k]
    simp only[oE,oS]
    rw[iN (by omega)];simp
theorem ZBh {w:List Data}(hw:ZS w){t:Ty}(ht:Za w t){p:Pattern}(h:ZEb w t p):∀a,a∈ZM w t p->Za w a:=by
 unfold ZM
 intro a ha
 split at ha
 ·next h4=>
  have hc:p.ctor∈ZP w t:=by
   unfold ZEb at h
   rcases h with h|h|h|h|h|h
   ·omega
   ·omega
   ·omega
   ·exact h.2.2.2.2
   ·omega
   ·omega
  exact ZBj hw ht hc a ha
 ·split at ha
  ·simp at ha;subst ha;exact ht
  ·split at ha
   ·simp at ha;subst ha;exact ht
   ·cases ha
def ZAd (w:List Data):Nat->Ty->Pattern->Prop
 |0,_,_=>False
 |d+1,t,p=>ZEb w t p/\p.kids.length=(ZM w t p).length/\∀i,0<=i->i<(ZM w t p).length->∀(h:i<(ZM w t p).length) (h':i<p.kids.length),ZAd w d (ZM w t p)[i] p.kids[i]
theorem P.YP (w:List Data)(hw:ZS w):∀(d:Nat) (t:Ty) (p:Pattern),Za w t->d<=10->uJ w t p d=some (dec (ZAd w d t p))
 |0,t,p,ht,hd=>by rw[uJ,iP (by omega),ZG (by simp[ZAd])]
 |d+1,t,p,ht,hd=>by
  rw[uJ,iN (by omega),P.YAR w hw t (ZAP ht.1)]
  simp only[oE,oS]
  by_cases ho:ZEb w t p
  ·rw[iP (ZI ho),P.YO w hw t (ZAP ht.1) p ho]
   simp only[oS]
   have hts:=ZBh hw ht ho
   by_cases h4:p.kids.length=(ZM w t p).length
   ·rw[iP h4,ZIi (n:=(ZM w t p).length) (r:=false) (Q:=fun i=>∀(h:i<(ZM w t p).length) (h':i<p.kids.length),ZAd w d (ZM w t p)[i] p.kids[i]) (L:=uI w p ((d+1:Nat):Int) (ZM w t p))
     (fun k hk=>by rw[uI,iN (by omega)])
     (fun k hk hq=>by
      have hk':k<p.kids.length:=by omega
      rw[uI,iP hk,gQ hk,gQ hk']
      simp only[oE,oS]
      rw[ZF (by omega) (by omega),show((d+1:Nat):Int) -1=(d:Int)from by omega,P.YP w hw d _ _ (hts _ (gM hk)) (by omega)]
      simp only[oS]
      rw[iP (ZI (hq hk hk'))])
     (fun k hk hq=>by
      have hk':k<p.kids.length:=by omega
      rw[uI,iP hk,gQ hk,gQ hk']
      simp only[oE,oS]
      rw[ZF (by omega) (by omega),show((d+1:Nat):Int) -1=(d:Int)from by omega,P.YP w hw d _ _ (hts _ (gM hk)) (by omega)]
      simp only[oS]
      rw[iN (by rw[ZG fun h=>hq fun _ _=>h];simp)]) _ 0 rfl]
    simp only[oS]
    by_cases hall:∀i,0<=i->i<(ZM w t p).length->∀(h:i<(ZM w t p).length) (h':i<p.kids.length),ZAd w d (ZM w t p)[i] p.kids[i]
    ·rw[iP (ZI hall),ZI ⟨ho,h4,hall⟩]
    ·rw[iN (by rw[ZG hall];simp),ZG fun h=>hall h.2.2]
   ·rw[iN h4,ZG fun h=>h4 h.2.1]
  ·rw[iN (by rw[ZG ho];simp),ZG fun h=>ho h.1]
theorem P.YAi (v:Pattern)(hv:v.wt<=1048576):∀(most:Nat),most<=60->∃c:Nat,kF v most=some (c:Int)/\1<=c/\c<=1+v.wt/\(1+v.wt<=most->c=1+v.wt)/\(most<1+v.wt->most<c):=by
 induction v using kR with
 |_ v ih=>
  intro most hm
  have hw:=v.wt_eq
  have key:∀(m i:Nat) (n:Nat),v.kids.length-i=m->1<=n->n+((v.kids.drop i).map fun k=>1+k.wt).sum<=1+v.wt->
    ∃c:Nat,uH v most n i=some (c:Int)/\n<=c/\c<=n+((v.kids.drop i).map fun k=>1+k.wt).sum/\(n+((v.kids.drop i).map fun k=>1+k.wt).sum<=most->c=n+((v.kids.drop i).map fun k=>1+k.wt).sum)/\(most<n+((v.kids.drop i).map fun k=>1+k.wt).sum->most<c):=by
   intro m
   induction m with
   |zero=>
    intro i n hmi hn hb
    rw[uH,iN (by omega),zW (by omega)]
    exact⟨n,rfl,by omega,by simp,by simp,by simp⟩
   |succ m ih2=>
    intro i n hmi hn hb
    have hi:i<v.kids.length:=by omega
    rw[zR hi]at hb ⊢
    simp only[zY,yB]at hb ⊢
    rw[uH,iP hi]
    by_cases hle:n<=most
    ·rw[iP (by omega),gQ hi]
     simp only[oE,oS]
     have hk:v.kids[i].wt<=1048576:=by omega
     obtain⟨c,h1,h2,h3,h4,h5⟩:=ih v.kids[i] (gM hi) hk (most-n) (by omega)
     rw[ZF (by omega) (by omega),show((most:Int) - (n:Int))=((most-n:Nat):Int)from by omega,h1]
     simp only[oS]
     rw[ZF (by omega) (by omega),show((n:Int)+(c:Int))=((n+c:Nat):Int)from by omega]
     obtain⟨c',g1,g2,g3,g4,g5⟩:=ih2 (i+1) (n+c) (by omega) (by omega) (by omega)
     refine⟨c',g1,by omega,by omega,fun h=> ?_,fun h=> ?_⟩
     ·have:=h4 (by omega)
      have:=g4 (by omega)
      omega
     ·by_cases hx:1+v.kids[i].wt<=most-n
      ·have:=h4 hx
       exact g5 (by omega)
      ·have:=h5 (by omega)
       omega
    ·rw[iN (by omega)]
     exact⟨n,rfl,by omega,by omega,fun h=>by omega,fun h=>by omega⟩
  have hs:((v.kids.drop 0).map fun k=>1+k.wt).sum=v.wt:=by
   rw[zU,hw]
   have:∀l:List Pattern,(l.map fun k=>1+k.wt).sum=wtL kP l:=by
    intro l
    induction l with
    |nil=>rfl
    |cons a r ih=>simp[ih]
   exact this _
  obtain⟨c,h1,h2,h3,h4,h5⟩:=key _ 0 1 rfl (by omega) (by omega)
  rw[hs]at h3 h4 h5
  unfold kF
  have h1':uH v most 1 0=some (c:Int):=h1
  rw[h1']
  exact⟨c,rfl,by omega,h3,h4,h5⟩
theorem ZLf (v:Pattern):v.wt=((v.kids.drop 0).map fun k=>1+k.wt).sum:=by
 rw[zU,v.wt_eq]
 have:∀l:List Pattern,(l.map fun k=>1+k.wt).sum=wtL kP l:=by
  intro l
  induction l with
  |nil=>rfl
  |cons a r ih=>simp[ih]
 exact(this _).symm
noncomputable def ZAI (w:List Data):Nat->Ty->Pattern->List VarType
 |0,_,_=>[]
 |d+1,t,p=>(if p.op=2∨p.op=6 then[⟨p.var,t⟩]else[])++(((ZM w t p).zip p.kids).take (if p.op=5 then 1 else p.kids.length)).flatMap fun x=>ZAI w d x.1 x.2
theorem ZGJ {f:Ty×Pattern->List VarType}(hf:∀x,(f x).length<=1+x.2.wt):∀(ts:List Ty) (ks:List Pattern) (n:Nat),(((ts.zip ks).take n).flatMap f).length<=wtL kP ks
 | [],ks,n=>by simp
 |t::ts,[],n=>by simp
 |t::ts,k::ks,0=>by simp
 |t::ts,k::ks,n+1=>by
  have h1:=ZGJ hf ts ks n
  have h2:=hf (t,k)
  simp only[xI,yX,xK,yH,ZCH]at h1 h2 ⊢
  omega
theorem ZDk (w:List Data):∀(d:Nat) (t:Ty) (p:Pattern),(ZAI w d t p).length<=1+p.wt
 |0,t,p=>by simp[ZAI]
 |d+1,t,p=>by
  have:=ZGJ (f:=fun x=>ZAI w d x.1 x.2) (fun x=>ZDk w d x.1 x.2) (ZM w t p) p.kids (if p.op=5 then 1 else p.kids.length)
  rw[ZAI,yH,p.wt_eq]
  have h1:(if p.op=2∨p.op=6 then[(⟨p.var,t⟩:VarType)]else[]).length<=1:=by split<;>simp
  omega
theorem ZDX {w:List Data}{p:Pattern}{ts:List Ty}(hl:p.kids.length=ts.length)(h5:p.op≠5){f:Ty×Pattern->List VarType}{L:List VarType->Nat->Option (List VarType)}
  (hL:∀out i,L out i=if i<ts.length then(if i=0 then ts[i]? >>=fun x=>p.kids[i]? >>=fun y=>vI out w x y>>=fun v=>L v (i+1)else(if p.op=5 then some out else ts[i]? >>=fun x=>p.kids[i]? >>=fun y=>vI out w x y>>=fun v=>L v (i+1)))else some out)
  (hf:∀x:Ty×Pattern,(f x).length<=1+x.2.wt)
  (ih:∀i (h:i<ts.length) (h':i<p.kids.length) (out:List VarType),out.length+(1+p.kids[i].wt)<=67108864->vI out w ts[i] p.kids[i]=some (out++f (ts[i],p.kids[i]))):
  ∀(m i:Nat) (out:List VarType),ts.length-i=m->out.length+((p.kids.drop i).map fun k=>1+k.wt).sum<=67108864->L out i=some (out++((ts.zip p.kids).drop i).flatMap f):=by
 intro m
 induction m with
 |zero=>
  intro i out hm hb
  rw[hL,iN (by omega),zW (by simp;omega)];simp
 |succ m ihm=>
  intro i out hm hb
  have hi:i<ts.length:=by omega
  have hi':i<p.kids.length:=by omega
  rw[zR hi']at hb
  simp only[zY,yB]at hb
  have e:(ts[i]? >>=fun x=>p.kids[i]? >>=fun y=>vI out w x y>>=fun v=>L v (i+1))=some (out++((ts.zip p.kids).drop i).flatMap f):=by
   rw[gQ hi,gQ hi']
   simp only[oE,oS]
   rw[ih i hi hi' out (by omega)]
   simp only[oS]
   have:=hf (ts[i],p.kids[i])
   simp only at this
   rw[ihm (i+1) _ (by omega) (by rw[yH];omega),zR (l:=ts.zip p.kids) (i:=i) (by simp;omega)]
   simp
  rw[hL,iP hi,iN h5,e]
  split<;>rfl
theorem ZA4 {w:List Data}{t:Ty}{p:Pattern}(h:ZEb w t p)(h5:p.op=5):ZM w t p=[t,t]:=by unfold ZM;rw[iN (by omega),iP h5]
theorem P.YF (w:List Data)(hw:ZS w):∀(d:Nat) (t:Ty) (p:Pattern) (out:List VarType),Za w t->ZAd w d t p->out.length+(1+p.wt)<=67108864->vI out w t p=some (out++ZAI w d t p)
 |0,t,p,out,ht,hs,hb=>hs.elim
 |d+1,t,p,out,ht,hs,hb=>by
  obtain⟨ho,hl,hk⟩:=hs
  have hts:=ZBh hw ht ho
  have hsum:=ZLf p
  have ih:∀i (h:i<(ZM w t p).length) (h':i<p.kids.length) (out:List VarType),out.length+(1+p.kids[i].wt)<=67108864->vI out w (ZM w t p)[i] p.kids[i]=some (out++(fun x:Ty×Pattern=>ZAI w d x.1 x.2) ((ZM w t p)[i],p.kids[i])):=
   fun i h h' out hb=>P.YF w hw d _ _ out (hts _ (gM h)) (hk i (by omega) h h h') hb
  have hf:∀x:Ty×Pattern,((fun x:Ty×Pattern=>ZAI w d x.1 x.2) x).length<=1+x.2.wt:=fun x=>ZDk w d x.1 x.2
  have full:∀n,p.kids.length<=n->((ZM w t p).zip p.kids).take n=(ZM w t p).zip p.kids:=fun n hn=>yN (by simp;omega)
  rw[vI,P.YO w hw t (ZAP ht.1) p ho]
  simp only[oE,oS]
  by_cases h2:p.op=2
  ·rw[iP h2,iP (by omega),ZDX (f:=fun x=>ZAI w d x.1 x.2) (L:=F.f77 w p (ZM w t p)) hl (by omega) (fun out i=>by rw[F.f77]) hf ih _ 0 _ rfl (by simp at hsum ⊢;omega)]
   simp only[oS]
   rw[ZAI,iP (.inl h2),iN (by omega),full _ (zB _)];simp
  ·rw[iN h2]
   by_cases h6:p.op=6
   ·rw[iP h6,iP (by omega),ZDX (f:=fun x=>ZAI w d x.1 x.2) (L:=F.f75 w p (ZM w t p)) hl (by omega) (fun out i=>by rw[F.f75]) hf ih _ 0 _ rfl (by simp at hsum ⊢;omega)]
    simp only[oS]
    rw[ZAI,iP (.inr h6),iN (by omega),full _ (zB _)];simp
   ·rw[iN h6]
    by_cases h5:p.op=5
    ·have et:=ZA4 ho h5
     rw[et]at hl
     have h0:0<p.kids.length:=by rw[hl];simp
     have h0':0<(ZM w t p).length:=by rw[et];simp
     have hw0:1+p.kids[0].wt<=p.wt:=by
      rw[hsum,zU]
      obtain⟨a,r,e⟩:=yI h0
      simp[e]
     have e0:=ih 0 h0' h0 out (by omega)
     rw[uG,iP h0',iP rfl,gQ h0',gQ h0]
     simp only[oE,oS]
     rw[e0]
     simp only[oS]
     rw[uG,iP (by rw[et];simp),iN (by omega),iP h5]
     simp only[oS]
     rw[ZAI,iN (by omega),iP h5]
     have e1:((ZM w t p).zip p.kids).take 1=[((ZM w t p)[0],p.kids[0])]:=by
      obtain⟨a,r,e⟩:=yI h0
      obtain⟨b,r',e'⟩:=yI h0'
      simp[e,e']
     rw[e1];simp
    ·rw[ZDX (f:=fun x=>ZAI w d x.1 x.2) (L:=uG w p (ZM w t p)) hl h5 (fun out i=>by rw[uG]) hf ih _ 0 _ rfl (by simp at hsum ⊢;omega)]
     simp only[oS]
     rw[ZAI,iN (by omega),iN h5,full _ (zB _)];simp
def ZL9 (l:List VarType):Prop:=(l.map VarType.var).Nodup
def ZNa (a b:List VarType):Prop:=a.length=b.length/\∀x,x∈a->x∈b
theorem ZFJ (l:List VarType):ZL9 l↔∀i j (hi:i<l.length) (hj:j<l.length),i<j->l[i].var≠l[j].var:=by
 unfold ZL9 List.Nodup
 rw[List.pairwise_map,xB]
theorem ZEl {l:List VarType}{n:Int}(h:ZEM l n= -1):∀x,x∈l->x.var≠n:=by
 unfold ZEM at h
 cases hf:ZGK (fun x:VarType=>x.var=n) 0 l with
 |none=>exact ZCb hf
 |some j=>rw[hf]at h;simp only at h;omega
theorem ZPD {a b:VarType}(h:a.var=b.var)(h2:eq2 (a.type.data,a.type.index) (b.type.data,b.type.index)):a=b:=by
 obtain⟨v,d,i⟩:=a
 obtain⟨v',d',i'⟩:=b
 simp only[eq2]at h h2
 obtain⟨rfl,rfl⟩:=h2
 subst h;rfl
theorem P.Yb (l:List VarType):vO l 0=some (if dec (ZL9 l)=true then .go ()else .ret false):=by
 rw[ZIi (n:=l.length) (r:=false) (Q:=fun j=>∀h:j<l.length,ZEM l l[j].var=(j:Int)) (L:=vO l) (fun k hk=>by rw[vO,iN (by omega)])
  (fun k hk hq=>by
   rw[vO,iP hk,gQ hk]
   simp only[oE,oS,P.YN]
   rw[iP (hq hk)])
  (fun k hk hq=>by
   rw[vO,iP hk,gQ hk]
   simp only[oE,oS,P.YN]
   rw[iN fun h=>hq fun _=>h]) _ 0 rfl]
 congr 2
 rw[ZV]
 rw[ZFJ]
 constructor
 ·intro h i j hi hj hij
  exact(ZEk l j hj).1 (h j (by omega) hj hj) i hi hij
 ·intro h j _ _ hj
  exact(ZEk l j hj).2 fun i hi hij=>h i j hi hj hij
theorem P.Yw (a b:List VarType)(hb:ZL9 b):F.f81 a b=some (dec (ZNa a b)):=by
 unfold F.f81
 have step:∀k (hk:k<a.length),vP a b k=if dec (a[k]∈b)=true then vP a b (k+1)else some (.ret false):=by
  intro k hk
  rw[vP,iP hk,gQ hk]
  simp only[oE,oS,P.YN]
  rcases ZB7 b a[k].var with h|⟨j,hj,h1,h2,h3⟩
  ·rw[iP (by omega),iN]
   rw[ZG fun hm=>ZEl h _ hm rfl];simp
  ·rw[iN (by omega),h1,ZLN,gQ hj]
   simp only[oS]
   by_cases he:eq2 (b[j].type.data,b[j].type.index) (a[k].type.data,a[k].type.index)
   ·rw[iP (ZI he),iP (ZI (by rw[←ZPD h2 he];exact gM hj))]
   ·rw[iN (by rw[ZG he];simp),iN]
    rw[ZG fun hm=> ?_];· simp
    obtain⟨i,hi,e⟩:=zV hm
    have hij:i=j:=by
     rw[ZFJ]at hb
     rcases zF i j with hlt|heq|hlt
     ·exact absurd (by rw[e,h2]) (hb i j hi hj hlt)
     ·exact heq
     ·exact absurd (by rw[e,h2]) (hb j i hj hi hlt)
    subst hij
    exact he (by rw[e];exact⟨rfl,rfl⟩)
 rw[ZIi (n:=a.length) (r:=false) (Q:=fun j=>∀h:j<a.length,a[j]∈b) (L:=vP a b) (fun k hk=>by rw[vP,iN (by omega)])
  (fun k hk hq=>by rw[step k hk,iP (ZI (hq hk))])
  (fun k hk hq=>by rw[step k hk,iN (by rw[ZG fun h=>hq fun _=>h];simp)]) _ 0 rfl]
 simp only[oE,oS]
 by_cases h:∀j,0<=j->j<a.length->∀h:j<a.length,a[j]∈b
 ·rw[iP (ZI h),←ZAo]
  have hx:∀x,x∈a->x∈b:=fun x hx=>by obtain⟨j,hj,e⟩:=zV hx;rw[←e];exact h j (by omega) hj hj
  show some (dec (a.length=b.length))=some (dec (ZNa a b))
  congr 1;exact ZV ⟨fun hl=>⟨hl,hx⟩,fun hs=>hs.1⟩
 ·rw[iN (by rw[ZG h];simp),ZG fun hs=>h fun j _ hj _=>hs.2 _ (gM hj)]
def ZNx (w:List Data):Nat->Ty->Pattern->Prop
 |0,_,_=>False
 |d+1,t,p=>(∀i,0<=i->i<(ZM w t p).length->∀(h:i<(ZM w t p).length) (h':i<p.kids.length),ZNx w d (ZM w t p)[i] p.kids[i])/\
   if p.op=5 then(∀(h0:0<p.kids.length) (h1:1<p.kids.length),ZNa (ZAI w d t p.kids[0]) (ZAI w d t p.kids[1]))else ZL9 (ZAI w (d+1) t p)
theorem ZL2 {w:List Data}{d:Nat}{t:Ty}{p:Pattern}(ho:ZEb w t p)(h5:p.op=5)(h0:0<p.kids.length):ZAI w (d+1) t p=ZAI w d t p.kids[0]:=by
 have et:=ZA4 ho h5
 rw[ZAI,iN (by omega),iP h5,et]
 obtain⟨a,r,e⟩:=yI h0
 simp[e]
theorem ZFF {w:List Data}:∀{d:Nat} {t:Ty} {p:Pattern},ZAd w d t p->ZNx w d t p->ZL9 (ZAI w d t p)
 |0,t,p,hs,hl=>hs.elim
 |d+1,t,p,hs,hl=>by
  obtain⟨ho,hlen,hk⟩:=hs
  obtain⟨h1,h2⟩:=hl
  by_cases h5:p.op=5
  ·have et:=ZA4 ho h5
   have h0:0<p.kids.length:=by rw[hlen,et];simp
   have h0':0<(ZM w t p).length:=by rw[et];simp
   rw[ZL2 ho h5 h0]
   have e0:(ZM w t p)[0]=t:=by simp[et]
   have a:=hk 0 (zB _) h0' h0' h0
   have b:=h1 0 (zB _) h0' h0' h0
   rw[e0]at a b
   exact ZFF a b
  ·rw[iN h5]at h2;exact h2
theorem P.YT (w:List Data)(hw:ZS w):∀(d:Nat) (t:Ty) (p:Pattern),Za w t->ZAd w d t p->p.wt<=1048576->kD w t p=some (dec (ZNx w d t p))
 |0,t,p,ht,hs,hb=>hs.elim
 |d+1,t,p,ht,hs,hb=>by
  have hs':=hs
  obtain⟨ho,hl,hk⟩:=hs
  have hts:=ZBh hw ht ho
  have hsum:=p.wt_eq
  have hkw:∀k (h:k<p.kids.length),1+p.kids[k].wt<=p.wt:=fun k h=>by have:=ZAQ kP (gM h);omega
  have ih:∀k (h:k<(ZM w t p).length) (h':k<p.kids.length),kD w (ZM w t p)[k] p.kids[k]=some (dec (ZNx w d (ZM w t p)[k] p.kids[k])):=
   fun k h h'=>P.YT w hw d _ _ (hts _ (gM h)) (hk k (by omega) h h h') (by have:=hkw k h';omega)
  rw[kD,P.YO w hw t (ZAP ht.1) p ho]
  simp only[oE,oS]
  rw[ZIi (n:=(ZM w t p).length) (r:=false) (Q:=fun i=>∀(h:i<(ZM w t p).length) (h':i<p.kids.length),ZNx w d (ZM w t p)[i] p.kids[i]) (L:=uE w t p (ZM w t p))
   (fun k hk=>by rw[uE,iN (by omega)])
   (fun k hk hq=>by
    have hk':k<p.kids.length:=by omega
    rw[uE,iP hk,gQ hk,gQ hk']
    simp only[oE,oS]
    rw[ih k hk hk']
    simp only[oS]
    rw[iP (ZI (hq hk hk'))])
   (fun k hk hq=>by
    have hk':k<p.kids.length:=by omega
    rw[uE,iP hk,gQ hk,gQ hk']
    simp only[oE,oS]
    rw[ih k hk hk']
    simp only[oS]
    rw[iN (by rw[ZG fun h=>hq fun _ _=>h];simp)]) _ 0 rfl]
  simp only[oS]
  by_cases hall:∀i,0<=i->i<(ZM w t p).length->∀(h:i<(ZM w t p).length) (h':i<p.kids.length),ZNx w d (ZM w t p)[i] p.kids[i]
  ·rw[iP (ZI hall)]
   simp only
   by_cases h5:p.op=5
   ·have et:=ZA4 ho h5
    have h0:0<p.kids.length:=by rw[hl,et];simp
    have h1:1<p.kids.length:=by rw[hl,et];simp
    have h0':0<(ZM w t p).length:=by rw[et];simp
    have h1':1<(ZM w t p).length:=by rw[et];simp
    have e0:(ZM w t p)[0]=t:=by simp[et]
    have e1:(ZM w t p)[1]=t:=by simp[et]
    have a0:=hk 0 (zB _) h0' h0' h0
    have a1:=hk 1 (by omega) h1' h1' h1
    have b1:=hall 1 (by omega) h1' h1' h1
    rw[e0]at a0
    rw[e1]at a1 b1
    rw[iP h5,gQ h0,gQ h1]
    simp only[oS]
    rw[P.YF w hw d t _ [] ht a0 (by have:=hkw 0 h0;simp;omega),P.YF w hw d t _ [] ht a1 (by have:=hkw 1 h1;simp;omega)]
    simp only[oS,yM]
    rw[P.Yw _ _ (ZFF a1 b1)]
    simp only[oS]
    congr 1
    refine ZV ⟨fun h=>⟨hall,?_⟩,fun h=> ?_⟩
    ·rw[iP h5];exact fun _ _=>h
    ·have:=h.2;rw[iP h5]at this;exact this h0 h1
   ·rw[iN h5,P.YF w hw (d+1) t p [] ht hs' (by simp;omega)]
    simp only[oS,yM]
    rw[P.Yb]
    simp only[oS]
    by_cases hn:ZL9 (ZAI w (d+1) t p)
    ·rw[iP (ZI hn),ZI ⟨hall,by rw[iN h5];exact hn⟩]
    ·rw[iN (by rw[ZG hn];simp),ZG fun h=>hn (by have:=h.2;rwa[iN h5]at this)]
  ·rw[iN (by rw[ZG hall];simp),ZG fun h=>hall h.1]
theorem ZH4 {f:Ty×Pattern->List VarType}{x:VarType}:∀{ts:List Ty} {ks:List Pattern} {n:Nat},x∈(((ts.zip ks).take n).flatMap f)->∃i,∃(h:i<ts.length) (h':i<ks.length),x∈f (ts[i],ks[i])
 | [],ks,n,h=>by simp at h
 |t::ts,[],n,h=>by simp at h
 |t::ts,k::ks,0,h=>by simp at h
 |t::ts,k::ks,n+1,h=>by
  simp only[xI,yX,xK,zT]at h
  rcases h with h|h
  ·exact⟨0,by simp,by simp,by simpa using h⟩
  ·obtain⟨i,h1,h2,h3⟩:=ZH4 h
   exact⟨i+1,by simpa using h1,by simpa using h2,by simpa using h3⟩
theorem ZIK {w:List Data}(hw:ZS w):∀{d:Nat} {t:Ty} {p:Pattern},Za w t->ZAd w d t p->∀x,x∈ZAI w d t p->0<=x.var/\x.var<=5/\Za w x.type
 |0,t,p,ht,hs=>hs.elim
 |d+1,t,p,ht,hs=>by
  obtain⟨ho,hl,hk⟩:=hs
  intro x hx
  rw[ZAI,zT]at hx
  rcases hx with hx|hx
  ·split at hx
   ·next h=>
    simp at hx;subst hx
    unfold ZEb at ho
    refine⟨?_,?_,ht⟩<;>simp only<;>omega
   ·cases hx
  ·obtain⟨i,h,h',hm⟩:=ZH4 hx
   exact ZIK hw (ZBh hw ht ho _ (gM h)) (hk i (by omega) h h h') x hm
def ZDN (w:List Data)(t:Ty)(p:Pattern):Prop:=ZAd w 10 t p/\ZNx w 10 t p/\1+p.wt<=60
theorem P.Yr (w:List Data)(hw:ZS w)(t:Ty)(ht:Za w t)(p:Pattern)(hp:p.wt<=1048576):F.f85 w t p=some (dec (ZDN w t p)):=by
 unfold F.f85
 have e10:uJ w t p 10=some (dec (ZAd w 10 t p)):=P.YP w hw 10 t p ht (by omega)
 rw[e10]
 simp only[oE,oS]
 by_cases h1:ZAd w 10 t p
 ·rw[iP (ZI h1)]
  obtain⟨c,g1,g2,g3,g4,g5⟩:=P.YAi p hp 60 (by omega)
  have g1':kF p 60=some (c:Int):=g1
  rw[g1']
  simp only[oS]
  by_cases hc:1+p.wt<=60
  ·rw[iP (by have:=g4 hc;omega),P.YT w hw 10 t p ht h1 hp]
   simp only[oS]
   congr 1;exact ZV ⟨fun h=>⟨h1,h,hc⟩,fun h=>h.2.1⟩
  ·rw[iN (by have:=g5 (by omega);omega),ZG fun h=>hc h.2.2]
 ·rw[iN (by rw[ZG h1];simp),ZG fun h=>h1 h.1]
def gOk (g:Guard)(vs:List VarType):Prop:=(g.op=0/\g.var=0/\g.n=0)∨((g.op=1∨g.op=2)/\0<=g.n/\g.n<=9/\(⟨g.var,⟨-1,0⟩⟩:VarType)∈vs)
theorem P.Yv (w:List Data)(g:Guard)(vs:List VarType)(hn:ZL9 vs)(ht:∀x,x∈vs->Za w x.type):F.f102 g vs=some (dec (gOk g vs)):=by
 unfold F.f102
 have key:g.op=1∨g.op=2->(if g.n<0 then some false else if 9<g.n then some false else(kE vs g.var)>>=fun v21=>if 0<=v21 then(at? vs v21)>>=fun x25=>some (decide (x25.type.data=(-1)))else some false)=some (dec (gOk g vs)):=by
  intro hop
  by_cases a1:g.n<0
  ·rw[iP a1,ZG];rintro(h|h)<;>omega
  rw[iN a1]
  by_cases a2:9<g.n
  ·rw[iP a2,ZG];rintro(h|h)<;>omega
  rw[iN a2,P.YN]
  simp only[oE,oS]
  rcases ZB7 vs g.var with h|⟨j,hj,h1,h2,h3⟩
  ·rw[iN (by omega),ZG]
   rintro(h'|h')
   ·omega
   ·exact ZEl h _ h'.2.2.2 rfl
  ·rw[iP (by omega),h1,ZLN,gQ hj]
   simp only[oS]
   rw[←ZAo];congr 1
   refine ZV ⟨fun h=>.inr ⟨hop,by omega,by omega,?_⟩,fun h=> ?_⟩
   ·have hty:=ht _ (gM hj)
    have hi:vs[j].type.index=0:=by unfold Za ZFe at hty;omega
    have:(⟨g.var,⟨-1,0⟩⟩:VarType)=vs[j]:=ZPD (by simp[h2]) ⟨by simp[h],by simp[hi]⟩
    rw[this];exact gM hj
   ·rcases h with h|h
    ·omega
    ·obtain⟨i,hi,e⟩:=zV h.2.2.2
     have hij:i=j:=by
      rw[ZFJ]at hn
      rcases zF i j with hlt|heq|hlt
      ·exact absurd (by rw[e,h2]) (hn i j hi hj hlt)
      ·exact heq
      ·exact absurd (by rw[e,h2]) (hn j i hj hi hlt)
     subst hij
     rw[e]
 by_cases h0:g.op=0
 ·rw[iP h0]
  by_cases h1:g.var=0
  ·rw[iP h1,←ZAo];congr 1;refine ZV ⟨fun h=>.inl ⟨h0,h1,h⟩,fun h=> ?_⟩
   rcases h with h|h
   ·exact h.2.2
   ·omega
  ·rw[iN h1,ZG];rintro(h|h)<;>omega
 ·rw[iN h0]
  by_cases h1:g.op=1
  ·rw[iP h1];exact key (.inl h1)
  ·rw[iN h1]
   by_cases h2:g.op=2
   ·rw[iP h2];exact key (.inr h2)
   ·rw[iN h2,ZG];rintro(h|h)<;>omega
def ZO7 (w:List Data)(t:Ty)(c:Clause):Prop:=ZDN w t c.pat/\gOk c.guard (ZAI w 10 t c.pat)
theorem P.YAg (w:List Data)(hw:ZS w)(t:Ty)(ht:Za w t)(c:Clause)(hp:c.pat.wt<=1048576):F.f103 w t c=some (dec (ZO7 w t c)):=by
 unfold F.f103
 rw[P.Yr w hw t ht _ hp]
 simp only[oE,oS]
 by_cases h:ZDN w t c.pat
 ·rw[iP (ZI h),P.YF w hw 10 t c.pat [] ht h.1 (by simp;omega)]
  simp only[oS,yM]
  rw[P.Yv w _ _ (ZFF h.1 h.2.1) (fun x hx=>(ZIK hw ht h.1 x hx).2.2)]
  simp only[oS]
  congr 1;exact ZV ⟨fun g=>⟨h,g⟩,fun g=>g.2⟩
 ·rw[iN (by rw[ZG h];simp),ZG fun g=>h g.1]
def ZRh (v:Int):Nat->Pattern->Prop
 |0,_=>False
 |d+1,p=>(∃i,∃h:i<p.kids.length,ZRh v d p.kids[i])∨((p.op=2∨p.op=6)/\p.var=v)
theorem ZBo (a b c d e:Int):(⟨a,b,c,d,e,[]⟩:Pattern).wt=0:=by rw[kQ];rfl
theorem ZPB (a b c d e:Int)(k:Pattern):(⟨a,b,c,d,e,[k]⟩:Pattern).wt=1+k.wt:=by rw[kQ];simp
theorem ZPA (a b c d e:Int)(k l:Pattern):(⟨a,b,c,d,e,[k,l]⟩:Pattern).wt=2+k.wt+l.wt:=by rw[kQ];simp;omega
theorem ZJy {α:Type}(f:α->Nat):∀(l:List α) (i:Nat) (h:i<l.length) (x:α),wtL f (l.set i x)+f l[i]=wtL f l+f x
 |a::l,0,h,x=>by simp;omega
 |a::l,i+1,h,x=>by
  have:=ZJy f l i (by simpa using h) x
  simp;omega
def hv (d:Nat)(p:Pattern):Prop:=∃v,ZRh v d p
def ZRi (w:List Data)(t:Ty)(l:List Clause):Prop:=ZDY w t/\l.length<=8/\∀c,c∈l->ZO7 w t c
theorem P.YZ (w:List Data)(hw:ZBO w)(t:Ty)(l:List Clause)(hp:∀c,c∈l->c.pat.wt<=1048576):F.f105 w t l=some (dec (ZRi w t l)):=by
 unfold F.f105
 rw[P.Yh w t hw]
 simp only[oE,oS]
 by_cases h1:ZDY w t
 ·rw[iP (ZI h1)]
  by_cases h2:8<l.length
  ·rw[iP h2,ZG fun h=>by have:=h.2.1;omega]
  ·rw[iN h2]
   have hl:∀k,k<=l.length->kA w t l (l.length-k)=some (if dec (∀c,c∈l.drop (l.length-k)->ZO7 w t c)=true then .go ()else .ret false):=by
    intro k
    induction k with
    |zero=>intro _;rw[kA,iN (by omega),iP (ZI fun c hc=>by simp at hc)]
    |succ k ih=>
     intro hk
     have hi:l.length- (k+1)<l.length:=by omega
     rw[kA,iP hi,gQ hi]
     simp only[oE,oS]
     rw[P.YAg w h1.1 t h1.2 _ (hp _ (gM hi))]
     simp only[oS]
     have e1:l.length- (k+1)+1=l.length-k:=by omega
     have e2:l.drop (l.length- (k+1))=l[l.length- (k+1)]::l.drop (l.length-k):=by rw[zR hi,e1]
     by_cases hc:ZO7 w t l[l.length- (k+1)]
     ·rw[iP (ZI hc),e1,ih (by omega),e2]
      rw[ZV (q:=∀c,c∈l[l.length- (k+1)]::l.drop (l.length-k)->ZO7 w t c) ⟨fun h c hc'=>by
       rcases yL.1 hc' with rfl|hc'
       ·exact hc
       ·exact h c hc',fun h c hc'=>h c (yD _ hc')⟩]
     ·rw[iN (by rw[ZG hc];simp),e2,iN (by rw[ZG fun h=>hc (h _ (yG ..))];simp)]
   have:=hl l.length (zB _)
   rw[zC,zU]at this
   rw[this]
   simp only[oS]
   by_cases h3:∀c,c∈l->ZO7 w t c
   ·rw[iP (ZI h3)];simp only;rw[ZI ⟨h1,by omega,h3⟩]
   ·rw[iN (by rw[ZG h3];simp)];simp only;rw[ZG fun h=>h3 h.2.2]
 ·rw[iN (by rw[ZG h1];simp),ZG fun h=>h1 h.1]
theorem P.Yl {w:List Data}{d e:Nat}{as:List Ty}{depth x:Int}(hd:i64.wrap (depth-1)=(d:Int))
  (ih:∀a,a∈as->∀K r,rok K r->K+e<=1099511627776->∃p r',vQ r w a (d:Int)=some (p,r')/\rok (K+e) r'/\p.wt+1<=e):
  ∀(k K:Nat) (z:List Int) (z32:Int) (out:List Pattern),k<=as.length->rok K ⟨z,z32⟩->K+k*e<=1099511627776->out.length+k<=67108864->
   ∃z' z32' out',kG w depth x as z z32 out (as.length-k)=some (z',z32',out')/\rok (K+k*e) ⟨z',z32'⟩/\wtL kP out'<=wtL kP out+k*e
 |0,K,z,z32,out,hk,hr,hK,ho=>by
  rw[kG,iN (by omega)]
  exact⟨z,z32,out,rfl,hr.mono (by omega),by omega⟩
 |k+1,K,z,z32,out,hk,hr,hK,ho=>by
  have hi:as.length- (k+1)<as.length:=by omega
  rw[zG,Nat.one_mul]at hK
  obtain⟨p,r1,e1,h1,h2⟩:=ih _ (gM hi) K ⟨z,z32⟩ hr (by omega)
  obtain⟨z',z32',out',f1,f2,f3⟩:=P.Yl hd ih k (K+e) r1.f0 r1.f1 (out++[p]) (by omega) h1 (by omega) (by simp;omega)
  rw[kG,iP hi,gQ hi]
  simp only[oE,oS]
  rw[hd,e1]
  simp only[oS]
  rw[iP (by omega)]
  have ei:as.length- (k+1)+1=as.length-k:=by omega
  rw[ei]
  refine⟨z',z32',out',f1,f2.mono (by rw[zG];omega),?_⟩
  have:wtL kP (out++[p])=wtL kP out+(1+p.wt):=by simp[wtL];omega
  rw[zG];omega
theorem P.YAr {w:List Data}(hw:ZS w):∀(d:Nat) (t:Ty) (K:Nat) (r:ZB),Za w t->d<=12->rok K r->K+5^d<=1099511627776->
  ∃p r',vQ r w t (d:Int)=some (p,r')/\rok (K+5^d) r'/\p.wt+1<=5^d
 |0,t,K,r,ht,hd,hr,hK=>by
  rw[vQ,iP (by omega)]
  exact⟨_,_,rfl,hr.mono (by omega),by rw[ZBo];simp⟩
 |1,t,K,r,ht,hd,hr,hK=>by
  rw[vQ,iP (by omega)]
  exact⟨_,_,rfl,hr.mono (by omega),by rw[ZBo];simp⟩
 |d+2,t,K,r,ht,hd,hr,hK=>by
  have hpos:1<=5^d:=Nat.pow_pos (show 0<5 by omega)
  have e25:5^ (d+2)=25*5^d:=by rw[zD,zD];omega
  have e7:5^ (d+1)=5*5^d:=by rw[zD];omega
  have hwr:i64.wrap (((d+2:Nat):Int) -1)=((d+1:Nat):Int):=by rw[ZF (by omega) (by omega)];omega
  have ih:=fun(a:Ty) (ha:Za w a) (K:Nat) (r:ZB) hr hK=>P.YAr hw (d+1) a K r ha (by omega) hr hK
  rw[e25]at hK ⊢
  rw[e7]at ih
  generalize 5^d=q at hpos hK ih ⊢
  rw[vQ,iN (by omega)]
  obtain⟨v1,r1,e1,h1,a1,b1,_⟩:=P.YK hr (by omega) 4
  rw[e1]
  simp only[oE,oS]
  split
  ·exact⟨_,_,rfl,h1.mono (by omega),by rw[ZBo];omega⟩
  obtain⟨v2,r2,e2,h2,a2,b2,_⟩:=P.YK h1 (by omega) 6
  rw[e2]
  simp only[oS]
  split
  ·rw[hwr]
   obtain⟨p1,r3,e3,h3,w3⟩:=ih t ht _ r2 h2 (by omega)
   obtain⟨p2,r4,e4,h4,w4⟩:=ih t ht _ r3 h3 (by omega)
   rw[e3]
   simp only[oS]
   rw[e4]
   exact⟨_,_,rfl,h4.mono (by omega),by rw[ZPA];show 2+p1.wt+p2.wt+1<=_;omega⟩
  ·split
   ·obtain⟨v3,r3,e3,h3,a3,b3,_⟩:=P.YK h2 (by omega) 10
    obtain⟨v4,r4,e4,h4,a4,b4,_⟩:=P.YK h3 (by omega) (i64.wrap (10-v3))
    obtain⟨v5,r5,e5,h5,a5,b5,_⟩:=P.YK h4 (by omega) 2
    rw[e3]
    simp only[oS]
    rw[e4]
    simp only[oS]
    rw[e5]
    exact⟨_,_,rfl,h5.mono (by omega),by rw[ZBo];omega⟩
   ·next hn=>
    rw[P.YJ w hw t (ZAP ht.1)]
    simp only[oS]
    split
    ·exact⟨_,_,rfl,h2.mono (by omega),by rw[ZBo];omega⟩
    ·next hl=>
     obtain⟨v3,r3,e3,h3,a3,b3,_⟩:=P.YK h2 (by omega) ((ZP w t).length:Int)
     have b3:=b3 (by omega)
     obtain⟨c,hc,hm⟩:=ZEs a3 b3
     rw[e3]
     simp only[oS]
     rw[hc]
     simp only[oS]
     rw[P.YB w hw t (ZAP ht.1) c hm]
     simp only[oS]
     have hal:(ZQ w t c).length<=3:=by
      have:=(Zr hw (ZAP ht.1) (ZY hm).1).2 _ (ZC5 hm).2
      unfold ZQ;rw[xA];exact this.2.1
     have hmul:(ZQ w t c).length*(5*q)<=3*(5*q):=zI _ hal
     obtain⟨z',z32',out',f1,f2,f3⟩:=P.Yl (x:=c) hwr (fun a ha K r hr hK=>ih a (ZBj hw ht hm a ha) K r hr hK) (ZQ w t c).length _ r3.f0 r3.f1 [] (zB _) h3 (by omega) (by simp;omega)
     rw[zC]at f1
     rw[f1]
     refine⟨_,_,rfl,f2.mono (by omega),?_⟩
     rw[kQ]
     simp at f3
     show wtL kP out'+1<=_
     omega
theorem P.YW {p:Pattern}{L:List Int->Int->List Pattern->Nat->Int->Option ((List Int)×Int×(List Pattern)×Int)}
  (hL:∀z z12 out i next,L z z12 out i next=if i<p.kids.length then
   (p.kids[i]?)>>=fun x=>
   (uL (⟨z,z12⟩:ZB) x next)>>=fun v17=>
   if out.length+1<=67108864 then
    L v17.2.2.f0 v17.2.2.f1 (out++[v17.1]) (i+1) v17.2.1
   else none
  else
   some (z,z12,out,next))
  (ih:∀k,k∈p.kids->∀(n:Int) (K:Nat) (r:ZB),0<=n->n<=7->rok K r->K+3*(1+k.wt)<=1099511627776->k.wt<=1048576->
   ∃p' n' r',uL r k n=some (p',n',r')/\rok (K+3*(1+k.wt)) r'/\0<=n'/\n'<=7/\p'.wt+1<=2*(1+k.wt)):
  ∀(k K:Nat) (z:List Int) (z12:Int) (out:List Pattern) (next:Int),k<=p.kids.length->rok K ⟨z,z12⟩->K+3*wtL kP (p.kids.drop (p.kids.length-k))<=1099511627776->wtL kP p.kids<=1048576->out.length+k<=67108864->0<=next->next<=7->
   ∃z' z12' out' next',L z z12 out (p.kids.length-k) next=some (z',z12',out',next')/\rok (K+3*wtL kP (p.kids.drop (p.kids.length-k))) ⟨z',z12'⟩/\0<=next'/\next'<=7/\
    wtL kP out'<=wtL kP out+2*wtL kP (p.kids.drop (p.kids.length-k))
 |0,K,z,z12,out,next,hk,hr,hK,hb,ho,n0,n7=>by
  rw[hL,iN (by omega)]
  exact⟨z,z12,out,next,rfl,hr.mono (by omega),n0,n7,by omega⟩
 |k+1,K,z,z12,out,next,hk,hr,hK,hb,ho,n0,n7=>by
  have hi:p.kids.length- (k+1)<p.kids.length:=by omega
  have ei:p.kids.length- (k+1)+1=p.kids.length-k:=by omega
  have hd:p.kids.drop (p.kids.length- (k+1))=p.kids[p.kids.length- (k+1)]::p.kids.drop (p.kids.length-k):=by rw[zR hi,ei]
  have hm:=ZAQ kP (gM hi)
  rw[hd,ZCH]at hK ⊢
  obtain⟨p',n',r1,e1,h1,q1,q2,q3⟩:=ih _ (gM hi) next K ⟨z,z12⟩ n0 n7 hr (by omega) (by omega)
  obtain⟨z',z12',out',next',f1,f2,f3,f4,f5⟩:=P.YW hL ih k _ r1.f0 r1.f1 (out++[p']) n' (by omega) h1 (by omega) hb (by simp;omega) q1 q2
  rw[hL,iP hi,gQ hi]
  simp only[oE,oS]
  rw[e1]
  simp only[oS]
  rw[iP (by omega),ei]
  refine⟨z',z12',out',next',f1,f2.mono (by omega),f3,f4,?_⟩
  have:wtL kP (out++[p'])=wtL kP out+(1+p'.wt):=by simp[wtL];omega
  omega
theorem P.YBM (p : Pattern) : ∀ (n : Int) (K : Nat) (r : ZB), 0 <= n -> n <= 7 -> rok K r -> K + 3 * (1 + p.wt) <= 1099511627776 -> p.wt <= 1048576 ->
   ∃p' n' r',uL r p n=some (p',n',r')/\rok (K+3*(1+p.wt)) r'/\0<=n'/\n'<=7/\p'.wt+1<=2*(1+p.wt):=by
 induction p using kR with
 |_ p ih=>
  intro n K r n0 n7 hr hK hb
  have hwt:=p.wt_eq
  have hlen:=ZAb kP p.kids
  have same:p.wt+1<=2*(1+p.wt):=by omega
  rw[uL]
  split
  ·exact⟨_,_,_,rfl,hr.mono (by omega),n0,n7,same⟩
  split
  ·exact⟨_,_,_,rfl,hr.mono (by omega),n0,n7,same⟩
  split
  ·exact⟨_,_,_,rfl,hr.mono (by omega),n0,n7,same⟩
  have tail:∀(K':Nat) (z':List Int) (z12':Int) (out':List Pattern) (next':Int),rok K' ⟨z',z12'⟩->K'+1<=K+3*(1+p.wt)->0<=next'->next'<=7->wtL kP out'<=2*p.wt->
    ∃p' n' r',(if next'<=5 then
     (F.f1 (⟨z',z12'⟩:ZB) 6).bind fun v24=>
     if v24.1=0 then
      some ((⟨6,0,0,0,next',[(⟨p.op,p.ctor,p.n,p.m,p.var,out'⟩:Pattern)]⟩:Pattern),i64.wrap (next'+1),v24.2)
     else
      some ((⟨p.op,p.ctor,p.n,p.m,p.var,out'⟩:Pattern),next',v24.2)
    else
     some ((⟨p.op,p.ctor,p.n,p.m,p.var,out'⟩:Pattern),next',(⟨z',z12'⟩:ZB)))=some (p',n',r')/\rok (K+3*(1+p.wt)) r'/\0<=n'/\n'<=7/\p'.wt+1<=2*(1+p.wt):=by
   intro K' z' z12' out' next' hr' hK' m0 m7 hout
   have hown:(⟨p.op,p.ctor,p.n,p.m,p.var,out'⟩:Pattern).wt=wtL kP out':=by rw[kQ]
   split
   ·obtain⟨v,r1,e1,h1,a1,b1,_⟩:=P.YK hr' (by omega) 6
    rw[e1]
    simp only[oS]
    have hwn:i64.wrap (next'+1)=next'+1:=ZF (by omega) (by omega)
    rw[hwn]
    split
    ·refine⟨_,_,_,rfl,h1.mono (by omega),by omega,by omega,?_⟩
     rw[ZPB,hown];omega
    ·refine⟨_,_,_,rfl,h1.mono (by omega),by omega,by omega,?_⟩
     rw[hown];omega
   ·refine⟨_,_,_,rfl,hr'.mono (by omega),m0,m7,?_⟩
    rw[hown];omega
  split
  ·obtain⟨v,r1,e1,h1,a1,b1,_⟩:=P.YK hr (by omega) 2
   rw[e1]
   simp only[oE,oS]
   have hwn:i64.wrap (n+1)=n+1:=ZF (by omega) (by omega)
   split
   ·rw[hwn]
    exact⟨_,_,_,rfl,h1.mono (by omega),by omega,by omega,by rw[ZBo];omega⟩
   ·obtain⟨z',z12',out',next',f1,f2,f3,f4,f5⟩:=P.YW (p:=p) (L:=F.f62 p n) (fun z z12 out i next=>by rw[F.f62]) ih p.kids.length _ r1.f0 r1.f1 [] n (zB _) h1 (by rw[zC,zU];omega) (by omega) (by simp;omega) n0 n7
    rw[zC]at f1;rw[zC,zU]at f2 f5
    rw[f1]
    simp only[oS]
    simp at f5
    exact tail _ z' z12' out' next' f2 (by omega) f3 f4 (by omega)
  ·obtain⟨z',z12',out',next',f1,f2,f3,f4,f5⟩:=P.YW (p:=p) (L:=F.f63 p n) (fun z z12 out i next=>by rw[F.f63]) ih p.kids.length _ r.f0 r.f1 [] n (zB _) hr (by rw[zC,zU];omega) (by omega) (by simp;omega) n0 n7
   rw[zC]at f1;rw[zC,zU]at f2 f5
   rw[f1]
   simp only[oE,oS]
   simp at f5
   exact tail _ z' z12' out' next' f2 (by omega) f3 f4 (by omega)
theorem ZQf (w:List Data)(t:Ty):ZDN w t ⟨1,0,0,0,0,[]⟩:=by
 have hp:ZM w t ⟨1,0,0,0,0,[]⟩=[]:=by simp[ZM]
 refine⟨⟨.inl ⟨rfl,rfl,rfl,rfl,rfl⟩,by rw[hp];rfl,fun i _ h=>by rw[hp]at h;simp at h⟩,⟨fun i _ h=>by rw[hp]at h;simp at h,?_⟩,by rw[ZBo];omega⟩
 rw[iN (by simp)]
 simp[ZL9,ZAI]
theorem P.YA3 {w:List Data}(hw:ZS w){t:Ty}(ht:Za w t){K:Nat}{r:ZB}(hr:rok K r)(hK:K+2600<=1099511627776):∃p r',kC r w t=some (p,r')/\rok (K+2600) r'/\ZDN w t p:=by
 unfold kC
 obtain⟨v,r1,e1,h1,hv⟩:=P.num hr (by omega) [3,2,4,1] (by simp)
 obtain⟨d,rfl,hd⟩:∃d:Nat,v=(d:Int)/\d<=4:=by
  simp at hv
  exact⟨v.toNat,by omega,by omega⟩
 have h8:5^d<=625:=zH (Nat.pow_le_pow_right (n:=5) (by omega) hd) (by decide)
 obtain⟨p,r2,e2,h2,hp⟩:=P.YAr hw d t _ r1 ht (by omega) h1 (by omega)
 obtain⟨q,n,r3,e3,h3,_,_,hq⟩:=P.YBM p 0 _ r2 (by omega) (by omega) h2 (by omega) (by omega)
 rw[e1]
 simp only[oE,oS]
 rw[e2]
 simp only[oS]
 rw[e3]
 simp only[oS]
 rw[P.Yr w hw t ht q (by omega)]
 simp only[oS]
 by_cases h:ZDN w t q
 ·rw[iP (ZI h)]
  exact⟨_,_,rfl,h3.mono (by omega),h⟩
 ·rw[iN (by rw[ZG h];simp)]
  exact⟨_,_,rfl,h3.mono (by omega),ZQf w t⟩
theorem P.YBL {w:List Data}(hw:ZS w){t:Ty}(ht:Za w t){K:Nat}{r:ZB}(hr:rok K r)(hK:K+20000<=1099511627776):∃p r',kC r w t=some (p,r')/\rok (K+20000) r'/\ZDN w t p:=by
 obtain⟨p,r',e,h,hp⟩:=P.YA3 hw ht hr (by omega)
 exact⟨p,r',e,h.mono (by omega),hp⟩
theorem P.YL (v:Pattern×ZB)(vs:List VarType):∀(k K:Nat) (z:List Int) (z4 z5 z6 z7:Int),k<=vs.length->rok K ⟨z,z4⟩->K+3*k<=1099511627776->
  ∃z' z4' z5' z6' z7',kB v z z4 z5 z6 z7 vs (vs.length-k)=some (z',z4',z5',z6',z7')/\rok (K+3*k) ⟨z',z4'⟩
 |0,K,z,z4,z5,z6,z7,hk,hr,hK=>by
  rw[kB,iN (by omega)]
  exact⟨z,z4,z5,z6,z7,rfl,hr.mono (by omega)⟩
 |k+1,K,z,z4,z5,z6,z7,hk,hr,hK=>by
  have hi:vs.length- (k+1)<vs.length:=by omega
  have ei:vs.length- (k+1)+1=vs.length-k:=by omega
  rw[kB,iP hi,gQ hi]
  simp only[oE,oS]
  rw[ei]
  split
  ·obtain⟨v1,r1,e1,h1,_⟩:=P.YK hr (by omega) 2
   rw[e1]
   simp only[oS]
   split
   ·obtain⟨v2,r2,e2,h2,_⟩:=P.YK h1 (by omega) 2
    obtain⟨v3,r3,e3,h3,_⟩:=P.YK h2 (by omega) 10
    rw[e2]
    simp only[oS]
    rw[e3]
    simp only[oS]
    obtain⟨a,b,c,d,e,f1,f2⟩:=P.YL v vs k _ r3.f0 r3.f1 (i64.wrap (1+v2)) (vs[vs.length- (k+1)]).var v3 (by omega) h3 (by omega)
    exact⟨a,b,c,d,e,f1,f2.mono (by omega)⟩
   ·obtain⟨a,b,c,d,e,f1,f2⟩:=P.YL v vs k _ r1.f0 r1.f1 z5 z6 z7 (by omega) h1 (by omega)
    exact⟨a,b,c,d,e,f1,f2.mono (by omega)⟩
  ·obtain⟨a,b,c,d,e,f1,f2⟩:=P.YL v vs k _ z z4 z5 z6 z7 (by omega) hr (by omega)
   exact⟨a,b,c,d,e,f1,f2.mono (by omega)⟩
theorem P.YAp {w:List Data}(hw:ZS w){t:Ty}(ht:Za w t){K:Nat}{r:ZB}(hr:rok K r)(hK:K+21000<=1099511627776):∃c r',F.f88 r w t=some (c,r')/\rok (K+21000) r'/\ZDN w t c.pat:=by
 unfold F.f88
 obtain⟨p,r1,e1,h1,hp⟩:=P.YBL hw ht hr (by omega)
 rw[e1]
 simp only[oE,oS]
 have hl:=ZDk w 10 t p
 have hb:=hp.2.2
 rw[P.YF w hw 10 t p [] ht hp.1 (by simp;omega)]
 simp only[oS,yM]
 obtain⟨a,b,c,d,e,f1,f2⟩:=P.YL (p,r1) (ZAI w 10 t p) (ZAI w 10 t p).length _ r1.f0 r1.f1 0 0 0 (zB _) h1 (by omega)
 rw[zC]at f1
 rw[f1]
 exact⟨_,_,rfl,f2.mono (by omega),hp⟩
theorem P.YAJ {K:Nat}{r:ZB}(hr:rok K r)(hK:K+2<=1099511627776)(p:Pattern)(hp:p.wt<=1048576):∃p' r',F.f93 r p=some (p',r')/\rok (K+2) r'/\p'.wt<=p.wt+1:=by
 have hwt:=p.wt_eq
 have hlen:=ZAb kP p.kids
 have own:∀(a b c d e:Int) (ks:List Pattern),(⟨a,b,c,d,e,ks⟩:Pattern).wt=wtL kP ks:=fun a b c d e ks=>by rw[kQ]
 unfold F.f93
 rw[iP (by omega)]
 obtain⟨v,r1,e1,h1,_⟩:=P.YK hr (by omega) 30
 rw[e1]
 simp only[oE,oS]
 split
 ·obtain⟨v2,r2,e2,h2,_⟩:=P.num h1 (by omega) [0,7,1,2,5] (by simp)
  rw[e2];exact⟨_,_,rfl,h2,by rw[own];omega⟩
 split
 ·obtain⟨v2,r2,e2,h2,_⟩:=P.num h1 (by omega) [6,-1,1] (by simp)
  rw[e2];exact⟨_,_,rfl,h2,by rw[own];omega⟩
 split
 ·obtain⟨v2,r2,e2,h2,_⟩:=P.num h1 (by omega) [9,-1,1] (by simp)
  rw[e2];exact⟨_,_,rfl,h2,by rw[own];omega⟩
 split
 ·rw[iP (by omega)]
  refine⟨_,_,rfl,h1.mono (by omega),?_⟩
  rw[own]
  have:wtL kP (p.kids++[⟨2,0,0,0,0,[]⟩])=wtL kP p.kids+(1+kP ⟨2,0,0,0,0,[]⟩):=by simp[wtL];omega
  rw[this,ZBo];omega
 split
 ·split
  ·next h0=>
   rw[gQ h0]
   refine⟨_,_,rfl,h1.mono (by omega),?_⟩
   rw[own]
   have:=ZJy kP p.kids 0 h0 ⟨2,0,0,0,0,[]⟩
   rw[ZBo]at this
   omega
  ·exact⟨_,_,rfl,h1.mono (by omega),by omega⟩
 split
 ·obtain⟨v2,r2,e2,h2,_⟩:=P.num h1 (by omega) [10,-1,5] (by simp)
  rw[e2];exact⟨_,_,rfl,h2,by rw[own];omega⟩
 ·exact⟨_,_,rfl,h1.mono (by omega),by omega⟩
def Tree.nodes :Tree->Nat
 |⟨_,_,_,_,branches,els⟩=>1+(branches.attach.map fun⟨b,_⟩=>Tree.nodes b.tree).sum+(els.attach.map fun⟨k,_⟩=>Tree.nodes k).sum
termination_by t=>SizeOf.sizeOf t
decreasing_by
 ·rename_i h
  have:=xE h
  cases b
  simp at this ⊢
  omega
 ·rename_i h
  have:=xE h
  simp
  omega
def Branch.nodes (b:Branch):Nat:=b.tree.nodes
theorem Tree.nodes_eq (x:Tree):x.nodes=1+(x.branches.map Branch.nodes).sum+(x.els.map Tree.nodes).sum:=by
 cases x
 rw[Tree.nodes]
 simp only[List.map_attach_eq_pmap,List.pmap_eq_map]
 rfl
theorem ZEU {α:Type}{g f:α->Nat}{xs:List α}(h:∀x,x∈xs->g x<=1+f x):(xs.map g).sum<=wtL f xs:=by
 induction xs with
 |nil=>simp
 |cons a r ih=>
  have:=h a (by simp)
  have:=ih fun x hx=>h x (by simp[hx])
  simp;omega
theorem Tree.nodes_le (x:Tree):x.nodes<=1+x.wt:=by
 induction x using kS with
 |_ x ihb ihe=>
  rw[Tree.nodes_eq,kT]
  have h1:(x.branches.map Branch.nodes).sum<=wtL Branch.wt x.branches:=ZEU (f:=Branch.wt) ihb
  have h2:(x.els.map Tree.nodes).sum<=wtL kU x.els:=ZEU ihe
  omega
theorem ZK5 {α:Type}{a b:List α}{L:Nat->Option (Lo Bool Unit)}(hl:a.length=b.length)(h0:∀k,a.length<=k->L k=some (.go ()))
  (h1:∀k (h:k<a.length) (h':k<b.length),a[k]=b[k]->L k=L (k+1)) (h2:∀k (h:k<a.length) (h':k<b.length),a[k]≠b[k]->L k=some (.ret false)):L 0=some (if dec (a=b)=true then .go ()else .ret false):=by
 rw[ZIi (n:=a.length) (r:=false) (Q:=fun i=>∀(h:i<a.length) (h':i<b.length),a[i]=b[i]) (L:=L) h0
  (fun k hk hq=>h1 k hk (by omega) (hq hk (by omega)))
  (fun k hk hq=>h2 k hk (by omega) fun h=>hq fun _ _=>h) _ 0 rfl]
 have:(∀j,0<=j->j<a.length->∀(h:j<a.length) (h':j<b.length),a[j]=b[j])↔a=b:=
  ⟨fun h=>yS hl fun i hi hi'=>h i (by omega) hi hi hi',fun e=>by subst e;exact fun _ _ _ _ _=>rfl⟩
 rw[ZV this]
theorem PathBind.ext' {a b:PathBind}:a.var=b.var/\a.path=b.path↔a=b:=by
 cases a;cases b;simp
theorem P.Ya (a b:List PathBind):F.f162 a b=some (dec (a=b)):=by
 unfold F.f162
 by_cases hl:a.length=b.length
 ·rw[iP hl,ZK5 hl (L:=vZ a b) (fun k hk=>by rw[vZ,iN (by omega)])
   (fun k hk hk' he=>by
    rw[vZ,iP hk,gQ hk,gQ hk']
    simp only[oE,oS]
    rw[iP (by rw[he]),P.YH]
    simp only[oS]
    rw[iP (ZI (by rw[he]))])
   (fun k hk hk' he=>by
    rw[vZ,iP hk,gQ hk,gQ hk']
    simp only[oE,oS]
    by_cases hv:a[k].var=b[k].var
    ·rw[iP hv,P.YH]
     simp only[oS]
     rw[iN (by rw[ZG fun q=>he (PathBind.ext'.1 ⟨hv,q⟩)];simp)]
    ·rw[iN hv])]
  by_cases h:a=b
  ·rw[iP (ZI h),ZI h];rfl
  ·rw[iN (by rw[ZG h];simp),ZG h];rfl
 ·rw[iN hl,ZG fun h=>hl (by rw[h])]
theorem Edge.eq4 {a b:Edge}:eq4 (a.ctor,a.n,a.m,a.to) (b.ctor,b.n,b.m,b.to)↔a=b:=by
 cases a;cases b;simp[Go.Vl.eq4]
theorem Node.ext' {a b:Node}:(a.op=b.op/\a.clause=b.clause/\a.els=b.els/\a.binds=b.binds/\a.path=b.path/\a.edges=b.edges)↔a=b:=by
 cases a;cases b;simp only[Node.mk.injEq]
 exact⟨fun⟨h1,h2,h3,h4,h5,h6⟩=>⟨h1,h2,h4,h5,h6,h3⟩,fun⟨h1,h2,h4,h5,h6,h3⟩=>⟨h1,h2,h3,h4,h5,h6⟩⟩
theorem P.YM (a b:Node):F.f164 a b=some (dec (a=b)):=by
 unfold F.f164
 rw[P.Ya,P.YH]
 simp only[oE,oS]
 rcases Classical.em (a.op=b.op)with h1|h1
 rotate_left
 ·rw[iN h1,ZG fun q=>h1 (by rw[q])]
 rcases Classical.em (a.clause=b.clause)with h2|h2
 rotate_left
 ·rw[iP h1,iN h2,ZG fun q=>h2 (by rw[q])]
 rcases Classical.em (a.els=b.els)with h3|h3
 rotate_left
 ·rw[iP h1,iP h2,iN h3,ZG fun q=>h3 (by rw[q])]
 rcases Classical.em (a.binds=b.binds)with h4|h4
 rotate_left
 ·rw[iP h1,iP h2,iP h3,iN (by rw[ZG h4];simp),ZG fun q=>h4 (by rw[q])]
 rcases Classical.em (a.path=b.path)with h5|h5
 rotate_left
 ·rw[iP h1,iP h2,iP h3,iP (ZI h4),iN (by rw[ZG h5];simp),ZG fun q=>h5 (by rw[q])]
 rw[iP h1,iP h2,iP h3,iP (ZI h4),iP (ZI h5)]
 by_cases hl:a.edges.length=b.edges.length
 ·rw[iP hl,ZK5 hl (L:=vY a b) (fun k hk=>by rw[vY,iN (by omega)])
   (fun k hk hk' he=>by
    rw[vY,iP hk,gQ hk,gQ hk']
    simp only[oE,oS]
    rw[iP (ZI (Edge.eq4.2 he))])
   (fun k hk hk' he=>by
    rw[vY,iP hk,gQ hk,gQ hk']
    simp only[oE,oS]
    rw[iN (by rw[ZG fun q=>he (Edge.eq4.1 q)];simp)])]
  by_cases h:a.edges=b.edges
  ·rw[iP (ZI h),ZI (Node.ext'.1 ⟨h1,h2,h3,h4,h5,h⟩)];rfl
  ·rw[iN (by rw[ZG h];simp),ZG fun q=>h (by rw[q])];rfl
 ·rw[iN hl,ZG fun h=>hl (by rw[h])]
noncomputable def ZDH (l:List Node)(n:Node):Option Nat:=ZGK (fun x=>x=n) 0 l
theorem ZK0 {l:List Node}{n:Node}{x:Int->Option (Lo (List Node×Int) Unit)}{L:Nat->Option (Lo (List Node×Int) Unit)}(h0:∀k,l.length<=k->L k=some (.go ()))(h1:∀k (h:k<l.length),l[k]≠n->L k=L (k+1))
  (h2:∀k (h:k<l.length),l[k]=n->L k=some (.ret (l,(k:Int)))):∀(m k:Nat),l.length-k=m->L k=some (match ZGK (fun x=>x=n) k (l.drop k)with|some j=>.ret (l,(j:Int))|none=>.go ()):=by
 intro m
 induction m with
 |zero=>intro k hm;rw[h0 k (by omega),zW (by omega)];rfl
 |succ m ih=>
  intro k hm
  have hk:k<l.length:=by omega
  rw[zR hk]
  by_cases hp:l[k]=n
  ·rw[h2 k hk hp];simp only[ZGK];rw[iP (ZI hp)]
  ·rw[h1 k hk hp,ih (k+1) (by omega)];simp only[ZGK];rw[iN (by rw[ZG hp];simp)]
theorem P.Yu (l:List PathBind)(h:l.length<=67108864)(hp:∀b,b∈l->b.path.length<=67108864):uR l=some l:=by
 unfold uR
 have:=ZLP (L:=F.f156 l) (a:=l) (g:=fun b:PathBind=>b) (f:=fun b=>if b.path.length<=67108864 then some b else none)
  (fun out i=>by
   rw[F.f156]
   split
   ·next hi=>
    rw[gQ hi]
    simp only[oE,oS]
    rw[iP (hp _ (gM hi)),iP (hp _ (gM hi))];rfl
   ·rfl)
  (fun b hb=>by rw[iP (hp b hb)]) _ 0 [] rfl (by simp;omega)
 rw[this];simp
def ZBq (x:Tree)(es:List Edge)(e:Int):Node:=⟨x.op,x.clause,x.binds,x.path,es,e⟩
inductive Rep (list:List Node):Nat->Tree->Prop
 |mk (k:Nat) (x:Tree) (es:List Edge) (e:Int) (js:Nat->Nat) (j0:Nat) (h:list[k]? =some (ZBq x es e)) (hl:es.length=x.branches.length)
   (hb:∀i (h1:i<es.length) (h2:i<x.branches.length),es[i]=⟨x.branches[i].ctor,x.branches[i].n,x.branches[i].m,(js i:Int)⟩)
   (hj:∀i,i<x.branches.length->js i<k) (hr:∀i (h2:i<x.branches.length),Rep list (js i) x.branches[i].tree)
   (h0:x.els=[]->e= -1) (h1:x.els.length<=1) (h2:∀y,y∈x.els->e=(j0:Int)/\j0<k) (h3:∀y,y∈x.els->Rep list j0 y):Rep list k x
theorem Rep.lt {list:List Node}{k:Nat}{x:Tree}(h:Rep list k x):k<list.length:=by
 cases h with
 |mk k x es e js j0 h=>exact(zZ.1 h).1
theorem Rep.mono {list list':List Node}(hp:list<+:list'){k:Nat}{x:Tree}(h:Rep list k x):Rep list' k x:=by
 induction h with
 |mk k x es e js j0 h hl hb hj hr h0 h1 h2 h3 ihr ih3=>
  refine .mk k x es e js j0 ?_ hl hb hj ihr h0 h1 h2 ih3
  obtain⟨t,rfl⟩:=hp
  rw[List.getElem?_append_left (zZ.1 h).1];exact h
theorem Branch.ext' {a b:Branch}(h1:a.ctor=b.ctor)(h2:a.n=b.n)(h3:a.m=b.m)(h4:a.tree=b.tree):a=b:=by
 cases a;cases b;simp only at h1 h2 h3 h4;subst h1 h2 h3 h4;rfl
theorem Tree.ext' {a b:Tree}(h1:a.op=b.op)(h2:a.clause=b.clause)(h3:a.binds=b.binds)(h4:a.path=b.path)(h5:a.branches=b.branches)(h6:a.els=b.els):a=b:=by
 cases a;cases b;simp only at h1 h2 h3 h4 h5 h6;subst h1 h2 h3 h4 h5 h6;rfl
theorem Rep.fn {list:List Node}{k:Nat}{x:Tree}(h:Rep list k x):∀{y:Tree},Rep list k y->x=y:=by
 induction h with
 |mk k x es e js j0 h hl hb hj hr h0 h1 h2 h3 ihr ih3=>
  intro y hy
  cases hy with
  |mk _ _ es' e' js' j0' g gl gb gj gr g0 g1 g2 g3=>
   rw[h]at g
   have g:=zA g
   have ge:es=es':=congrArg Node.edges g
   have gee:e=e':=congrArg Node.els g
   subst ge;subst gee
   refine Tree.ext' (congrArg Node.op g) (congrArg Node.clause g) (congrArg Node.binds g) (congrArg Node.path g) (yS (by omega) fun i hi hi'=> ?_) ?_
   ·have e1:=hb i (by omega) hi
    have e2:=gb i (by omega) hi'
    rw[e1]at e2
    simp only[Edge.mk.injEq]at e2
    obtain⟨a1,a2,a3,a4⟩:=e2
    have a4:js i=js' i:=by omega
    exact Branch.ext' a1 a2 a3 (ihr i hi (a4▸gr i hi'))
   ·match hx:x.els,hy:y.els with
    | [],[]=>rfl
    | [],b::r=>
     have:=h0 hx;have:=(g2 b (by rw[hy];simp)).1;omega
    |a::r,[]=>
     have:=g0 hy;have:=(h2 a (by rw[hx];simp)).1;omega
    |a::r,b::r'=>
     have q1:r=[]:=by rw[hx]at h1;simp at h1;exact h1
     have q2:r'=[]:=by rw[hy]at g1;simp at g1;exact g1
     subst q1;subst q2
     have p1:=(h2 a (by rw[hx];simp)).1
     have p2:=(g2 b (by rw[hy];simp)).1
     have p3:j0=j0':=by omega
     rw[ih3 a (by rw[hx];simp) (p3▸g3 b (by rw[hy];simp))]
theorem ZKg {α:Type}{l:List α}(hn:l.Nodup){i j:Nat}(hi:i<l.length)(hj:j<l.length)(e:l[i]=l[j]):i=j:=by
 have h:=xB.1 hn
 rcases zF i j with q|q|q
 ·exact absurd e (h i j hi hj q)
 ·exact q
 ·exact absurd e.symm (h j i hj hi q)
theorem Rep.inj {list:List Node}(hn:list.Nodup){k:Nat}{x:Tree}(h:Rep list k x):∀{j:Nat},Rep list j x->k=j:=by
 induction h with
 |mk k x es e js j0 h hl hb hj hr h0 h1 h2 h3 ihr ih3=>
  intro j hy
  cases hy with
  |mk _ _ es' e' js' j0' g gl gb gj gr g0 g1 g2 g3=>
   have ee:es=es':=yS (by omega) fun i hi hi'=>by
    rw[hb i hi (by omega),gb i hi' (by omega),ihr i (by omega) (gr i (by omega))]
   have e2:e=e':=by
    match hx:x.els with
    | []=>rw[h0 hx,g0 hx]
    |a::r=>
     have p1:=(h2 a (by rw[hx];simp)).1
     have p2:=(g2 a (by rw[hx];simp)).1
     rw[p1,p2,ih3 a (by rw[hx];simp) (g3 a (by rw[hx];simp))]
   subst ee;subst e2
   have hk:=(zZ.1 h).1
   have hjj:=(zZ.1 g).1
   exact ZKg hn hk hjj (by rw[(zZ.1 h).2,(zZ.1 g).2])
inductive Sub :Tree->Tree->Prop
 |refl (x:Tree):Sub x x
 |br (y x:Tree) (b:Branch) (hb:b∈x.branches) (h:Sub y b.tree):Sub y x
 |els (y x z:Tree) (hz:z∈x.els) (h:Sub y z):Sub y x
theorem ZB0 {α:Type}{f:α->Nat}{l:List α}{a:α}(h:a∈l):f a<=(l.map f).sum:=by
 induction l with
 |nil=>cases h
 |cons b r ih=>
  simp only[zY,yB]
  rcases yL.1 h with rfl|h
  ·omega
  ·have:=ih h;omega
theorem Sub.nodes {y x:Tree}(h:Sub y x):y.nodes<=x.nodes:=by
 induction h with
 |refl=>exact zB _
 |br x b hb h ih=>have:=x.nodes_eq;have:=ZB0 (f:=Branch.nodes) hb;have:Branch.nodes b=b.tree.nodes:=rfl;omega
 |els x z hz h ih=>have:=x.nodes_eq;have:=ZB0 (f:=Tree.nodes) hz;omega
theorem Tree.nodes_pos (x:Tree):1<=x.nodes:=by rw[Tree.nodes_eq];omega
def ZFr :Nat->Tree->Prop
 |0,_=>False
 |n+1,x=>(0<=x.op/\x.op<=2/\x.els.length<=1/\x.branches.length<=10)/\(∀b,b∈x.branches->ZFr n b.tree)/\∀y,y∈x.els->ZFr n y
theorem ZAg :∀{n m:Nat} {x:Tree},x.nodes<=m->ZFr n x->ZFr m x
 |0,_,_,_,h=>h.elim
 |n+1,0,x,h,_=>by have:=x.nodes_pos;omega
 |n+1,m+1,x,h,⟨h1,h2,h3⟩=>by
  have hx:=x.nodes_eq
  exact⟨h1,fun b hb=>ZAg (by have:=ZB0 (f:=Branch.nodes) hb;have:Branch.nodes b=b.tree.nodes:=rfl;omega) (h2 b hb),fun y hy=>ZAg (by have:=ZB0 (f:=Tree.nodes) hy;omega) (h3 y hy)⟩
def right (x:Tree):Prop:=ZFr x.nodes x
theorem ZCM (x:Tree):right x↔(0<=x.op/\x.op<=2/\x.els.length<=1/\x.branches.length<=10)/\(∀b,b∈x.branches->right b.tree)/\∀y,y∈x.els->right y:=by
 have hx:=x.nodes_eq
 constructor
 ·intro h
  unfold right at h
  obtain⟨n,hn⟩:∃n,x.nodes=n+1:=⟨x.nodes-1,by have:=x.nodes_pos;omega⟩
  rw[hn]at h
  exact⟨h.1,fun b hb=>ZAg (zB _) (h.2.1 b hb),fun y hy=>ZAg (zB _) (h.2.2 y hy)⟩
 ·rintro⟨h1,h2,h3⟩
  unfold right
  obtain⟨n,hn⟩:∃n,x.nodes=n+1:=⟨x.nodes-1,by have:=x.nodes_pos;omega⟩
  rw[hn]
  exact⟨h1,fun b hb=>ZAg (by have:=ZB0 (f:=Branch.nodes) hb;have:Branch.nodes b=b.tree.nodes:=rfl;omega) (h2 b hb),fun y hy=>ZAg (by have:=ZB0 (f:=Tree.nodes) hy;omega) (h3 y hy)⟩
theorem Sub.right {y x:Tree}(h:Sub y x)(hx:right x):right y:=by
 induction h with
 |refl=>exact hx
 |br x b hb h ih=>exact ih (((ZCM x).1 hx).2.1 b hb)
 |els x z hz h ih=>exact ih (((ZCM x).1 hx).2.2 z hz)
def Inv (list:List Node):Prop:=list.Nodup/\∀k,k<list.length->∃x,Rep list k x
structure Added (list:List Node)(x:Tree)(list':List Node)(k:Nat):Prop where
 pre:list<+:list'
 inv:Inv list'
 rep:Rep list' k x
 len:list'.length<=list.length+x.nodes
 sub:∀i,list.length<=i->i<list'.length->∃y,Sub y x/\Rep list' i y
 last:list.length<=k->k+1=list'.length
theorem Inv.snoc {list:List Node}(h:Inv list){n:Node}(hn:n∉list){x:Tree}(hr:Rep (list++[n]) list.length x):Inv (list++[n]):=by
 refine⟨List.nodup_append.2 ⟨h.1,by simp,fun a ha b hb=>by simp at hb;subst hb;exact fun e=>hn (e▸ha)⟩,fun k hk=> ?_⟩
 by_cases e:k<list.length
 ·obtain⟨y,hy⟩:=h.2 k e
  exact⟨y,hy.mono (List.prefix_append _ _)⟩
 ·have:k=list.length:=by simp at hk;omega
  subst this;exact⟨x,hr⟩
theorem ZHW {l:List Node}{n:Node}{j:Nat}(h:ZDH l n=some j):l[j]? =some n:=by
 obtain⟨_,h2,h3,_⟩:=ZCa h
 simp only[zE]at h2 h3
 rw[gQ h2,h3]
theorem ZHX {l:List Node}{n:Node}(h:ZDH l n=none):n∉l:=fun hm=>ZCb h n hm rfl
theorem Rep.build {l l':List Node}(hp:l<+:l'){x:Tree}{es:List Edge}{e:Int}{k:Nat}(h:l'[k]? =some (ZBq x es e))(hl:es.length=x.branches.length)
  (rep:∀i (h1:i<es.length) (h2:i<x.branches.length),∃j:Nat,es[i]=⟨x.branches[i].ctor,x.branches[i].n,x.branches[i].m,(j:Int)⟩/\Rep l j x.branches[i].tree)
  (h0:x.els=[]->e= -1) (h1:x.els.length<=1) (he:∀y,y∈x.els->∃j0:Nat,e=(j0:Int)/\Rep l j0 y)
  (hlt:∀i (h1:i<es.length) (j:Nat),es[i].to=(j:Int)->j<k) (hlt2:∀j:Nat,e=(j:Int)->j<k):Rep l' k x:=by
 refine .mk k x es e (fun i=>(es.getD i ⟨0,0,0,0⟩).to.toNat) e.toNat h hl (fun i h1 h2=> ?_) (fun i h2=> ?_) (fun i h2=> ?_) h0 h1 (fun y hy=> ?_) (fun y hy=> ?_)
 ·obtain⟨j,e1,_⟩:=rep i h1 h2
  have:es.getD i ⟨0,0,0,0⟩=es[i]:=by simp[zX,h1]
  show es[i]=⟨_,_,_,(((es.getD i ⟨0,0,0,0⟩).to.toNat:Nat):Int)⟩
  rw[this,e1];simp
 ·have h1:i<es.length:=by omega
  obtain⟨j,e1,_⟩:=rep i h1 h2
  have:es.getD i ⟨0,0,0,0⟩=es[i]:=by simp[zX,h1]
  show(es.getD i ⟨0,0,0,0⟩).to.toNat<k
  rw[this]
  exact hlt i h1 _ (by rw[e1];simp)
 ·have h1:i<es.length:=by omega
  obtain⟨j,e1,e2⟩:=rep i h1 h2
  have:es.getD i ⟨0,0,0,0⟩=es[i]:=by simp[zX,h1]
  show Rep l' (es.getD i ⟨0,0,0,0⟩).to.toNat _
  rw[this,e1]
  exact e2.mono hp
 ·obtain⟨j0,e1,e2⟩:=he y hy
  subst e1
  exact⟨by simp,hlt2 _ (by simp)⟩
 ·obtain⟨j0,e1,e2⟩:=he y hy
  subst e1
  exact e2.mono hp
structure LI (x:Tree)(list:List Node)(i:Nat)(out:List Edge)(l:List Node):Prop where
 hi:i<=x.branches.length
 ho:out.length=i
 pre:list<+:l
 inv:Inv l
 len:l.length<=list.length+((x.branches.take i).map Branch.nodes).sum
 rep:∀i' (h:i'<out.length) (h2:i'<x.branches.length),∃j:Nat,out[i']=⟨x.branches[i'].ctor,x.branches[i'].n,x.branches[i'].m,(j:Int)⟩/\Rep l j x.branches[i'].tree
 sub:∀i',list.length<=i'->i'<l.length->∃y,(∃b,b∈x.branches/\Sub y b.tree)/\Rep l i' y
theorem ZGu {α:Type}{f:α->Nat}{l:List α}(i:Nat):((l.take i).map f).sum<=(l.map f).sum:=by
 induction l generalizing i with
 |nil=>simp
 |cons a r ih=>
  cases i with
  |zero=>simp
  |succ i=>simp only[yX,zY,yB];have:=ih i;omega
theorem ZE2 {α:Type}{f:α->Nat}{l:List α}{i:Nat}(h:i<l.length):((l.take (i+1)).map f).sum=((l.take i).map f).sum+f l[i]:=by
 rw[List.take_succ_eq_append_getElem h,yP,yU];simp
theorem ZGc {x:Tree}{list l:List Node}{es:List Edge}{e:Int}(hpre:list<+:l)(hinv:Inv l)(hlen:l.length+1<=list.length+x.nodes)(hl:es.length=x.branches.length)
  (rep:∀i (h1:i<es.length) (h2:i<x.branches.length),∃j:Nat,es[i]=⟨x.branches[i].ctor,x.branches[i].n,x.branches[i].m,(j:Int)⟩/\Rep l j x.branches[i].tree)
  (h0:x.els=[]->e= -1) (h1:x.els.length<=1) (he:∀y,y∈x.els->∃j0:Nat,e=(j0:Int)/\Rep l j0 y)
  (hsub':∀i',list.length<=i'->i'<l.length->∃y,Sub y x/\y.nodes<x.nodes/\Rep l i' y):
  (∀j,ZDH l (ZBq x es e)=some j->Added list x l j)/\(ZDH l (ZBq x es e)=none->Added list x (l++[ZBq x es e]) l.length):=by
 have hsub:∀i',list.length<=i'->i'<l.length->∃y,Sub y x/\Rep l i' y:=fun i' a b=>by
  obtain⟨y,h1,_,h3⟩:=hsub' i' a b
  exact⟨y,h1,h3⟩
 constructor
 ·intro j hj
  have hg:=ZHW hj
  have hjl:=(zZ.1 hg).1
  obtain⟨x',hx'⟩:=hinv.2 j hjl
  have hrx:Rep l j x:= ?_
  ·refine⟨hpre,hinv,hrx,by omega,hsub,fun hlj=> ?_⟩
   obtain⟨y,_,h2,h3⟩:=hsub' j hlj hjl
   have:=h3.fn hrx
   subst this;omega
  cases hx' with
  |mk _ _ es' e' js' j0' g gl gb gj gr g0 g1 g2 g3=>
   rw[hg]at g
   have g:=zA g
   have ge:es=es':=congrArg Node.edges g
   have gee:e=e':=congrArg Node.els g
   subst ge;subst gee
   refine Rep.build (List.prefix_refl _) hg hl rep h0 h1 he (fun i hi k hk=> ?_) (fun k hk=> ?_)
   ·have h2:i<x'.branches.length:=by omega
    rw[gb i hi h2]at hk
    have:=gj i h2
    simp only at hk;omega
   ·match hy:x'.els with
    | []=>have:=g0 hy;omega
    |a::r=>have:=g2 a (by rw[hy];simp);omega
 ·intro hf
  have hn:=ZHX hf
  have hr:Rep (l++[ZBq x es e]) l.length x:=by
   refine Rep.build (List.prefix_append _ _) (by simp) hl rep h0 h1 he (fun i hi k hk=> ?_) (fun k hk=> ?_)
   ·obtain⟨j,e1,e2⟩:=rep i hi (by omega)
    rw[e1]at hk
    have:=e2.lt
    simp only at hk;omega
   ·match hy:x.els with
    | []=>have:=h0 hy;omega
    |a::r=>
     obtain⟨j,e1,e2⟩:=he a (by rw[hy];simp)
     have:=e2.lt;omega
  refine⟨hpre.trans (List.prefix_append _ _),hinv.snoc hn hr,hr,by simp;omega,fun i h1 h2=> ?_,fun _=>by simp⟩
  by_cases q:i<l.length
  ·obtain⟨y,a,b⟩:=hsub i h1 q
   exact⟨y,a,b.mono (List.prefix_append _ _)⟩
  ·have:i=l.length:=by simp at h2;omega
   subst this;exact⟨x,.refl x,hr⟩
structure nodeOk (i:Nat)(x:Node):Prop where
 op0:0<=x.op
 op2:x.op<=2
 els0: -1<=x.els
 els1:x.els<i
 len:x.edges.length<=10
 edges:∀j (h:j<x.edges.length),0<=x.edges[j].to/\x.edges[j].to<i
theorem P.YU (list:List Node)(i:Nat)(x:Node):vK list i x 0=some (if dec (∀j (h:j<x.edges.length),0<=j->(0<=x.edges[j].to/\x.edges[j].to<i))=true then .go ()else .ret false):=by
 refine ZHw (a:=x.edges) (Q:=fun _ e=>0<=e.to/\e.to<i) (L:=vK list i x) (fun k hk=> ?_) (fun k hk hq=> ?_) (fun k hk hq=> ?_) _ 0 rfl
 ·rw[vK,iN hk]
 ·rw[vK,iP hk,gQ hk]
  simp only[oE,oS]
  rw[iN (by omega),iN (by omega)]
 ·rw[vK,iP hk,gQ hk]
  simp only[oE,oS]
  by_cases h:x.edges[k].to<0
  ·rw[iP h]
  ·rw[iN h,iP (by omega)]
theorem P.YD (list:List Node):F.f188 list=some (dec (1<=list.length/\list.length<=300/\∀j (h:j<list.length),nodeOk j list[j])):=by
 unfold F.f188
 by_cases h0:list.length=0
 ·rw[iP h0,ZG (by omega)]
 rw[iN h0]
 by_cases h1:300<list.length
 ·rw[iP h1,ZG (by omega)]
 rw[iN h1]
 have key:vG list 0=some (if dec (∀j (h:j<list.length),0<=j->nodeOk j list[j])=true then .go ()else .ret false):=by
  refine ZHw (a:=list) (Q:=nodeOk) (L:=fun k=>vG list k) (fun k hk=> ?_) (fun k hk hq=> ?_) (fun k hk hq=> ?_) _ 0 rfl
  ·show vG list k=_
   rw[vG,iN (by omega)]
  ·show vG list k=vG list (k+1)
   rw[vG,iP (by omega),gQ hk]
   have:=hq.op0;have:=hq.op2;have:=hq.els0;have:=hq.els1;have:=hq.len
   simp only[oE,oS,uQ]
   rw[iN (by omega),iN (by omega),iN (by omega),iN (by omega),iN (by omega),P.YU,iP (ZI fun j h _=>hq.edges j h)]
   exact iP (by omega)
  ·show vG list k=_
   rw[vG,iP (by omega),gQ hk]
   simp only[oE,oS,uQ]
   by_cases a1:list[k].op<0
   ·rw[iP a1]
   rw[iN a1]
   by_cases a2:2<list[k].op
   ·rw[iP a2]
   rw[iN a2]
   by_cases a3:list[k].els< -1
   ·rw[iP a3]
   rw[iN a3]
   by_cases a4:(k:Int)<=list[k].els
   ·rw[iP a4]
   rw[iN a4]
   by_cases a5:10<list[k].edges.length
   ·rw[iP a5]
   rw[iN a5,P.YU,iN (by
    rw[ZG fun hh=>hq ⟨by omega,by omega,by omega,by omega,by omega,fun j h=>hh j h (by omega)⟩];simp)]
   rfl
 rw[key]
 simp only[oE,oS]
 by_cases hall:∀j (h:j<list.length),0<=j->nodeOk j list[j]
 ·rw[iP (ZI hall),ZI ⟨by omega,by omega,fun j h=>hall j h (by omega)⟩]
 ·rw[iN (by rw[ZG hall];simp),ZG fun hh=>hall fun j h _=>hh.2.2 j h]
theorem P.Yd (n low high:Int):F.f172 n low high=some (decide (low<=n/\n<=high)):=by
 unfold F.f172
 by_cases h:low<=n<;>simp[h]
theorem P.YA8 (e:Edge)(i:Nat)(hi:i<=67108864):F.f173 e i=some (!decide (0<=e.to/\e.to<(i:Int))):=by
 unfold F.f173
 rw[P.Yd,ZF (by omega) (by omega)]
 simp only[oE,oS]
 congr 2
 exact decide_eq_decide.2 (by omega)
theorem P.YBU (s:List Edge)(i:Nat)(hi:i<=67108864)(hs:s.length<=67108864):∀(m k:Nat),s.length-k=m->∃r,uN s i k=some r/\
  match r with| .ret j=>0<=j/\∃l,∃h:l<s.length,k<=l/\¬(0<=s[l].to/\s[l].to<i)| .go _=>∀l (h:l<s.length),k<=l->(0<=s[l].to/\s[l].to<i):=by
 intro m
 induction m with
 |zero=>
  intro k hm
  rw[uN,iN (by omega)]
  exact⟨_,rfl,fun l h hl=>by omega⟩
 |succ m ih=>
  intro k hm
  have hk:k<s.length:=by omega
  rw[uN,iP hk,gQ hk]
  simp only[oE,oS]
  rw[P.YA8 _ _ hi]
  simp only[oS]
  by_cases h:0<=s[k].to/\s[k].to<i
  ·rw[iN (by simp[h])]
   obtain⟨r,hr,hx⟩:=ih (k+1) (by omega)
   refine⟨r,hr,?_⟩
   cases r with
   |ret j=>obtain⟨h1,l,h2,h3,h4⟩:=hx;exact⟨h1,l,h2,by omega,h4⟩
   |go _=>
    intro l hl hkl
    by_cases e:k=l
    ·subst e;exact h
    ·exact hx l hl (by omega)
  ·rw[iP (by rw[decide_eq_false h];rfl)]
   exact⟨_,rfl,by omega,k,hk,zB _,h⟩
theorem P.YAO (s:List Edge)(i:Nat)(hi:i<=67108864)(hs:s.length<=67108864):F.f176 s i=some (!dec (∀l (h:l<s.length),0<=s[l].to/\s[l].to<i)):=by
 unfold F.f176 F.f175
 obtain⟨r,hr,hx⟩:=P.YBU s i hi hs _ 0 rfl
 rw[hr]
 cases r with
 |ret j=>
  obtain⟨h1,l,h2,_,h4⟩:=hx
  simp only[oE,oS]
  rw[ZG fun hh=>h4 (hh l h2)]
  simp[h1]
 |go _=>
  simp only[oE,oS]
  rw[ZI fun l h=>hx l h (by omega)]
  simp
theorem P.YE (list:List Node)(hl:list.length<=1048576):F.f178 list=some (dec (1<=list.length/\list.length<=300/\∀j (h:j<list.length),nodeOk j list[j])):=by
 unfold F.f178
 have key:vL list 0=some (if dec (∀j (h:j<list.length),0<=j->nodeOk j list[j])=true then .go ()else .ret false):=by
  refine ZHw (a:=list) (Q:=nodeOk) (L:=vL list) (fun k hk=> ?_) (fun k hk hq=> ?_) (fun k hk hq=> ?_) _ 0 rfl
  ·rw[vL,iN (by omega)]
  ·rw[vL,iP (by omega),gQ hk]
   have:=hq.op0;have:=hq.op2;have:=hq.els0;have:=hq.els1;have:=hq.len
   simp only[oE,oS,P.Yd]
   rw[iP (by simp;omega),iN (by omega),ZF (by omega) (by omega),iP (by simp;omega),P.YAO _ _ (by omega) (by omega),ZI hq.edges]
   simp
  ·rw[vL,iP (by omega),gQ hk]
   simp only[oE,oS,P.Yd]
   by_cases a1:0<=list[k].op/\list[k].op<=2
   ·rw[iP (by simp;omega)]
    by_cases a5:10<list[k].edges.length
    ·rw[iP a5]
    rw[iN a5,ZF (by omega) (by omega)]
    by_cases a3: -1<=list[k].els/\list[k].els<=(k:Int) -1
    ·rw[iP (by simp;omega),P.YAO _ _ (by omega) (by omega),ZG fun hh=>hq ⟨a1.1,a1.2,a3.1,by omega,by omega,hh⟩]
     simp
    ·rw[iN (by simp;omega)]
   ·rw[iN (by simp;omega)]
 rw[key]
 simp only[oE,oS]
 by_cases hall:∀j (h:j<list.length),0<=j->nodeOk j list[j]
 ·rw[iP (ZI hall)]
  simp only[P.Yd,oS,←ZAo]
  congr 1
  exact ZV ⟨fun h=>⟨by omega,by omega,fun j hj=>hall j hj (by omega)⟩,fun h=>by omega⟩
 ·rw[iN (by rw[ZG hall];simp),ZG fun hh=>hall fun j h _=>hh.2.2 j h]
theorem P.YAD (x:Tree):x.nodes<=4611686018427387904->∀most:Nat,most<=1048576->∃c:Nat,uU x most=some (c:Int)/\c<=x.nodes/\1<=c/\(x.nodes<=most->c=x.nodes)/\(most<x.nodes->most<c):=by
 induction x using kS with
 |_ x ihb ihe=>
  intro hbig most hm
  have hn:=x.nodes_eq
  have l1:∀(m i n:Nat),x.branches.length-i=m->1<=n->n+((x.branches.drop i).map Branch.nodes).sum<=x.nodes->
    ∃c:Nat,uT x most (n:Int) i=some (c:Int)/\n<=c/\c<=n+((x.branches.drop i).map Branch.nodes).sum/\(n+((x.branches.drop i).map Branch.nodes).sum<=most->c=n+((x.branches.drop i).map Branch.nodes).sum)/\(most<n+((x.branches.drop i).map Branch.nodes).sum->most<c):=by
   intro m
   induction m with
   |zero=>
    intro i n hmi h1 hsum
    rw[zW (by omega)]
    refine⟨n,by rw[uT,iN (by omega)],by simp⟩
   |succ m ih=>
    intro i n hmi h1 hsum
    have hi:i<x.branches.length:=by omega
    rw[zR hi]at hsum ⊢
    simp only[zY,yB]at hsum ⊢
    have hbn:Branch.nodes x.branches[i]=x.branches[i].tree.nodes:=rfl
    rw[uT,iP hi]
    by_cases hle:n<=most
    ·rw[iP (by omega),gQ hi]
     simp only[oE,oS]
     rw[ZF (by omega) (by omega),show(most:Int) - (n:Int)=((most-n:Nat):Int)from by omega]
     obtain⟨c,e1,e2,e3,e4,e5⟩:=ihb _ (gM hi) (by omega) (most-n) (by omega)
     rw[e1]
     simp only[oS]
     rw[ZF (by omega) (by omega),show(n:Int)+(c:Int)=((n+c:Nat):Int)from by omega]
     obtain⟨d,f1,f2,f3,f4,f5⟩:=ih (i+1) (n+c) (by omega) (by omega) (by omega)
     refine⟨d,f1,by omega,by omega,fun h=> ?_,fun h=> ?_⟩
     ·have:=e4 (by omega);have:=f4 (by omega);omega
     ·by_cases q:x.branches[i].tree.nodes<=most-n
      ·have:=e4 q;exact f5 (by omega)
      ·have:=e5 (by omega);omega
    ·rw[iN (by omega)]
     exact⟨n,rfl,by omega,by omega,fun h=>by omega,fun h=>by omega⟩
  have l2:∀(m i n:Nat),x.els.length-i=m->1<=n->n+((x.els.drop i).map Tree.nodes).sum<=x.nodes->
    ∃c:Nat,uS x most (n:Int) i=some (c:Int)/\n<=c/\c<=n+((x.els.drop i).map Tree.nodes).sum/\(n+((x.els.drop i).map Tree.nodes).sum<=most->c=n+((x.els.drop i).map Tree.nodes).sum)/\(most<n+((x.els.drop i).map Tree.nodes).sum->most<c):=by
   intro m
   induction m with
   |zero=>
    intro i n hmi h1 hsum
    rw[zW (by omega)]
    refine⟨n,by rw[uS,iN (by omega)],by simp⟩
   |succ m ih=>
    intro i n hmi h1 hsum
    have hi:i<x.els.length:=by omega
    rw[zR hi]at hsum ⊢
    simp only[zY,yB]at hsum ⊢
    rw[uS,iP hi]
    by_cases hle:n<=most
    ·rw[iP (by omega),gQ hi]
     simp only[oE,oS]
     rw[ZF (by omega) (by omega),show(most:Int) - (n:Int)=((most-n:Nat):Int)from by omega]
     obtain⟨c,e1,e2,e3,e4,e5⟩:=ihe _ (gM hi) (by omega) (most-n) (by omega)
     rw[e1]
     simp only[oS]
     rw[ZF (by omega) (by omega),show(n:Int)+(c:Int)=((n+c:Nat):Int)from by omega]
     obtain⟨d,f1,f2,f3,f4,f5⟩:=ih (i+1) (n+c) (by omega) (by omega) (by omega)
     refine⟨d,f1,by omega,by omega,fun h=> ?_,fun h=> ?_⟩
     ·have:=e4 (by omega);have:=f4 (by omega);omega
     ·by_cases q:x.els[i].nodes<=most-n
      ·have:=e4 q;exact f5 (by omega)
      ·have:=e5 (by omega);omega
    ·rw[iN (by omega)]
     exact⟨n,rfl,by omega,by omega,fun h=>by omega,fun h=>by omega⟩
  obtain⟨c,e1,e2,e3,e4,e5⟩:=l1 _ 0 1 rfl (by omega) (by simp only[zU];omega)
  simp only[zU]at e3 e4 e5
  obtain⟨d,f1,f2,f3,f4,f5⟩:=l2 _ 0 c rfl (by omega) (by simp only[zU];omega)
  simp only[zU]at f3 f4 f5
  refine⟨d,?_,by omega,by omega,fun h=> ?_,fun h=> ?_⟩
  ·rw[uU]
   simp only[oE]
   rw[show((1:Int))=((1:Nat):Int)from rfl,e1]
   simp only[oS]
   rw[f1];rfl
  ·have:=e4 (by omega);have:=f4 (by omega);omega
  ·by_cases q:1+(x.branches.map Branch.nodes).sum<=most
   ·have:=e4 q;exact f5 (by omega)
   ·have:=e5 (by omega);omega
theorem P.Yt (x:Tree):F.f154 x=some (dec (right x)):=by
 induction x using kS with
 |_ x ihb ihe=>
  rw[F.f154,ZV (ZCM x)]
  rcases Classical.em (x.op<0)with h|h
  ·rw[iP h,ZG (by omega)]
  rcases Classical.em (2<x.op)with h2|h2
  ·rw[iN h,iP h2,ZG (by omega)]
  rcases Classical.em (1<x.els.length)with h3|h3
  ·rw[iN h,iN h2,iP h3,ZG (by omega)]
  rcases Classical.em (10<x.branches.length)with h4|h4
  ·rw[iN h,iN h2,iN h3,iP h4,ZG (by omega)]
  rw[iN h,iN h2,iN h3,iN h4,ZIi (n:=x.branches.length) (r:=false) (Q:=fun i=>∀(h:i<x.branches.length),right x.branches[i].tree) (L:=uB x)
   (fun k hk=>by rw[uB,iN (by omega)])
   (fun k hk hq=>by
    rw[uB,iP hk,gQ hk]
    simp only[oE,oS]
    rw[ihb _ (gM hk)]
    simp only[oS]
    rw[iP (ZI (hq hk))])
   (fun k hk hq=>by
    rw[uB,iP hk,gQ hk]
    simp only[oE,oS]
    rw[ihb _ (gM hk)]
    simp only[oS]
    rw[iN (fun q=>hq fun _=>ZDy.1 q)]) _ 0 rfl]
  simp only[oE,oS]
  by_cases hall:∀j,0<=j->j<x.branches.length->∀(h:j<x.branches.length),right x.branches[j].tree
  ·have hb:∀b,b∈x.branches->right b.tree:=fun b hb=>by obtain⟨j,hj,rfl⟩:=zV hb;exact hall j (by omega) hj hj
   rw[iP (ZI hall)]
   simp only
   by_cases h5:x.els.length=0
   ·rw[iP h5,ZI ⟨by omega,hb,fun y hy=>by rw[List.eq_nil_of_length_eq_zero h5]at hy;cases hy⟩]
   ·have h0:0<x.els.length:=by omega
    rw[iN h5,gQ h0]
    simp only[oS]
    rw[ihe _ (gM h0)]
    simp only[oS]
    congr 1
    refine ZV ⟨fun q=>⟨by omega,hb,fun y hy=> ?_⟩,fun q=>q.2.2 _ (gM h0)⟩
    obtain⟨j,hj,rfl⟩:=zV hy
    have:j=0:=by omega
    subst this;exact q
  ·rw[iN (by rw[ZG hall];simp),ZG fun q=>hall fun j _ hj h=>q.2.1 _ (gM hj)]
theorem P.YAU (x:Tree):right x->x.wt<=1048576->∀list,Inv list->list.length+x.nodes<=67108864->
  ∃list' k,F.f167 list x=some (list',((k:Nat):Int))/\Added list x list' k:=by
 induction x using kS with
 |_ x ihb ihe=>
  intro hx hw list hinv hlen
  obtain⟨⟨r1,r2,r3,r4⟩,rb,re⟩:=(ZCM x).1 hx
  have hn:=x.nodes_eq
  have hw2:=hw
  rw[kT]at hw2
  have w1:=ZAb kV x.binds
  have w2:=ZAb (fun _:Int=>0) x.path
  have wp:∀b,b∈x.binds->b.path.length<=67108864:=fun b hb=>by
   have:=ZAQ kV hb
   have h3:b.path.length<=kV b:=by unfold kV;have:=ZAb (fun _:Int=>0) b.path;omega
   omega
  have lp:∀(m i:Nat) (out:List Edge) (l:List Node),x.branches.length-i=m->LI x list i out l->
    ∃es l',uP x x.binds (-1) out l i=some (es,l')/\LI x list x.branches.length es l':=by
   intro m
   induction m with
   |zero=>
    intro i out l hm h
    have hi:=h.hi
    have:i=x.branches.length:=by omega
    subst this
    exact⟨out,l,by rw[uP,iN (by omega)],h⟩
   |succ m ih=>
    intro i out l hm h
    have hi:i<x.branches.length:=by omega
    have hs:=ZE2 (f:=Branch.nodes) hi
    have hs2:=ZGu (f:=Branch.nodes) (l:=x.branches) (i+1)
    have hbn:Branch.nodes x.branches[i]=x.branches[i].tree.nodes:=rfl
    have hl:=h.len
    have hbm:=gM hi
    have hbw:=ZAQ Branch.wt hbm
    have hbw2:Branch.wt x.branches[i]=x.branches[i].tree.wt:=rfl
    obtain⟨l2,k,g1,g3⟩:=ihb _ hbm (rb _ hbm) (by omega) l h.inv (by omega)
    have hout:=h.ho
    have hrep2:∀i' (h:i'<(out++[(⟨x.branches[i].ctor,x.branches[i].n,x.branches[i].m,(k:Int)⟩:Edge)]).length) (h2:i'<x.branches.length),∃j:Nat,(out++[(⟨x.branches[i].ctor,x.branches[i].n,x.branches[i].m,(k:Int)⟩:Edge)])[i']=⟨x.branches[i'].ctor,x.branches[i'].n,x.branches[i'].m,(j:Int)⟩/\Rep l2 j x.branches[i'].tree:=by
     intro i' a1 a2
     by_cases q:i'<out.length
     ·obtain⟨j,b1,b2⟩:=h.rep i' q a2
      exact⟨j,(yA q).trans b1,b2.mono g3.pre⟩
     ·have:i'=i:=by simp at a1;omega
      subst this
      exact⟨k,by rw[yC (by omega)];simp,g3.rep⟩
    have hsub2:∀i',list.length<=i'->i'<l2.length->∃y,(∃b,b∈x.branches/\Sub y b.tree)/\Rep l2 i' y:=by
     intro i' a1 a2
     by_cases q:i'<l.length
     ·obtain⟨y,b1,b2⟩:=h.sub i' a1 q
      exact⟨y,b1,b2.mono g3.pre⟩
     ·obtain⟨y,b1,b2⟩:=g3.sub i' (by omega) a2
      exact⟨y,⟨_,hbm,b1⟩,b2⟩
    obtain⟨es,l',f1,f3⟩:=ih (i+1) (out++[⟨x.branches[i].ctor,x.branches[i].n,x.branches[i].m,(k:Int)⟩]) l2 (by omega) ⟨by omega,by simp;omega,h.pre.trans g3.pre,g3.inv,by have:=g3.len;omega,hrep2,hsub2⟩
    refine⟨es,l',?_,f3⟩
    ·rw[uP,iP hi,gQ hi]
     simp only[oE,oS]
     rw[g1]
     simp only[oS]
     rw[iP (by omega)];exact f1
  obtain⟨es,l1,e1,e3⟩:=lp _ 0 [] list rfl ⟨by omega,rfl,List.prefix_refl _,hinv,by simp,fun i' h=>by simp at h,fun i' a1 a2=>by omega⟩
  have hlen1:=e3.len
  rw[yN (zB _)]at hlen1
  have hsub1:∀i',list.length<=i'->i'<l1.length->∃y,Sub y x/\y.nodes<x.nodes/\Rep l1 i' y:=fun i' a1 a2=>by
   obtain⟨y,⟨b,hb,b1⟩,b2⟩:=e3.sub i' a1 a2
   have h1:=b1.nodes
   have h2:=ZB0 (f:=Branch.nodes) hb
   have h3:Branch.nodes b=b.tree.nodes:=rfl
   exact⟨y,.br y x b hb b1,by omega,b2⟩
  have hbinds:uR x.binds=some x.binds:=P.Yu _ (by omega) wp
  rw[F.f167,hbinds]
  simp only[oE,oS,uQ]
  rw[iP (by omega),e1]
  simp only[oS]
  cases hels:x.els with
  |nil=>
   rw[hels]at hn
   simp only[yY,xC,Nat.add_zero]at hn
   rw[iN (by simp)]
   obtain⟨a1,a2⟩:=ZGc (e:= -1) e3.pre e3.inv (by omega) e3.ho e3.rep (fun _=>rfl) r3 (fun y hy=>by rw[hels]at hy;cases hy) hsub1
   rw[ZK0 (n:=(⟨x.op,x.clause,x.binds,x.path,es,-1⟩:Node)) (l:=l1) (x:=fun _=>none) (L:=vW x x.binds (-1) (es,l1)) (fun k hk=>by rw[vW,iN (by simpa using hk)])
    (fun k hk hp=>by rw[vW,iP hk,gQ hk];simp only[oE,oS];rw[P.YM];simp only[oS];rw[iN (by rw[ZG hp];simp)])
    (fun k hk hp=>by rw[vW,iP hk,gQ hk];simp only[oE,oS];rw[P.YM];simp only[oS];rw[iP (ZI hp)]) _ 0 rfl,zU]
   change ∃list' k,Option.bind (some (match ZDH l1 (ZBq x es (-1))with|some j=>Lo.ret (l1,(j:Int))|none=>Lo.go ())) _=_/\_
   cases hf:ZDH l1 (ZBq x es (-1))with
   |some j=>
    simp only[oS]
    exact⟨l1,j,rfl,a1 j hf⟩
   |none=>
    simp only[oS]
    rw[iP (by omega)]
    exact⟨_,l1.length,rfl,a2 hf⟩
  |cons y r=>
   have hr:r=[]:=by rw[hels]at r3;simp at r3;exact r3
   subst hr
   have hym:y∈x.els:=by rw[hels];simp
   rw[hels]at hn
   simp only[zY,yY,yB,xC]at hn
   have hyw:=ZAQ kU hym
   obtain⟨l2,k2,g1,g3⟩:=ihe y hym (re y hym) (by omega) l1 e3.inv (by omega)
   rw[iP (by simp)]
   simp only[List.getElem?_cons_zero,oS]
   rw[g1]
   simp only[oS]
   have hlen2:=g3.len
   obtain⟨a1,a2⟩:=ZGc (x:=x) (es:=es) (e:=(k2:Int)) (e3.pre.trans g3.pre) g3.inv (by omega) e3.ho (fun i q1 q2=>by obtain⟨j,b1,b2⟩:=e3.rep i q1 q2;exact⟨j,b1,b2.mono g3.pre⟩)
    (fun q=>by rw[hels]at q;cases q) r3 (fun z hz=>by rw[hels]at hz;simp at hz;subst hz;exact⟨k2,rfl,g3.rep⟩)
    (fun i' q1 q2=>by
     by_cases q:i'<l1.length
     ·obtain⟨z,b1,b3,b2⟩:=hsub1 i' q1 q;exact⟨z,b1,b3,b2.mono g3.pre⟩
     ·obtain⟨z,b1,b2⟩:=g3.sub i' (by omega) q2;exact⟨z,.els z x y hym b1,by have:=b1.nodes;omega,b2⟩)
   rw[ZK0 (n:=(⟨x.op,x.clause,x.binds,x.path,es,(k2:Int)⟩:Node)) (l:=l2) (x:=fun _=>none) (L:=vX x x.binds (es,l1) (l2,(k2:Int))) (fun k hk=>by rw[vX,iN (by simpa using hk)])
    (fun k hk hp=>by rw[vX,iP hk,gQ hk];simp only[oE,oS];rw[P.YM];simp only[oS];rw[iN (by rw[ZG hp];simp)])
    (fun k hk hp=>by rw[vX,iP hk,gQ hk];simp only[oE,oS];rw[P.YM];simp only[oS];rw[iP (ZI hp)]) _ 0 rfl,zU]
   change ∃list' k,Option.bind (some (match ZDH l2 (ZBq x es (k2:Int))with|some j=>Lo.ret (l2,(j:Int))|none=>Lo.go ())) _=_/\_
   cases hf:ZDH l2 (ZBq x es (k2:Int))with
   |some j=>
    simp only[oS]
    exact⟨l2,j,rfl,a1 j hf⟩
   |none=>
    simp only[oS]
    rw[iP (by omega)]
    exact⟨_,l2.length,rfl,a2 hf⟩
theorem P.Yn (x:Tree)(hw:x.wt<=1048576):uO x=some ([],false)∨
  (x.nodes<=300/\right x/\∃l k,uO x=some (l,true)/\Added [] x l k):=by
 have hn:=x.nodes_le
 obtain⟨c,e1,e2,e3,e4,e5⟩:=P.YAD x (by omega) 300 (by omega)
 unfold uO
 have e1:uU x 300=some (c:Int):=e1
 rw[e1]
 simp only[oE,oS]
 by_cases h:300<x.nodes
 ·have:=e5 h
  rw[iP (by omega)]
  exact .inl rfl
 ·have:=e4 (by omega)
  rw[iN (by omega),P.Yt]
  simp only[oS]
  by_cases hr:right x
  ·rw[iP (ZI hr)]
   obtain⟨l,k,f1,f3⟩:=P.YAU x hr (by omega) [] ⟨List.nodup_nil,fun k hk=>by simp at hk⟩ (by simp;omega)
   rw[f1]
   simp only[oS]
   exact .inr ⟨by omega,hr,l,k,rfl,f3⟩
  ·rw[iN (by rw[ZG hr];simp)]
   exact .inl rfl
theorem Rep.ok {list:List Node}{k:Nat}{x:Tree}(h:Rep list k x)(hr:right x):∃hk:k<list.length,nodeOk k list[k]/\list[k].binds=x.binds/\list[k].path=x.path:=by
 cases h with
 |mk _ _ es e js j0 h hl hb hj hr' h0 h1 h2 h3=>
  obtain⟨⟨r1,r2,r3,r4⟩,_,_⟩:=(ZCM x).1 hr
  obtain⟨hk,e1⟩:=zZ.1 h
  refine⟨hk,?_,by rw[e1];rfl,by rw[e1];rfl⟩
  rw[e1]
  have he: -1<=e/\e<(k:Int):=by
   match hx:x.els with
   | []=>have:=h0 hx;omega
   |a::r=>have:=h2 a (by rw[hx];simp);omega
  exact⟨r1,r2,he.1,he.2,by show es.length<=10;omega,fun j hj'=>by
   have hj':j<es.length:=hj'
   have h4:j<x.branches.length:=by omega
   show 0<=es[j].to/\es[j].to<(k:Int)
   rw[hb j hj' h4]
   have:=hj j h4
   simp only;omega⟩
theorem Added.valid {x:Tree}{l:List Node}{k:Nat}(h:Added [] x l k)(hx:right x)(hn:x.nodes<=300):1<=l.length/\l.length<=300/\∀j (h:j<l.length),nodeOk j l[j]:=by
 have hk:=h.rep.lt
 have hl:=h.len
 refine⟨by omega,by simp at hl;omega,fun j hj=> ?_⟩
 obtain⟨y,hy,hr⟩:=h.sub j (by simp) hj
 exact(Rep.ok hr (hy.right hx)).2.1
def tupR (lists:List (List Pattern))(i:Nat)(x:List Pattern):Prop:=x.length=i/\∀k (h:k<x.length) (h':k<lists.length),x[k]∈lists[k]
theorem ZJ2 {lists:List (List Pattern)}{i:Nat}{x:List Pattern}(h:tupR lists i x)(hi:i<lists.length){q:Pattern}(hq:q∈lists[i]):tupR lists (i+1) (x++[q]):=by
 refine⟨by simp[h.1],fun k hk hk'=> ?_⟩
 by_cases e:k<x.length
 ·rw[yA e];exact h.2 k e hk'
 ·have:k=i:=by simp at hk;have:=h.1;omega
  subst this
  rw[yC (by omega)]
  simpa[h.1]using hq
theorem P.YBO {lists:List (List Pattern)}{i:Nat}(hi:i<lists.length)(hb:lists.length<=67108863){out:List (List Pattern)}{k:Nat}(hk:k<out.length)(hR:∀x,x∈out->tupR lists i x)(hx:lists[i].length<=401):
  ∀(m j:Nat) (next:List (List Pattern)),lists[i].length-j=m->next.length<=401->(∀x,x∈next->tupR lists (i+1) x)->∃r,F.f106 lists out i k next j=some r/\r.length<=401/\∀x,x∈r->tupR lists (i+1) x
 |m,j,next,hm,hn,hq=>by
  rw[F.f106,gQ hi]
  simp only[oE,oS]
  by_cases hj:j<lists[i].length
  ·rw[iP hj]
   by_cases h4:next.length<=400
   ·have h1:=(hR _ (gM hk)).1
    rw[iP h4,gQ hk]
    simp only[oS]
    rw[iP (by omega),gQ hj]
    simp only[oS]
    rw[iP (by omega),iP (by omega),iP (by omega)]
    match m,hm with
    |0,hm=>omega
    |m+1,hm=>
     refine P.YBO hi hb hk hR hx m (j+1) _ (by omega) (by simp;omega) fun x hx2=> ?_
     rcases zT.1 hx2 with hx2|hx2
     ·exact hq x hx2
     ·rw[zS.1 hx2];exact ZJ2 (hR _ (gM hk)) hi (gM hj)
   ·rw[iN h4];exact⟨next,rfl,hn,hq⟩
  ·rw[iN hj];exact⟨next,rfl,hn,hq⟩
theorem P.YBP {lists:List (List Pattern)}{i:Nat}(hi:i<lists.length)(hb:lists.length<=67108863){out:List (List Pattern)}(ho:out.length<=401)(hR:∀x,x∈out->tupR lists i x)(hx:lists[i].length<=401):
  ∀(m k:Nat) (next:List (List Pattern)),out.length-k=m->next.length<=401->(∀x,x∈next->tupR lists (i+1) x)->∃r,F.f107 lists out i next k=some r/\r.length<=401/\∀x,x∈r->tupR lists (i+1) x
 |m,k,next,hm,hn,hq=>by
  rw[F.f107]
  by_cases hk:k<out.length
  ·rw[iP hk]
   by_cases h4:next.length<=400
   ·rw[iP h4]
    obtain⟨r,e,h1,h2⟩:=P.YBO hi hb hk hR hx _ 0 next rfl hn hq
    rw[e]
    simp only[oE,oS]
    rw[iP (by omega)]
    match m,hm with
    |0,hm=>omega
    |m+1,hm=>exact P.YBP hi hb ho hR hx m (k+1) r (by omega) h1 h2
   ·rw[iN h4];exact⟨next,rfl,hn,hq⟩
  ·rw[iN hk];exact⟨next,rfl,hn,hq⟩
theorem P.YBQ {lists:List (List Pattern)}(hb:lists.length<=67108863)(hx:∀x,x∈lists->x.length<=401):
  ∀(m i:Nat) (out:List (List Pattern)),lists.length-i=m->i<=lists.length->out.length<=401->(∀x,x∈out->tupR lists i x)->∃r,F.f108 lists out i=some r/\r.length<=401/\∀x,x∈r->tupR lists lists.length x
 |m,i,out,hm,hi,ho,hR=>by
  rw[F.f108]
  by_cases h:i<lists.length
  ·rw[iP h]
   obtain⟨r,e,h1,h2⟩:=P.YBP h hb ho hR (hx _ (gM h)) _ 0 [] rfl (by simp) (by simp)
   rw[e]
   simp only[oE,oS]
   rw[iP (by omega)]
   match m,hm with
   |0,hm=>omega
   |m+1,hm=>exact P.YBQ hb hx m (i+1) r (by omega) (by omega) h1 h2
  ·rw[iN h]
   have:i=lists.length:=by omega
   subst this
   exact⟨out,rfl,ho,hR⟩
theorem P.YAq {lists:List (List Pattern)}(hb:lists.length<=67108863)(hx:∀x,x∈lists->x.length<=401):∃r,F.f109 lists=some r/\r.length<=401/\∀x,x∈r->tupR lists lists.length x:=by
 obtain⟨r,e,h⟩:=P.YBQ hb hx _ 0 [[]] rfl (by omega) (by simp) (fun x hm=>by rw[zS.1 hm];exact⟨rfl,fun k hk=>absurd hk (by simp)⟩)
 unfold F.f109
 rw[e]
 exact⟨r,rfl,h⟩
def ZGj (w:List Data):Nat->Ty->Pattern->Prop
 |0,_,_=>False
 |d+1,t,p=>ZEb w t p/\p.op≠5/\p.kids.length=(ZM w t p).length/\∀i (h:i<(ZM w t p).length) (h':i<p.kids.length),ZGj w d (ZM w t p)[i] p.kids[i]
theorem ZCK {w:List Data}:∀{d:Nat} {t:Ty} {p:Pattern},ZGj w d t p->ZGj w (d+1) t p
 |0,_,_,h=>h.elim
 |d+1,t,p,⟨h1,h2,h3,h4⟩=>⟨h1,h2,h3,fun i h h'=>ZCK (h4 i h h')⟩
theorem ZJz :∀{a b:List Pattern},a.length=b.length->(∀i (h:i<a.length) (h':i<b.length),a[i].wt<=b[i].wt)->wtL kP a<=wtL kP b
 | [],[],_,_=>zB _
 | [],_::_,h,_=>by simp at h
 |_::_,[],h,_=>by simp at h
 |x::a,y::b,h,hh=>by
  have h0:=hh 0 (by simp) (by simp)
  have:=ZJz (a:=a) (b:=b) (by simpa using h) fun i hi hi'=>by have:=hh (i+1) (by simpa using hi) (by simpa using hi');simpa using this
  simp only[ZCH,yO]at h0 ⊢
  omega
theorem P.YAl (p:Pattern)(l:List (List Pattern)):∀(m i:Nat) (out:List Pattern),l.length-i=m->out.length+m<=67108864->uZ p l out i=some (out++(l.drop i).map fun x=>⟨p.op,p.ctor,p.n,p.m,p.var,x⟩)
 |0,i,out,hm,hb=>by rw[uZ,iN (by omega),zW (by omega)];simp
 |m+1,i,out,hm,hb=>by
  have hi:i<l.length:=by omega
  rw[uZ,iP hi,gQ hi]
  simp only[oE,oS]
  rw[iP (by omega),P.YAl p l m (i+1) _ (by omega) (by simp;omega),zR hi,zY]
  simp[←List.map_drop]
theorem P.YAm (p:Pattern)(G:Nat->List Pattern->Prop)(h:∀i (h:i<p.kids.length),∃l,uD p.kids[i]=some l/\G i l)(hk:p.kids.length<=67108863):
  ∀(m i:Nat) (out:List (List Pattern)),p.kids.length-i=m->out.length=i->i<=p.kids.length->(∀k (h:k<out.length),G k out[k])->∃r,uY p out i=some r/\r.length=p.kids.length/\∀k (h:k<r.length),G k r[k]
 |0,i,out,hm,ho,hi,hg=>by rw[uY,iN (by omega)];exact⟨out,rfl,by omega,hg⟩
 |m+1,i,out,hm,ho,hi,hg=>by
  have hi':i<p.kids.length:=by omega
  obtain⟨l,e,hl⟩:=h i hi'
  rw[uY,iP hi',gQ hi']
  simp only[oE,oS]
  rw[e]
  simp only[oS]
  rw[iP (by omega)]
  refine P.YAm p G h hk m (i+1) _ (by omega) (by simp[ho]) (by omega) fun k hk2=> ?_
  by_cases e2:k<out.length
  ·rw[yA e2];exact hg k e2
  ·have:k=i:=by simp at hk2;omega
   subst this
   rw[yC (by omega)]
   simpa[ho]using hl
theorem P.Yy (w:List Data):∀(d:Nat) (t:Ty) (p:Pattern),ZAd w d t p->p.wt<=1048576->∃l,uD p=some l/\l.length<=401/\∀q,q∈l->ZGj w d t q/\q.wt<=p.wt
 |0,_,_,h,_=>h.elim
 |d+1,t,p,⟨h1,h2,h3⟩,hw=>by
  have hwk:∀i (h:i<p.kids.length),1+p.kids[i].wt<=p.wt:=fun i h=>by rw[p.wt_eq];exact ZAQ kP (gM h)
  have hkl:p.kids.length<=p.wt:=by rw[p.wt_eq];exact ZAb kP p.kids
  have ih:∀i (h:i<(ZM w t p).length) (h':i<p.kids.length),∃l,uD p.kids[i]=some l/\l.length<=401/\∀q,q∈l->ZGj w d (ZM w t p)[i] q/\q.wt<=p.kids[i].wt:=
   fun i h h'=>P.Yy w d _ _ (h3 i (by omega) h h h') (by have:=hwk i h';omega)
  rw[uD]
  by_cases h5:p.op=5
  ·have ht:ZM w t p=[t,t]:=ZA4 h1 h5
   have k2:p.kids.length=2:=by rw[h2,ht];rfl
   obtain⟨a,ea,la,pa⟩:=ih 0 (by rw[ht];simp) (by omega)
   obtain⟨b,eb,lb,pb⟩:=ih 1 (by rw[ht];simp) (by omega)
   have w0:=hwk 0 (by omega)
   have w1:=hwk 1 (by omega)
   have hall:∀q,q∈a++b->ZGj w (d+1) t q/\q.wt<=p.wt:=by
    intro q hq
    rcases zT.1 hq with hq|hq
    ·have:=pa q hq
     simp only[ht,yO]at this
     exact⟨ZCK this.1,by omega⟩
    ·have:=pb q hq
     simp only[ht,yT,yO]at this
     exact⟨ZCK this.1,by omega⟩
   rw[iP h5,gQ (by omega)]
   simp only[oE,oS]
   rw[ea]
   simp only[oS]
   rw[gQ (by omega)]
   simp only[oS]
   rw[eb]
   simp only[oS]
   rw[iP (by omega)]
   by_cases hl:401<(a++b).length
   ·rw[iP hl,iP (by omega)]
    exact⟨_,rfl,by simp;omega,fun q hq=>hall q (yJ hq)⟩
   ·rw[iN hl]
    exact⟨_,rfl,by omega,hall⟩
  ·rw[iN h5]
   obtain⟨ls,e1,l1,g1⟩:=P.YAm p (fun i l=>l.length<=401/\∀(h:i<(ZM w t p).length) (h':i<p.kids.length),∀q,q∈l->ZGj w d (ZM w t p)[i] q/\q.wt<=p.kids[i].wt)
    (fun i h=>by obtain⟨l,a,b,c⟩:=ih i (by omega) h;exact⟨l,a,b,fun _ _=>c⟩) (by omega) _ 0 [] rfl rfl (by omega) (by simp)
   obtain⟨r,e2,l2,g2⟩:=P.YAq (lists:=ls) (by omega) (fun x hx=>by obtain⟨k,hk,rfl⟩:=zV hx;exact(g1 k hk).1)
   rw[e1]
   simp only[oE,oS]
   rw[e2]
   simp only[oS]
   rw[P.YAl p r _ 0 [] rfl (by simp;omega)]
   simp only[oS,yM,zU]
   refine⟨_,rfl,by simp;omega,fun q hq=> ?_⟩
   obtain⟨x,hx,rfl⟩:=yF.1 hq
   obtain⟨x1,x2⟩:=g2 x hx
   have ht:ZM w t ⟨p.op,p.ctor,p.n,p.m,p.var,x⟩=ZM w t p:=rfl
   refine⟨⟨h1,h5,?_,fun i h h'=> ?_⟩,?_⟩
   ·show x.length=_
    rw[ht];omega
   ·show ZGj w d (ZM w t p)[i] x[i]
    have hi:i<(ZM w t p).length:=h
    have hi':i<x.length:=h'
    exact((g1 i (by omega)).2 hi (by omega) _ (x2 i hi' (by omega))).1
   ·rw[kQ,p.wt_eq]
    refine ZJz (show x.length=_ by omega) fun i hi hi'=> ?_
    have hi2:i<x.length:=hi
    exact((g1 i (by omega)).2 (by omega) hi' _ (x2 i hi2 (by omega))).2
def anyP0 :Pattern:=⟨1,0,0,0,0,[]⟩
def ZNP (w:List Data)(k:Nat)(t:Ty)(p:Pattern):Prop:=p=anyP0∨(ZGj w (10-k) t p/\p.op≠2/\p.op≠6)
theorem ZLr {w:List Data}{d:Nat}{t:Ty}{p:Pattern}(h:ZGj w d t p):p.op=1∨p.op=2∨(p.op=3/\t.data= -1)∨(p.op=4/\p.ctor∈ZP w t)∨p.op=6:=by
 cases d with
 |zero=>exact h.elim
 |succ d=>
  obtain⟨h1,h2,_⟩:=h
  unfold ZEb at h1
  rcases h1 with h1|h1|h1|h1|h1|h1
  ·exact .inl h1.1
  ·exact .inr (.inl h1.1)
  ·exact .inr (.inr (.inl ⟨h1.1,h1.2.2.2.1⟩))
  ·exact .inr (.inr (.inr (.inl ⟨h1.1,h1.2.2.2.2⟩)))
  ·exact absurd h1.1 h2
  ·exact .inr (.inr (.inr (.inr h1.1)))
theorem P.YAd :F.f92=some anyP0:=rfl
theorem P.YAk {w:List Data}{t:Ty}(row:ZA)(path:List Int)(hp:path.length<=10):∀(d:Nat) (p:Pattern) (z:List PathBind),ZGj w d t p->z.length+1+p.wt<=1048576->(∀b,b∈z->b.path.length<=10)->
  ∃z' q,vM row path z p.op p.ctor p.n p.m p.var p.kids=some (z',q.op,q.ctor,q.n,q.m,q.var,q.kids)/\ZGj w d t q/\q.op≠6/\z'.length+q.wt<=z.length+p.wt/\∀b,b∈z'->b.path.length<=10
 |0,_,_,h,_,_=>h.elim
 |d+1,p,z,h,hb,hz=>by
  rw[vM]
  by_cases h6:p.op=6
  ·have hs:=h
   obtain⟨h1,h2,h3,h4⟩:=h
   have ht:ZM w t p=[t]:=by unfold ZM;rw[iN (by omega),iN (by omega),iP h6]
   have k1:p.kids.length=1:=by rw[h3,ht];rfl
   have hk:=h4 0 (by rw[ht];simp) (by omega)
   simp only[ht,yO]at hk
   have hw:1+p.kids[0].wt<=p.wt:=by rw[p.wt_eq];exact ZAQ kP (gM _)
   rw[iP h6,iP (by omega),iP (by omega),iP (by omega),gQ (by omega)]
   simp only[oE,oS]
   obtain⟨z',q,e,a,b,c,f⟩:=P.YAk row path hp d p.kids[0] (z++[⟨p.var,path⟩]) hk (by simp;omega) (fun b hb=>by
    rcases zT.1 hb with hb|hb
    ·exact hz b hb
    ·rw[zS.1 hb];exact hp)
   exact⟨z',q,e,ZCK a,b,by simp at c;omega,f⟩
  ·rw[iN h6]
   exact⟨z,p,rfl,h,h6,zB _,hz⟩
theorem P.Yx {w:List Data}{t:Ty}{k:Nat}(row:ZA)(path:List Int)(hk:path.length<=k)(hk2:k<=10)(p:Pattern)(h:p=anyP0∨ZGj w (10-k) t p)(hb:row.f2.length+1+p.wt<=1048576)(hz:∀b,b∈row.f2->b.path.length<=10):
  ∃z q,F.f114 row p path=some (⟨row.f0,row.f1,z⟩,q)/\ZNP w k t q/\z.length+q.wt<=row.f2.length+1+p.wt/\(p=anyP0->z.length+q.wt<=row.f2.length)/\∀b,b∈z->b.path.length<=10:=by
 unfold F.f114
 rcases h with rfl|h
 ·rw[vM,iN (by decide)]
  simp only[oE,oS]
  rw[iN (by decide)]
  have hq0:(anyP0:Pattern).wt=0:=by rw[kQ];rfl
  exact⟨row.f2,anyP0,rfl,.inl rfl,by omega,fun _=>by omega,hz⟩
 ·have hq00:(anyP0:Pattern).wt=0:=by rw[kQ];rfl
  have hne:p=anyP0->row.f2.length+p.wt<=row.f2.length:=fun e=>by rw[e,hq00];exact zB _
  obtain⟨z,q,e,a,b,c,f⟩:=P.YAk row path (by omega) (10-k) p row.f2 h (by omega) hz
  rw[e]
  simp only[oE,oS]
  by_cases h2:q.op=2
  ·have hq0:(anyP0:Pattern).wt=0:=by rw[kQ];rfl
   rw[iP h2,iP (by omega),iP (by omega),iP (by omega),P.YAd]
   simp only[oS]
   refine⟨_,_,rfl,.inl rfl,by rw[hq0];simp;omega,fun e=> ?_,fun b hb=> ?_⟩
   ·subst e
    have:q.op=1:=by
     have e2:=‹vM _ _ _ _ _ _ _ _ _=_›
     rw[vM,iN (by decide)]at e2
     have:=zA e2
     exact(congrArg (fun x=>x.2.1) this).symm
    omega
   ·rcases zT.1 hb with hb|hb
    ·exact f b hb
    ·rw[zS.1 hb];show path.length<=10;omega
  ·rw[iN h2]
   exact⟨z,q,(by cases q;rfl),.inr ⟨a,h2,b⟩,by omega,fun e=>by have:=hne e;omega,f⟩
structure RowOk (w:List Data)(cols:List ZC)(n W:Nat)(r:ZA):Prop where
 lo:0<=r.f0
 hi:r.f0<n
 len:r.f1.length=cols.length
 pat:∀i (h:i<r.f1.length) (h':i<cols.length),ZNP w cols[i].f0.length cols[i].f1 r.f1[i]
 wt:r.f2.length+(r.f1.map kP).sum<=W
 path:∀b,b∈r.f2->b.path.length<=10
structure ColsOk (w:List Data)(cols:List ZC)(B:Nat):Prop where
 len:cols.length<=B
 ty:∀c,c∈cols->Za w c.f1
 path:∀c,c∈cols->c.f0.length<=10
 ints:∀c,c∈cols->∀k,k∈c.f0->inR k
theorem P.YAu (row:ZA):∀(m i:Nat),row.f1.length-i=m->(∀k (h:k<row.f1.length),k<i->row.f1[k].op=1)->
  (uX row i=some (.go ())/\∀k (h:k<row.f1.length),row.f1[k].op=1)∨∃k,∃h:k<row.f1.length,uX row i=some (.ret (k:Int))/\row.f1[k].op≠1
 |m,i,hm,ha=>by
  rw[uX]
  by_cases hi:i<row.f1.length
  ·rw[iP hi,gQ hi]
   simp only[oE,oS]
   by_cases h1:row.f1[i].op=1
   ·rw[iP h1]
    match m,hm with
    |0,hm=>omega
    |m+1,hm=>
     exact P.YAu row m (i+1) (by omega) fun k h hk=>by
      by_cases e:k=i
      ·subst e;exact h1
      ·exact ha k h (by omega)
   ·rw[iN h1];exact .inr ⟨i,hi,rfl,h1⟩
  ·rw[iN hi];exact .inl ⟨rfl,fun k h=>ha k h (by omega)⟩
theorem P.YAz (row:ZA):(uW row=some (-1)/\∀k (h:k<row.f1.length),row.f1[k].op=1)∨∃k:Nat,∃h:k<row.f1.length,uW row=some (k:Int)/\row.f1[k].op≠1:=by
 unfold uW
 rcases P.YAu row _ 0 rfl (fun k _ h=>by omega)with⟨e,h⟩|⟨k,hk,e,h⟩
 ·rw[e];exact .inl ⟨rfl,h⟩
 ·rw[e];exact .inr ⟨k,hk,rfl,h⟩
theorem ZD0 (n:Nat):∀l:List PathBind,l.countP (fun b=>decide ((n:Int)<=b.var))=l.countP (fun b=>decide (b.var=(n:Int)))+l.countP (fun b=>decide (((n+1:Nat):Int)<=b.var))
 | []=>rfl
 |x::l=>by
  rw[List.countP_cons,List.countP_cons,List.countP_cons,ZD0 n l]
  simp only[decide_eq_true_eq]
  repeat' split
  all_goals omega
theorem P.YAa (l:List PathBind)(hp:∀b,b∈l->b.path.length<=10)(n:Nat):∀(m i:Nat) (out:List PathBind),l.length-i=m->out.length+m<=67108864->(∀b,b∈out->b.path.length<=10)->
  ∃r,uV l n out i=some r/\r.length<=out.length+(l.drop i).countP (fun b=>decide (b.var=(n:Int)))/\∀b,b∈r->b.path.length<=10
 |0,i,out,hm,hb,ho=>by rw[uV,iN (by omega)];exact⟨out,rfl,by omega,ho⟩
 |m+1,i,out,hm,hb,ho=>by
  have hi:i<l.length:=by omega
  have h10:=hp _ (gM hi)
  rw[uV,iP hi,gQ hi,zR hi,List.countP_cons]
  simp only[oE,oS]
  split
  ·next hv=>
   rw[iP (by omega),iP (by omega),iP (by simp[hv])]
   obtain⟨r,e,a,b⟩:=P.YAa l hp n m (i+1) (out++[⟨(n:Int),l[i].path⟩]) (by omega) (by simp;omega) (fun b hb=>by
    rcases zT.1 hb with hb|hb
    ·exact ho b hb
    ·rw[zS.1 hb];exact h10)
   exact⟨r,e,by simp only[yH,xG]at a;omega,b⟩
  ·obtain⟨r,e,a,b⟩:=P.YAa l hp n m (i+1) out (by omega) (by omega) ho
   exact⟨r,e,by omega,b⟩
end Go.Vl
set_option maxRecDepth 100000
namespace Go.Vl
open Go Go.RowKit
open F renaming f53->kW,f195->kX,f183->kY,f182->kZ
open Go.IntKind (i64)
theorem P.YAw (l:List PathBind)(hl:l.length<=1048576)(hp:∀b,b∈l->b.path.length<=10):∀(m n:Nat) (out:List PathBind),6-n=m->out.length+l.countP (fun b=>decide ((n:Int)<=b.var))<=1048576->(∀b,b∈out->b.path.length<=10)->
  ∃r,F.f121 l out n=some r/\r.length<=out.length+l.countP (fun b=>decide ((n:Int)<=b.var))/\∀b,b∈r->b.path.length<=10
 |0,n,out,hm,hb,ho=>by rw[F.f121,iN (by omega)];exact⟨out,rfl,by omega,ho⟩
 |m+1,n,out,hm,hb,ho=>by
  have hs:=ZD0 n l
  obtain⟨r,e,a,b⟩:=P.YAa l hp n _ 0 out rfl (by omega) ho
  rw[zU]at a
  rw[F.f121,iP (by omega),e]
  simp only[oE,oS]
  rw[iP (by omega)]
  obtain⟨r2,e2,a2,b2⟩:=P.YAw l hl hp m (n+1) r (by omega) (by omega) b
  exact⟨r2,e2,by omega,b2⟩
theorem P.YA0 (l:List PathBind)(hl:l.length<=1048576)(hp:∀b,b∈l->b.path.length<=10):∃r,F.f122 l=some r/\r.length<=l.length/\∀b,b∈r->b.path.length<=10:=by
 have hc:=List.countP_le_length (p:=fun b:PathBind=>decide (((0:Nat):Int)<=b.var)) (l:=l)
 obtain⟨r,e,a,b⟩:=P.YAw l hl hp 6 0 [] rfl (by simp only[xO];omega) (by simp)
 unfold F.f122
 rw[e]
 exact⟨r,rfl,by simp only[xO]at a;omega,b⟩
theorem P.YAV (rows:List ZA)(c:Int)(hr:rows.length<=67108864):∀(m i:Nat) (out:List ZA),rows.length-i=m->i<=rows.length->out.length<=i->(∀r,r∈out->r∈rows)->
  ∃l,F.f123 rows c out i=some l/\l.length<=rows.length/\∀r,r∈l->r∈rows
 |m,i,out,hm,hir,ho,hq=>by
  rw[F.f123]
  by_cases hi:i<rows.length
  ·rw[iP hi,gQ hi]
   simp only[oE,oS]
   match m,hm with
   |0,hm=>omega
   |m+1,hm=>
    split
    ·exact P.YAV rows c hr m (i+1) out (by omega) (by omega) (by omega) hq
    ·rw[iP (by omega)]
     exact P.YAV rows c hr m (i+1) _ (by omega) (by omega) (by simp;omega) fun r h=>by
      rcases zT.1 h with h|h
      ·exact hq r h
      ·rw[zS.1 h];exact gM hi
  ·rw[iN hi];exact⟨out,rfl,by omega,hq⟩
theorem P.YAy (rows:List ZA)(c:Int)(hr:rows.length<=67108864):∃l,F.f124 rows c=some l/\l.length<=rows.length/\∀r,r∈l->r∈rows:=by
 obtain⟨l,e,h⟩:=P.YAV rows c hr _ 0 [] rfl (by omega) (by simp) (by simp)
 unfold F.f124
 rw[e]
 exact⟨l,rfl,h⟩
theorem P.YAZ (rows:List ZA)(a:Nat)(hr:rows.length<=67108864)(ha:∀r,r∈rows->a<r.f1.length):∀(m i n:Nat),rows.length-i=m->n<=i->i<=rows.length->∃c,F.f125 rows (a:Int) n i=some c
 |m,i,n,hm,hn,hir=>by
  rw[F.f125]
  by_cases hi:i<rows.length
  ·rw[iP hi,gQ hi]
   simp only[oE,oS]
   rw[ZAN (ha _ (gM hi))]
   simp only[oS]
   match m,hm with
   |0,hm=>omega
   |m+1,hm=>
    split
    ·exact P.YAZ rows a hr ha m (i+1) n (by omega) (by omega) (by omega)
    ·rw[iP (by omega)]
     exact P.YAZ rows a hr ha m (i+1) (n+1) (by omega) (by omega) (by omega)
  ·rw[iN hi];exact⟨n,rfl⟩
theorem P.YAc (rows:List ZA)(a:Nat)(hr:rows.length<=67108864)(ha:∀r,r∈rows->a<r.f1.length):∃c,F.f126 rows (a:Int)=some c:=by
 obtain⟨c,e⟩:=P.YAZ rows a hr ha _ 0 0 rfl (by omega) (by omega)
 unfold F.f126
 rw[e]
 exact⟨_,rfl⟩
theorem P.YBN (rows:List ZA)(a:Nat)(n:Int)(ha:∀r,r∈rows->a<r.f1.length):∀(m i:Nat),rows.length-i=m->∃c,F.f131 rows (a:Int) n i=some c
 |m,i,hm=>by
  rw[F.f131]
  by_cases hi:i<rows.length
  ·rw[iP hi,gQ hi]
   simp only[oE,oS]
   rw[ZAN (ha _ (gM hi))]
   simp only[oS]
   match m,hm with
   |0,hm=>omega
   |m+1,hm=>
    split
    ·split
     ·exact⟨_,rfl⟩
     ·split
      ·exact⟨_,rfl⟩
      ·exact P.YBN rows a n ha m (i+1) (by omega)
    ·exact P.YBN rows a n ha m (i+1) (by omega)
  ·rw[iN hi];exact⟨_,rfl⟩
theorem P.YBR (rows:List ZA)(a:Nat)(n:Int)(ha:∀r,r∈rows->a<r.f1.length):∃c,F.f132 rows (a:Int) n=some c:=by
 obtain⟨c,e⟩:=P.YBN rows a n ha _ 0 rfl
 unfold F.f132
 rw[e]
 cases c<;>exact⟨_,rfl⟩
def ZJx (w:List Data)(t:Ty)(b:Branch):Prop:=if t.data= -1 then b.ctor= -1 else b.ctor∈ZP w t
theorem ZLd :inR 0:=⟨by decide,by decide⟩
theorem ZFO {n:Int}(h: -100000000<=n)(h':n<=100000000):inR n:=⟨by omega,by omega⟩
def ZOs (w:List Data)(t:Ty)(b:Branch):Prop:=ZJx w t b/\inR b.n/\inR b.m
theorem P.YAf (w:List Data)(t:Ty)(h1:t.data= -1)(rows:List ZA)(a:Nat)(ha:∀r,r∈rows->a<r.f1.length):∀(m n f:Nat) (out:List Branch),11-n=m->out.length<=n->f<=11->n<=11->(∀b,b∈out->ZOs w t b)->
  ∃l,F.f134 rows (a:Int) out f n=some l/\l.length<=11/\∀b,b∈l->ZOs w t b
 |0,n,f,out,hm,ho,hf,hn,hb=>by rw[F.f134,iN (by omega)];exact⟨out,rfl,by omega,hb⟩
 |m+1,n,f,out,hm,ho,hf,hn,hb=>by
  have hb2:∀b,b∈out++[(⟨-1,(f:Int),i64.wrap ((n:Int) -1),⟨0,0,[],[],[],[]⟩⟩:Branch)]->ZOs w t b:=fun b h=>by
   rcases zT.1 h with h|h
   ·exact hb b h
   ·rw[zS.1 h];exact⟨by unfold ZJx;rw[iP h1],ZFO (by show _<=(f:Int);omega) (by show(f:Int)<=_;omega),by show inR (i64.wrap ((n:Int) -1));rw[ZF (by omega) (by omega)];exact ZFO (by omega) (by omega)⟩
  rw[F.f134,iP (by omega)]
  split
  ·rw[iP (by omega),iP (by omega)]
   exact P.YAf w t h1 rows a ha m (n+1) n _ (by omega) (by simp;omega) (by omega) (by omega) hb2
  ·obtain⟨c,e⟩:=P.YBR rows a n ha
   rw[e]
   simp only[oE,oS]
   split
   ·rw[iP (by omega),iP (by omega)]
    exact P.YAf w t h1 rows a ha m (n+1) n _ (by omega) (by simp;omega) (by omega) (by omega) hb2
   ·rw[iP (by omega)]
    exact P.YAf w t h1 rows a ha m (n+1) f out (by omega) (by omega) (by omega) (by omega) hb
theorem ZPH {w:List Data}{t:Ty}(h:Za w t):tIx w t:=by
 obtain⟨h1|h1,h2⟩:=h
 ·exact .inl h1.1
 ·exact .inr ⟨h1.1,h1.2.1,h2,h1.2.2.2⟩
theorem P.YA9 (c:Int)(ts:List Ty)(hl:ts.length<=67108864):∀(m i:Nat) (out:List Pattern),ts.length-i=m->out.length+m<=67108864->F.f127 c ts out i=some (out++yQ m anyP0)
 |0,i,out,hm,ho=>by rw[F.f127,iN (by omega)];simp
 |m+1,i,out,hm,ho=>by
  have hi:i<ts.length:=by omega
  rw[F.f127,iP hi,P.YAd]
  simp only[oE,oS]
  rw[iP (by omega),P.YA9 c ts hl m (i+1) _ (by omega) (by simp;omega),List.replicate_succ]
  simp
theorem P.YBJ {w:List Data}(hw:ZS w){t:Ty}(ht:tOk w t){c:Int}(h:c∈ZP w t):F.f128 w t c=some ⟨4,c,0,0,0,yQ (ZQ w t c).length anyP0⟩:=by
 have h3:=(ZHt hw ht h).1
 unfold F.f128
 rw[P.YB w hw t ht c h]
 simp only[oE,oS]
 rw[P.YA9 c _ (by omega) _ 0 [] rfl (by simp;omega)]
 simp
theorem P.YAx {w:List Data}{T:List Int}(h:TOk w T)(p:Pattern)(ts:List Ty)(ht:∀a,a∈ts->Za w a)(hp:p.kids=yQ ts.length anyP0):∀(m i:Nat),ts.length-i=m->∃r,F.f130 w T p ts i=some r
 |m,i,hm=>by
  rw[F.f130]
  by_cases hi:i<ts.length
  ·rw[iP hi,gQ hi,hp,gQ (by simpa using hi)]
   simp only[oE,oS,List.getElem_replicate]
   rw[F.f129,iP (show anyP0.op=1 from rfl),P.YI h (ZPH (ht _ (gM hi)))]
   simp only[oE,oS]
   match m,hm with
   |0,hm=>omega
   |m+1,hm=>
    split
    ·exact P.YAx h p ts ht hp m (i+1) (by omega)
    ·exact⟨_,rfl⟩
  ·rw[iN hi];exact⟨_,rfl⟩
theorem P.YA1 {w:List Data}{T:List Int}(h:TOk w T){t:Ty}(ht:Za w t){c:Int}(hc:c∈ZP w t):∃b,F.f129 w T t ⟨4,c,0,0,0,yQ (ZQ w t c).length anyP0⟩=some b:=by
 rw[F.f129,iN (show ¬(4:Int)=1 by decide),iN (show ¬(4:Int)=3 by decide),P.YB w h.wok t (ZAP ht.1) c hc]
 simp only[oE,oS]
 obtain⟨r,e⟩:=P.YAx h ⟨4,c,0,0,0,yQ (ZQ w t c).length anyP0⟩ (ZQ w t c) (ZBj h.wok ht hc) rfl _ 0 rfl
 rw[e]
 cases r<;>exact⟨_,rfl⟩
theorem P.YAv {w:List Data}{T:List Int}(h:TOk w T){col:ZC}(ht:Za w col.f1):∀(m i:Nat) (out:List Branch),(ZP w col.f1).length-i=m->out.length+m<=100->(∀b,b∈out->ZOs w col.f1 b)->
  ∃l,F.f133 w col T (ZP w col.f1) out i=some l/\l.length<=out.length+m/\∀b,b∈l->ZOs w col.f1 b
 |0,i,out,hm,ho,hb=>by rw[F.f133,iN (by omega)];exact⟨out,rfl,by omega,hb⟩
 |m+1,i,out,hm,ho,hb=>by
  have hi:i<(ZP w col.f1).length:=by omega
  have hc:=gM hi
  obtain⟨b,e⟩:=P.YA1 h ht hc
  rw[F.f133,iP hi,gQ hi]
  simp only[oE,oS]
  rw[P.YBJ h.wok (ZAP ht.1) hc]
  simp only[oS]
  rw[e]
  simp only[oS]
  split
  ·rw[iP (by omega)]
   obtain⟨l,e2,a,b2⟩:=P.YAv h ht m (i+1) (out++[⟨(ZP w col.f1)[i],0,0,⟨0,0,[],[],[],[]⟩⟩]) (by omega) (by simp;omega) (fun b hb2=>by
    rcases zT.1 hb2 with hb2|hb2
    ·exact hb b hb2
    ·rw[zS.1 hb2];exact⟨by unfold ZJx;rw[iN (ZY hc).1];exact hc,ZLd,ZLd⟩)
   exact⟨l,e2,by simp at a;omega,b2⟩
  ·obtain⟨l,e2,a,b2⟩:=P.YAv h ht m (i+1) out (by omega) (by omega) hb
   exact⟨l,e2,by omega,b2⟩
theorem P.YAX {w:List Data}{T:List Int}(h:TOk w T)(hT:kW w=some T){col:ZC}(ht:Za w col.f1)(hcl:(ZP w col.f1).length<=50)(rows:List ZA)(a:Nat)(ha:∀r,r∈rows->a<r.f1.length):
  ∃l,F.f135 w col rows (a:Int)=some l/\l.length<=50/\∀b,b∈l->ZOs w col.f1 b:=by
 unfold F.f135
 split
 ·next h1=>
  obtain⟨l,e,b,c⟩:=P.YAf w col.f1 h1 rows a ha _ 1 0 [] rfl (by simp) (by omega) (by omega) (by simp)
  rw[e]
  exact⟨l,rfl,by omega,c⟩
 ·rw[hT]
  simp only[oE,oS]
  rw[P.YJ w h.wok _ (ZAP ht.1)]
  simp only[oS]
  obtain⟨l,e,b,c⟩:=P.YAv h ht _ 0 [] rfl (by simp;omega) (by simp)
  rw[e]
  exact⟨l,rfl,by simp at b;omega,c⟩
theorem ZBT {w:List Data}(hw:ZS w){t:Ty}(ht:tOk w t):(ZP w t).length<=4:=by
 unfold ZP
 split
 ·simp
 ·next hn=>
  have:=(Zr hw ht hn).1
  have h2:=ZE3 t.index 0 (Zu w t).ctors
  omega
structure CompOk (w:List Data)(n:Nat)(cols:List ZC)(rows:List ZA)(B:Nat):Prop where
 okC:ColsOk w cols B
 okR:∀r,r∈rows->RowOk w cols n 60 r
 few:rows.length<=4000
theorem P.YAn {w:List Data}{T:List Int}(h:TOk w T)(hT:kW w=some T){n:Nat}{cols:List ZC}{rows:List ZA}{B:Nat}(hc:CompOk w n cols rows B)(hB:B<=100000)(h0:0<rows.length)(pick:Int):
  ∀(m i best:Nat),cols.length-i=m->(∃h:best<(rows[0]).f1.length,(rows[0]).f1[best].op≠1)->∃b:Nat,F.f136 w cols rows pick (i:Int) (best:Int)=some (b:Int)/\∃h:b<(rows[0]).f1.length,(rows[0]).f1[b].op≠1
 |m,i,best,hm,hb=>by
  have hr0:=hc.okR _ (gM h0)
  have hlen:=hr0.len
  have hcl:=hc.okC.len
  have hall:∀a,a<cols.length->∀r,r∈rows->a<r.f1.length:=fun a ha r hr=>by rw[(hc.okR r hr).len];exact ha
  rw[F.f136]
  by_cases hi:i<cols.length
  ·rw[iP (by omega)]
   split
   ·exact⟨best,rfl,hb⟩
   ·rw[gQ h0]
    simp only[oE,oS]
    rw[ZAN (by omega:i<(rows[0]).f1.length)]
    simp only[oS]
    have hw1:i64.wrap ((i:Int)+1)=((i+1:Nat):Int):=by rw[ZF (by omega) (by omega)];omega
    rw[hw1]
    obtain⟨hbl,hbo⟩:=hb
    match m,hm with
    |0,hm=>omega
    |m+1,hm=>
     split
     ·exact P.YAn h hT hc hB h0 pick m (i+1) best (by omega) ⟨hbl,hbo⟩
     ·next h1=>
      have hrec:=fun(b:Nat) (hb:∃h:b<(rows[0]).f1.length,(rows[0]).f1[b].op≠1)=>P.YAn h hT hc hB h0 pick m (i+1) b (by omega) hb
      have r1:=hrec best ⟨hbl,hbo⟩
      have r2:=hrec i ⟨by omega,h1⟩
      split
      ·obtain⟨c1,e1⟩:=P.YAc rows i (by have:=hc.few;omega) (hall i hi)
       obtain⟨c2,e2⟩:=P.YAc rows best (by have:=hc.few;omega) (hall best (by omega))
       rw[e1]
       simp only[oS]
       rw[e2]
       simp only[oS]
       split
       ·exact r2
       ·exact r1
      ·split
       ·have hbc:best<cols.length:=by omega
        have t1:=hc.okC.ty _ (gM hi)
        have t2:=hc.okC.ty _ (gM hbc)
        obtain⟨l1,e1,_⟩:=P.YAX h hT t1 (by have:=ZBT h.wok (ZAP t1.1);omega) rows i (hall i hi)
        obtain⟨l2,e2,_⟩:=P.YAX h hT t2 (by have:=ZBT h.wok (ZAP t2.1);omega) rows best (hall best hbc)
        rw[ZAN hi]
        simp only[oS]
        rw[e1]
        simp only[oS]
        rw[ZAN hbc]
        simp only[oS]
        rw[e2]
        simp only[oS]
        split
        ·exact r2
        ·exact r1
       ·exact r1
  ·rw[iN (by omega)];exact⟨best,rfl,hb⟩
theorem P.YBF {w:List Data}{T:List Int}(h:TOk w T)(hT:kW w=some T){n:Nat}{cols:List ZC}{rows:List ZA}{B:Nat}(hc:CompOk w n cols rows B)(hB:B<=100000)(h0:0<rows.length)(pick:Int)
  {k:Nat} (hk:k<(rows[0]).f1.length) (he:F.f119 rows[0]=some (k:Int)) (ho:(rows[0]).f1[k].op≠1):∃b:Nat,F.f137 w cols rows pick=some (b:Int)/\∃h:b<(rows[0]).f1.length,(rows[0]).f1[b].op≠1:=by
 have hlen:=(hc.okR _ (gM h0)).len
 have hcl:=hc.okC.len
 unfold F.f137
 rw[gQ h0]
 simp only[oE,oS]
 rw[he]
 simp only[oS]
 rw[ZF (by omega) (by omega),show((k:Int)+1)=((k+1:Nat):Int)from by omega]
 obtain⟨b,e,hb⟩:=P.YAn h hT hc hB h0 pick _ (k+1) k rfl ⟨hk,ho⟩
 rw[e]
 exact⟨b,rfl,hb⟩
def Zs (path:List Int):Nat->List Ty->List ZC
 |_,[]=>[]
 |k,t::r=>⟨path++[(k:Int)],t⟩::Zs path (k+1) r
theorem Zq (path:List Int):∀(k:Nat) (ts:List Ty),(Zs path k ts).length=ts.length
 |_,[]=>rfl
 |k,t::r=>by simp[Zs,Zq path (k+1) r]
theorem ZBU (path:List Int):∀(k:Nat) (ts:List Ty) (i:Nat) (h:i<(Zs path k ts).length) (h':i<ts.length),(Zs path k ts)[i]=⟨path++[((k+i:Nat):Int)],ts[i]⟩
 |k,[],i,h,h'=>absurd h' (by simp)
 |k,t::r,0,h,h'=>rfl
 |k,t::r,i+1,h,h'=>by
  have:=ZBU path (k+1) r i (by simpa[Zs]using h) (by simpa using h')
  simp only[Zs,yT,this]
  congr 3
  omega
noncomputable def Zv (w:List Data)(c:ZC)(b:Branch):List Ty:=if b.ctor= -1 then[]else ZQ w c.f1 b.ctor
noncomputable def ZZ (w:List Data)(cols:List ZC)(a:Nat)(c:ZC)(b:Branch):List ZC:=cols.take a++Zs c.f0 0 (Zv w c b)++cols.drop (a+1)
theorem P.YAb (cols:List ZC)(a:Nat)(ha:a<cols.length)(hp:cols[a].f0.length<=1048576)(ts:List Ty):∀(m i:Nat) (out:List ZC),ts.length-i=m->out.length+m<=67108864->F.f139 cols (a:Int) ts out i=some (out++Zs cols[a].f0 i (ts.drop i))
 |0,i,out,hm,ho=>by rw[F.f139,iN (by omega),zW (by omega)];simp[Zs]
 |m+1,i,out,hm,ho=>by
  have hi:i<ts.length:=by omega
  rw[F.f139,iP hi,ZAN ha]
  simp only[oE,oS]
  unfold F.f138
  rw[iP (by omega),iP (by omega)]
  simp only[oS]
  rw[gQ hi]
  simp only[oS]
  rw[iP (by omega),P.YAb cols a ha hp ts m (i+1) _ (by omega) (by simp;omega),zR hi]
  simp[Zs]
theorem ZCt {w:List Data}(hw:ZS w){c:ZC}(ht:Za w c.f1){b:Branch}(hb:ZJx w c.f1 b):(Zv w c b).length<=3/\∀t,t∈Zv w c b->Za w t:=by
 unfold Zv
 unfold ZJx at hb
 split
 ·simp
 ·next h1=>
  split at hb
  ·exact absurd hb h1
  ·exact⟨(ZHt hw (ZAP ht.1) hb).1,ZBj hw ht hb⟩
theorem P.YAI {w:List Data}(hw:ZS w){cols:List ZC}{B:Nat}(hc:ColsOk w cols B)(hB:B<=100000){a:Nat}(ha:a<cols.length){b:Branch}(hb:ZJx w cols[a].f1 b):F.f140 w cols (a:Int) b=some (ZZ w cols a cols[a] b):=by
 have hl:=hc.len
 have ht:=hc.ty _ (gM ha)
 have hp:=hc.path _ (gM ha)
 have hw1:i64.wrap ((a:Int)+1)=((a+1:Nat):Int):=by rw[ZF (by omega) (by omega)];omega
 have hn:=ZCt hw ht hb
 unfold F.f140
 rw[hw1]
 simp only[xV,zU,zE]
 have hdrop:(cols.drop (a+1)).take (cols.length- (a+1))=cols.drop (a+1):=yN (by simp)
 rw[hdrop,iP (by omega),iP (by simp;omega)]
 by_cases h1:b.ctor= -1
 ·rw[iP h1,iP (by omega),iP (by simp;omega)]
  simp[ZZ,Zv,h1,Zs]
 ·unfold ZJx at hb
  split at hb
  ·exact absurd hb h1
  ·have e:Zv w cols[a] b=ZQ w cols[a].f1 b.ctor:=by unfold Zv;rw[iN h1]
   rw[e]at hn
   rw[iN h1,ZAN ha]
   simp only[oE,oS]
   rw[P.YB w hw _ (ZAP ht.1) _ hb]
   simp only[oS]
   rw[P.YAb cols a ha (by omega) _ _ 0 _ rfl (by simp;omega)]
   simp only[oS]
   rw[iP (by omega),iP (by simp[Zq];omega)]
   simp[ZZ,e]
def ZLb (p:Pattern)(j:Nat):Nat:=if p.op=4 then((p.kids.drop j).map fun k=>1+k.wt).sum else 0
theorem ZIh :anyP0.wt=0:=by rw[Pattern.wt_eq];rfl
set_option maxHeartbeats 4000000 in
theorem P.YBS {w:List Data}(cols:List ZC)(rows:List ZA){a nl S:Nat}(ha:a<cols.length)(hcl:cols.length<=100000)(hnl:nl<=3)(b:Branch)(v:List ZC)(hv:v.length=a+nl+(cols.length- (a+1)))
  (out:List ZA) (i:Nat) (x:Pattern) (f0:Int) (hS:S<=1000)
  (hvp:∀k (h:k<v.length),v[k].f0.length<=10)
  (hx:x.op=4->x.kids.length=nl) (hk:x.op=4->∀j (h:j<x.kids.length) (h':a+j<v.length),ZGj w (10-v[a+j].f0.length) v[a+j].f1 x.kids[j]):
  ∀(m j:Nat) (z:List PathBind) (o:List Pattern),nl-j=m->j<=nl->o.length=a+j->(∀k (h:k<o.length) (h':k<v.length),ZNP w v[k].f0.length v[k].f1 o[k])->(∀b,b∈z->b.path.length<=10)->z.length+(o.map Pattern.wt).sum+ZLb x j<=S->
  ∃z' o',F.f142 cols rows (a:Int) b v out i x f0 z o ((a+j:Nat):Int)=some (f0,z',o')/\o'.length=a+nl/\(∀k (h:k<o'.length) (h':k<v.length),ZNP w v[k].f0.length v[k].f1 o'[k])/\(∀b,b∈z'->b.path.length<=10)/\z'.length+(o'.map Pattern.wt).sum<=S:=by
 have e1:i64.wrap ((v.length:Int) -i64.wrap (i64.wrap ((cols.length:Int) - (a:Int)) -1))=((a+nl:Nat):Int):=by
  have a1:i64.wrap ((cols.length:Int) - (a:Int))=(cols.length:Int) - (a:Int):=ZF (by omega) (by omega)
  have a2:i64.wrap ((cols.length:Int) - (a:Int) -1)=(cols.length:Int) - (a:Int) -1:=ZF (by omega) (by omega)
  rw[a1,a2,ZF (by omega) (by omega)]
  omega
 have ol:∀l:List Pattern,l.length<=100010->l.length+1<=67108864:=fun l h=>by omega
 intro m
 induction m with
 |zero=>
  intro j z o hm hj ho hc hz hs
  rw[F.f142.eq_def,e1,iN (by omega)]
  exact⟨z,o,rfl,by omega,hc,hz,by omega⟩
 |succ m ih=>
  intro j z o hm hj ho hc hz hs
  have hlt:j<nl:=by omega
  rw[F.f142.eq_def,e1]
  have hva:a+j<v.length:=by omega
  have hw1:i64.wrap (((a+j:Nat):Int)+1)=((a+(j+1):Nat):Int):=by rw[ZF (by omega) (by omega)];omega
  rw[iP (by omega),P.YAd,hw1]
  simp only[oE,oS]
  have next:∀(z':List PathBind) (q:Pattern),ZNP w v[a+j].f0.length v[a+j].f1 q->(∀b,b∈z'->b.path.length<=10)->z'.length+q.wt+(o.map Pattern.wt).sum+ZLb x (j+1)<=S->
    ∃z'' o',F.f142 cols rows (a:Int) b v out i x f0 z' (o++[q]) ((a+(j+1):Nat):Int)=some (f0,z'',o')/\o'.length=a+nl/\(∀k (h:k<o'.length) (h':k<v.length),ZNP w v[k].f0.length v[k].f1 o'[k])/\(∀b,b∈z''->b.path.length<=10)/\z''.length+(o'.map Pattern.wt).sum<=S:=fun z' q hq hz' hs'=>
   ih (j+1) z' (o++[q]) (by omega) (by omega) (by simp;omega) (fun k h h'=>by
    by_cases e:k<o.length
    ·rw[yA e];exact hc k e h'
    ·have:k=a+j:=by simp at h;omega
     subst this
     rw[yC (by omega)]
     simpa[ho]using hq) hz' (by simp;omega)
  split
  ·next h4=>
   have hkl:=hx h4
   have hrem:ZLb x j=(1+x.kids[j].wt)+ZLb x (j+1):=by
    unfold ZLb
    rw[iP h4,iP h4,zR (by omega:j<x.kids.length),zY,yB]
   rw[ZF (by omega) (by omega),show((a+j:Nat):Int) - (a:Int)=(j:Int)from by omega,ZAN (by omega:j<x.kids.length)]
   simp only[oS]
   rw[ZAN hva]
   simp only[oS]
   obtain⟨z',q,e2,c1,c2,_,c4⟩:=P.Yx (w:=w) (t:=v[a+j].f1) (k:=v[a+j].f0.length) ⟨f0,o,z⟩ v[a+j].f0 (zB _) (hvp _ hva) x.kids[j] (.inr (hk h4 j (by omega) hva)) (by show z.length+1+_<=_;omega) hz
   rw[e2]
   simp only[oS]
   rw[iP (ol o (by omega))]
   exact next z' q c1 c4 (by show _;simp only at c2;omega)
  ·next h4=>
   have hrem:ZLb x j=ZLb x (j+1):=by unfold ZLb;rw[iN h4,iN h4]
   rw[ZAN hva]
   simp only[oS]
   obtain⟨z',q,e2,c1,_,c3,c4⟩:=P.Yx (w:=w) (t:=v[a+j].f1) (k:=v[a+j].f0.length) ⟨f0,o,z⟩ v[a+j].f0 (zB _) (hvp _ hva) anyP0 (.inl rfl) (by rw[ZIh];show z.length+1+_<=_;omega) hz
   rw[e2]
   simp only[oS]
   rw[iP (ol o (by omega))]
   have c3:=c3 rfl
   exact next z' q c1 c4 (by simp only at c3;omega)
theorem P.YBH (p:Pattern)(b:Branch):∃v,F.f141 p b=some v/\(v=true->p.op=1∨p.op=3∨p.ctor=b.ctor):=by
 unfold F.f141
 split
 ·next h=>exact⟨_,rfl,fun _=>.inl h⟩
 ·split
  ·next h=>
   split
   ·exact⟨_,rfl,fun _=>.inr (.inl h)⟩
   ·exact⟨_,rfl,fun _=>.inr (.inl h)⟩
  ·exact⟨_,rfl,fun h=>.inr (.inr (of_decide_eq_true h))⟩
theorem ZDq {w:List Data}{cols:List ZC}{a:Nat}(ha:a<cols.length)(b:Branch):(ZZ w cols a cols[a] b).length=a+(Zv w cols[a] b).length+(cols.length- (a+1)):=by
 simp[ZZ,Zq];omega
theorem ZJK {w:List Data}{cols:List ZC}{a:Nat}(ha:a<cols.length)(b:Branch){k:Nat}(hk:k<a)(h:k<(ZZ w cols a cols[a] b).length):(ZZ w cols a cols[a] b)[k]=cols[k]:=by
 revert h;unfold ZZ;intro h
 rw[yA (by simp[Zq];omega),yA (by simp;omega),List.getElem_take]
theorem ZHJ {w:List Data}{cols:List ZC}{a:Nat}(ha:a<cols.length)(b:Branch){j:Nat}(hj:j<(Zv w cols[a] b).length)(h:a+j<(ZZ w cols a cols[a] b).length):(ZZ w cols a cols[a] b)[a+j]=⟨cols[a].f0++[(j:Int)],(Zv w cols[a] b)[j]⟩:=by
 revert h;unfold ZZ;intro h
 rw[yA (by simp[Zq];omega),yC (by simp;omega)]
 have e:a+j- (cols.take a).length=j:=by simp;omega
 simp only[e]
 rw[ZBU _ _ _ _ _ hj]
 simp
theorem ZJL {w:List Data}{cols:List ZC}{a:Nat}(ha:a<cols.length)(b:Branch){j:Nat}(hj:a+1+j<cols.length)(h:a+(Zv w cols[a] b).length+j<(ZZ w cols a cols[a] b).length):(ZZ w cols a cols[a] b)[a+(Zv w cols[a] b).length+j]=cols[a+1+j]:=by
 revert h;unfold ZZ;intro h
 rw[yC (by simp[Zq];omega)]
 have e:a+(Zv w cols[a] b).length+j- (cols.take a++Zs cols[a].f0 0 (Zv w cols[a] b)).length=j:=by simp[Zq];omega
 simp only[e]
 rw[List.getElem_drop]
theorem ZEc {w:List Data}(hw:ZS w){cols:List ZC}{B:Nat}(hc:ColsOk w cols B){a:Nat}(ha:a<cols.length)(h9:cols[a].f0.length<=9){b:Branch}(hb:ZJx w cols[a].f1 b):ColsOk w (ZZ w cols a cols[a] b) (B+3):=by
 have hn:=ZCt hw (hc.ty _ (gM ha)) hb
 have hl:=hc.len
 have mem:∀c,c∈ZZ w cols a cols[a] b->c∈cols∨∃j,∃h:j<(Zv w cols[a] b).length,c=⟨cols[a].f0++[(j:Int)],(Zv w cols[a] b)[j]⟩:=by
  intro c h
  unfold ZZ at h
  rcases zT.1 h with h|h
  ·rcases zT.1 h with h|h
   ·exact .inl (yJ h)
   ·obtain⟨j,hj,rfl⟩:=zV h
    have hj2:j<(Zv w cols[a] b).length:=by rw[Zq]at hj;exact hj
    refine .inr ⟨j,hj2,?_⟩
    rw[ZBU _ _ _ _ _ hj2]
    simp
  ·exact .inl (yW h)
 refine⟨by rw[ZDq ha];omega,fun c h=> ?_,fun c h=> ?_,fun c h=> ?_⟩
 ·rcases mem c h with h|⟨j,hj,rfl⟩
  ·exact hc.ty c h
  ·exact hn.2 _ (gM hj)
 ·rcases mem c h with h|⟨j,hj,rfl⟩
  ·exact hc.path c h
  ·simp;omega
 ·rcases mem c h with h|⟨j,hj,rfl⟩
  ·exact hc.ints c h
  ·intro k hk
   rcases zT.1 hk with hk|hk
   ·exact hc.ints _ (gM ha) k hk
   ·rw[zS.1 hk];exact ZFO (by omega) (by omega)
theorem P.YA7 {w:List Data}(hw:ZS w){cols:List ZC}{B:Nat}(hc:ColsOk w cols B)(hB:B<=100000){a:Nat}(ha:a<cols.length)(h9:cols[a].f0.length<=9){b:Branch}(hb:ZJx w cols[a].f1 b){n:Nat}{x:ZA}(hx:RowOk w cols n 60 x)(hxa:a<x.f1.length)
  (fit:x.f1[a].op=1∨x.f1[a].op=3∨x.f1[a].ctor=b.ctor) (rows:List ZA) (out:List ZA) (i:Nat):
  ∃z o,F.f142 cols rows (a:Int) b (ZZ w cols a cols[a] b) out i x.f1[a] x.f0 x.f2 (x.f1.take a) (a:Int)=some (x.f0,z,o)/\o.length<=a+3/\RowOk w (ZZ w cols a cols[a] b) n 60 ⟨x.f0,o++x.f1.drop (a+1),z⟩:=by
 have hlen:=hx.len
 have hcl:=hc.len
 have hn:=ZCt hw (hc.ty _ (gM ha)) hb
 have hok:=ZEc hw hc ha h9 hb
 have hvl:=ZDq (w:=w) ha b
 have hpa:=hx.pat a hxa ha
 have hsum:(x.f1.map Pattern.wt).sum=((x.f1.take a).map Pattern.wt).sum+x.f1[a].wt+((x.f1.drop (a+1)).map Pattern.wt).sum:=by
  have e0:x.f1=x.f1.take a++x.f1[a]::x.f1.drop (a+1):=by rw[←zR hxa,xD]
  have e1:=congrArg (fun l=>(l.map Pattern.wt).sum) e0
  simp only[yP,zY,yU,yB]at e1
  omega
 have hwt:=hx.wt
 have op4:x.f1[a].op=4->ZGj w (10-cols[a].f0.length) cols[a].f1 x.f1[a]:=fun h4=>by
  rcases hpa with e|⟨e,_⟩
  ·rw[e]at h4;cases h4
  ·exact e
 have ty4:x.f1[a].op=4->ZM w cols[a].f1 x.f1[a]=Zv w cols[a] b:=fun h4=>by
  have hct:x.f1[a].ctor=b.ctor:=by
   rcases fit with f|f|f
   ·omega
   ·omega
   ·exact f
  rcases ZLr (op4 h4)with h|h|⟨h,_⟩|⟨_,h⟩|h
  ·omega
  ·omega
  ·omega
  ·have:=(ZY h).2.1
   unfold ZM Zv
   rw[iP h4,hct,iN (by omega)]
  ·omega
 have hrem:ZLb x.f1[a] 0<=x.f1[a].wt:=by
  have key:∀l:List Pattern,(l.map fun k=>1+k.wt).sum=wtL Pattern.wt l:=by
   intro l
   induction l with
   |nil=>rfl
   |cons a r ih=>simp[ih]
  unfold ZLb
  split
  ·rw[zU,key,←Pattern.wt_eq];exact zB _
  ·exact zN _
 obtain⟨z,o,e,o1,o2,o3,o4⟩:=P.YBS (w:=w) cols rows (nl:=(Zv w cols[a] b).length) (S:=x.f2.length+((x.f1.take a).map Pattern.wt).sum+x.f1[a].wt) ha (by omega) hn.1 b (ZZ w cols a cols[a] b) hvl out i x.f1[a] x.f0 (by omega)
  (fun k h=>hok.path _ (gM h))
  (fun h4=>by
   have:=op4 h4
   have h3:=ty4 h4
   revert this
   cases hd:10-cols[a].f0.length with
   |zero=>intro h;exact h.elim
   |succ d=>intro h;rw[h.2.2.1,h3])
  (fun h4 j hj hv=>by
   have:=op4 h4
   have h3:=ty4 h4
   have hd:10-cols[a].f0.length=(9-cols[a].f0.length)+1:=by omega
   rw[hd]at this
   have hk:=this.2.2.1
   have hj2:j<(Zv w cols[a] b).length:=by rw[←h3];omega
   have hs:=this.2.2.2 j (by omega) hj
   simp only[h3]at hs
   rw[ZHJ ha b hj2]
   have h10:10- (cols[a].f0++[(j:Int)]).length=9-cols[a].f0.length:=by simp only[yH,xG];omega
   simp only[h10]
   exact hs)
  _ 0 x.f2 (x.f1.take a) rfl (zN _) (by simp;omega)
  (fun k h h'=>by
   have hka:k<a:=by simp at h;omega
   rw[ZJK ha b hka,List.getElem_take]
   exact hx.pat k (by omega) (by omega))
  hx.path (by omega)
 refine⟨z,o,e,by have:=hn.1;omega,⟨hx.lo,hx.hi,?_,fun k h h'=> ?_,?_,o3⟩⟩
 ·show(o++x.f1.drop (a+1)).length=_
  rw[hvl,yH,List.length_drop,o1];omega
 ·show ZNP w _ _ (o++x.f1.drop (a+1))[k]
  by_cases hk:k<o.length
  ·rw[yA hk];exact o2 k hk h'
  ·obtain⟨j,rfl⟩:∃j,k=a+(Zv w cols[a] b).length+j:=⟨k- (a+(Zv w cols[a] b).length),by omega⟩
   have hj:a+1+j<cols.length:=by omega
   rw[ZJL ha b hj,yC (by omega),List.getElem_drop]
   have e2:a+1+(a+(Zv w cols[a] b).length+j-o.length)=a+1+j:=by omega
   simp only[e2]
   exact hx.pat (a+1+j) (by omega) hj
 ·show z.length+((o++x.f1.drop (a+1)).map Pattern.wt).sum<=60
  rw[yP,yU];omega
theorem P.YBT {w:List Data}(hw:ZS w){cols:List ZC}{B:Nat}(hc:ColsOk w cols B)(hB:B<=100000){a:Nat}(ha:a<cols.length)(h9:cols[a].f0.length<=9){b:Branch}(hb:ZJx w cols[a].f1 b){n:Nat}{rows:List ZA}(hr:∀r,r∈rows->RowOk w cols n 60 r)(hrl:rows.length<=4000):
  ∀(m i:Nat) (out:List ZA),rows.length-i=m->out.length<=i->i<=rows.length->(∀r,r∈out->RowOk w (ZZ w cols a cols[a] b) n 60 r)->
  ∃l,F.f143 cols rows (a:Int) b (ZZ w cols a cols[a] b) out i=some l/\l.length<=rows.length/\∀r,r∈l->RowOk w (ZZ w cols a cols[a] b) n 60 r:=by
 intro m
 induction m with
 |zero=>
  intro i out hm ho hi hq
  rw[F.f143.eq_def,iN (by omega)]
  exact⟨out,rfl,by omega,hq⟩
 |succ m ih=>
  intro i out hm ho hi hq
  have hil:i<rows.length:=by omega
  have hx:=hr _ (gM hil)
  have hlen:=hx.len
  have hcl:=hc.len
  have hxa:a<rows[i].f1.length:=by omega
  obtain⟨v8,e8,fit⟩:=P.YBH rows[i].f1[a] b
  rw[F.f143.eq_def,iP hil,gQ hil]
  simp only[oE,oS]
  rw[ZAN hxa]
  simp only[oS]
  rw[e8]
  simp only[oS]
  by_cases h8:v8=true
  ·obtain⟨z,o,e,ho3,hrow⟩:=P.YA7 hw hc hB ha h9 hb hx hxa (fit h8) rows out i
   have hw1:i64.wrap ((a:Int)+1)=((a+1:Nat):Int):=by rw[ZF (by omega) (by omega)];omega
   rw[iP h8,hw1]
   simp only[xV,zU,zE]
   have hdrop:(rows[i].f1.drop (a+1)).take (rows[i].f1.length- (a+1))=rows[i].f1.drop (a+1):=yN (by simp)
   rw[iP (by omega),iP (by simp;omega),e]
   simp only[oS]
   rw[hdrop,iP (by omega),iP (by simp;omega),iP (by omega),iP (by omega)]
   refine ih (i+1) _ (by omega) (by simp;omega) (by omega) fun r h=> ?_
   rcases zT.1 h with h|h
   ·exact hq r h
   ·rw[zS.1 h];exact hrow
  ·rw[iN h8]
   exact ih (i+1) out (by omega) (by omega) (by omega) hq
theorem P.YBG {w:List Data}(hw:ZS w){cols:List ZC}{B:Nat}(hc:ColsOk w cols B)(hB:B<=100000){a:Nat}(ha:a<cols.length)(h9:cols[a].f0.length<=9){b:Branch}(hb:ZJx w cols[a].f1 b){n:Nat}{rows:List ZA}(hr:∀r,r∈rows->RowOk w cols n 60 r)(hrl:rows.length<=4000):
  ∃l,F.f144 w cols rows (a:Int) b=some l/\l.length<=rows.length/\∀r,r∈l->RowOk w (ZZ w cols a cols[a] b) n 60 r:=by
 obtain⟨l,e,h⟩:=P.YBT hw hc hB ha h9 hb hr hrl _ 0 [] rfl (by simp) (by omega) (by simp)
 unfold F.f144
 rw[P.YAI hw hc hB ha hb]
 simp only[oE,oS]
 rw[e]
 exact⟨l,rfl,h⟩
theorem ZIe :∀(l:List PathBind),(∀b,b∈l->b.path.length<=10)->wtL PathBind.wt l<=11*l.length
 | [],_=>zB _
 |x::l,h=>by
  have h1:=ZIe l fun b hb=>h b (yD _ hb)
  have h2:=h x (by simp)
  have hz:∀l:List Int,(l.map fun _=>0).sum=0:=by
   intro l
   induction l with
   |nil=>rfl
   |cons a r ih=>rw[zY,yB,ih]
  have h3:PathBind.wt x=x.path.length:=by unfold PathBind.wt wtL;rw[hz];rfl
  rw[ZCH,yK]
  omega
theorem CompOk.more {w:List Data}{n:Nat}{cols:List ZC}{rows:List ZA}{B C:Nat}(h:CompOk w n cols rows B)(hB:B<=C):CompOk w n cols rows C:=⟨⟨zH h.okC.len hB,h.okC.ty,h.okC.path,h.okC.ints⟩,h.okR,h.few⟩
theorem ZLJ {w:List Data}(hw:ZS w){t:Ty}(ht:tOk w t){b:Branch}(h:ZOs w t b):inR b.ctor:=by
 have h:=h.1
 unfold ZJx at h
 split at h
 ·rw[h];exact ZFO (by decide) (by decide)
 ·next hn=>
  have h1:=ZY h
  have:=(Zr hw ht hn).1
  exact ZFO (by omega) (by omega)
theorem ZLg {α:Type}(f:α->Nat)(l:List α)(x:α):wtL f (l++[x])=wtL f l+(1+f x):=by simp[wtL];omega
theorem ZBF :Tree.wt ⟨0,0,[],[],[],[]⟩=0:=by rw[Tree.wt_eq];rfl
theorem ZMI (c:Int)(b:List PathBind):Tree.wt ⟨1,c,b,[],[],[]⟩=wtL PathBind.wt b:=by rw[Tree.wt_eq];rfl
theorem ZKm (c:Int)(b:List PathBind)(t:Tree):Tree.wt ⟨1,c,b,[],[],[t]⟩=wtL PathBind.wt b+1+t.wt:=by rw[Tree.wt_eq];simp;omega
theorem ZIu (p:List Int)(b:List Branch):Tree.wt ⟨2,0,[],p,b,[]⟩=p.length+wtL Branch.wt b:=by rw[Tree.wt_eq];simp[ZBz]
theorem ZLH {w:List Data}{k:Nat}{t:Ty}{p:Pattern}(h:ZNP w k t p)(ho:p.op≠1):k<=9:=by
 rcases h with rfl|⟨h,_⟩
 ·exact absurd rfl ho
 ·have:10-k≠0:=fun e=>by rw[e]at h;exact h.elim
  omega
def ZAV (c d:ZC):Prop:=¬c.f0<+:d.f0/\¬d.f0<+:c.f0
theorem ZBV {c d:ZC}(h:ZAV c d)(k:Int)(t:Ty):ZAV c ⟨d.f0++[k],t⟩:=by
 refine⟨fun h1=> ?_,fun h1=>h.2 ((List.prefix_append _ _).trans h1)⟩
 rcases List.prefix_concat_iff.1 h1 with e|e
 ·exact h.2 (by rw[e];exact List.prefix_append _ _)
 ·exact h.1 e
theorem ZAZ {path:List Int}{c:ZC}:∀{ts:List Ty} {k:Nat},c∈Zs path k ts->∃j:Nat,∃t,k<=j/\c=⟨path++[(j:Int)],t⟩
 | [],k,h=>by cases h
 |t::r,k,h=>by
  rcases yL.1 h with h|h
  ·exact⟨k,t,zB _,h⟩
  ·obtain⟨j,t',a,b⟩:=ZAZ h
   exact⟨j,t',by omega,b⟩
theorem ZBs (path:List Int):∀(ts:List Ty) (k:Nat),(Zs path k ts).Pairwise ZAV
 | [],k=>.nil
 |t::r,k=>by
  refine .cons (fun c hc=> ?_) (ZBs path r (k+1))
  obtain⟨j,t',hj,rfl⟩:=ZAZ hc
  have ne:path++[(k:Int)]≠path++[(j:Int)]:=fun e=>by
   have:=List.append_cancel_left e
   simp at this;omega
  exact⟨fun h=>ne (h.eq_of_length (by simp)),fun h=>ne (h.eq_of_length (by simp)).symm⟩
theorem ZF2 {w:List Data}{cols:List ZC}(h:cols.Pairwise ZAV){a:Nat}(ha:a<cols.length)(b:Branch):(ZZ w cols a cols[a] b).Pairwise ZAV/\∀c,c∈ZZ w cols a cols[a] b->(∃d,d∈cols/\d.f0<+:c.f0)/\¬c.f0<+:cols[a].f0:=by
 have e:cols=cols.take a++cols[a]::cols.drop (a+1):=by rw[←zR ha,xD]
 have h':=h
 rw[e]at h'
 obtain⟨p1,p2,p3⟩:=yV.1 h'
 obtain⟨p4,p5⟩:=List.pairwise_cons.1 p2
 have ext:∀c d k (t:Ty),ZAV d c->ZAV ⟨c.f0++[k],t⟩ d:=fun c d k t h=>⟨(ZBV h k t).2,(ZBV h k t).1⟩
 refine⟨?_,fun c hc=> ?_⟩
 ·unfold ZZ
  refine yV.2 ⟨yV.2 ⟨p1,ZBs _ _ _,fun c hc d hd=> ?_⟩,p5,fun c hc d hd=> ?_⟩
  ·obtain⟨j,t,_,rfl⟩:=ZAZ hd
   exact ZBV (p3 c hc _ yG) _ _
  ·rcases zT.1 hc with hc|hc
   ·exact p3 c hc d (yD _ hd)
   ·obtain⟨j,t,_,rfl⟩:=ZAZ hc
    have:=p4 d hd
    exact ext _ _ _ _ ⟨this.2,this.1⟩
 ·unfold ZZ at hc
  rcases zT.1 hc with hc|hc
  ·rcases zT.1 hc with hc|hc
   ·exact⟨⟨c,yJ hc,List.prefix_refl _⟩,(p3 c hc _ yG).1⟩
   ·obtain⟨j,t,_,rfl⟩:=ZAZ hc
    exact⟨⟨cols[a],gM ha,List.prefix_append _ _⟩,fun h=>by have:=h.length_le;simp at this;omega⟩
  ·exact⟨⟨c,yW hc,List.prefix_refl _⟩,(p4 c hc).2⟩
inductive TestedT :Tree->List Int->Prop
 |here (x:Tree) (h:x.op=2):TestedT x x.path
 |br (x:Tree) (b:Branch) (hb:b∈x.branches) (q:List Int) (h:TestedT b.tree q):TestedT x q
 |els (x y:Tree) (hy:y∈x.els) (q:List Int) (h:TestedT y q):TestedT x q
inductive OnceT :Tree->Prop
 |mk (x:Tree) (h1:x.op=2->(∀b,b∈x.branches->¬TestedT b.tree x.path)/\∀y,y∈x.els->¬TestedT y x.path) (h2:∀b,b∈x.branches->OnceT b.tree) (h3:∀y,y∈x.els->OnceT y):OnceT x
theorem ZBc {o c:Int}{bs:List PathBind}{p:List Int}{q:List Int}(ho:o≠2):¬TestedT ⟨o,c,bs,p,[],[]⟩ q:=by
 intro h
 cases h with
 |here _ h=>exact ho h
 |br _ b hb=>cases hb
 |els _ b hb=>cases hb
theorem ZAY {o c:Int}{bs:List PathBind}{p:List Int}(ho:o≠2):OnceT ⟨o,c,bs,p,[],[]⟩:=.mk _ (fun h=>absurd h ho) (fun b hb=>by cases hb) (fun b hb=>by cases hb)
def ZIA (y:Tree):Prop:=inR y.clause/\(∀k,k∈y.path->inR k)/\∀b,b∈y.branches->inR b.ctor/\inR b.n/\inR b.m
def ZGw (t:Tree):Prop:=∀y,Sub y t->wtL PathBind.wt y.binds+y.path.length<=700/\ZIA y
theorem ZAW {o c:Int}{bs:List PathBind}(hc:inR c)(h:wtL PathBind.wt bs<=700):ZGw ⟨o,c,bs,[],[],[]⟩:=by
 intro y hy
 cases hy with
 |refl=>exact⟨h,hc,fun k hk=>(by cases hk),fun b hb=>(by cases hb)⟩
 |br _ b hb=>cases hb
 |els _ b hb=>cases hb
theorem P.YBD {w:List Data}{T:List Int}(h:TOk w T)(hT:kW w=some T)(list:List Clause)(hll:list.length<=67108864)(pick:Int):
  ∀(N L:Nat) (cols:List ZC) (rows:List ZA),L<N->L<=300->CompOk w list.length cols rows (1+3*(300-L))->
   ∃(t:Tree) (L':Int),F.f145 w list pick cols rows (L:Int)=some (t,L')/\-1<=L'/\L'<L/\(t.wt:Int)+1<=1000*((L:Int) -L')/\(cols.Pairwise ZAV->OnceT t/\∀q,TestedT t q->∃c,c∈cols/\c.f0<+:q)/\ZGw t:=by
 intro N
 induction N with
 |zero=>intro L cols rows hN;omega
 |succ N ih=>
 intro L cols rows hN hL hc
 have hw1:i64.wrap ((L:Int) -1)=(L:Int) -1:=ZF (by omega) (by omega)
 rw[F.f145.eq_def,hw1]
 by_cases h0:(L:Int) -1<0
 ·rw[iP h0]
  exact⟨_,_,rfl,by omega,by omega,by rw[ZBF];omega,fun _=>⟨ZAY (by decide),fun q h=>absurd h (ZBc (by decide))⟩,ZAW ZLd (by simp)⟩
 rw[iN h0]
 by_cases hr0:rows.length=0
 ·rw[iP hr0]
  exact⟨_,_,rfl,by omega,by omega,by rw[ZBF];omega,fun _=>⟨ZAY (by decide),fun q h=>absurd h (ZBc (by decide))⟩,ZAW ZLd (by simp)⟩
 rw[iN hr0]
 have h0r:0<rows.length:=by omega
 have hx:=hc.okR _ (gM h0r)
 rw[gQ h0r]
 simp only[oE,oS]
 have hlen:=hx.len
 have hB:=hc.okC.len
 have hfew:=hc.few
 have hL1:(L:Int) -1=((L-1:Nat):Int):=by omega
 rcases P.YAz rows[0]with⟨e,ha⟩|⟨k,hk,e,ho⟩
 ·rw[e]
  simp only[oS]
  rw[iP (by decide)]
  have hwt:=hx.wt
  obtain⟨bs,e2,b1,b2⟩:=P.YA0 rows[0].f2 (by omega) hx.path
  have b3:=ZIe bs b2
  rw[e2]
  simp only[oS]
  have hlo:=hx.lo
  have hhi:=hx.hi
  obtain⟨c,hcn⟩:∃c:Nat,rows[0].f0=(c:Int):=⟨rows[0].f0.toNat,by omega⟩
  have hcl:c<list.length:=by omega
  rw[hcn,ZAN hcl]
  simp only[oS]
  by_cases hg:list[c].guard.op=0
  ·rw[iP hg]
   exact⟨_,_,rfl,by omega,by omega,by rw[ZMI];omega,fun _=>⟨ZAY (by decide),fun q h=>absurd h (ZBc (by decide))⟩,ZAW (ZFO (by omega) (by omega)) (by omega)⟩
  ·rw[iN hg]
   obtain⟨l,e3,l1,l2⟩:=P.YAy rows (c:Int) (by omega)
   rw[e3]
   simp only[oS]
   obtain⟨t,L',e4,t1,t2,t3,t4,t5⟩:=ih (L-1) cols l (by omega) (by omega) (CompOk.more ⟨hc.okC,fun r hr=>hc.okR r (l2 r hr),by omega⟩ (by omega))
   rw[hL1,e4]
   refine⟨_,_,rfl,by omega,by omega,by rw[ZKm];simp only;omega,fun hp=> ?_,fun y hy=> ?_⟩
   rotate_left
   ·cases hy with
    |refl=>exact⟨by show wtL PathBind.wt bs+0<=700;omega,by show inR (c:Int);exact ZFO (by omega) (by omega),fun k hk=>(by cases hk),fun b hb=>(by cases hb)⟩
    |br _ b hb=>cases hb
    |els _ z hz h=>rw[zS.1 hz]at h;exact t5 y h
   obtain⟨o1,o2⟩:=t4 hp
   refine⟨.mk _ (fun h=>absurd h (show(1:Int)≠2 by decide)) (fun b hb=>by cases hb) (fun y hy=>by rw[zS.1 hy];exact o1),fun q h=> ?_⟩
   cases h with
   |here _ h=>exact absurd h (show(1:Int)≠2 by decide)
   |br _ b hb=>cases hb
   |els _ y hy _ h=>rw[zS.1 hy]at h;exact o2 q h
 ·rw[e]
  simp only[oS]
  rw[iN (by omega)]
  obtain⟨a,e2,ha,hao⟩:=P.YBF h hT hc (by omega) h0r pick hk e ho
  rw[e2]
  simp only[oS]
  have hac:a<cols.length:=by omega
  have h9:cols[a].f0.length<=9:=ZLH (hx.pat a ha hac) hao
  have hty:=hc.okC.ty _ (gM hac)
  rw[ZAN hac]
  simp only[oS]
  rw[iP (by omega)]
  obtain⟨cs,e3,c1,c2⟩:=P.YAX h hT hty (by have:=ZBT h.wok (ZAP hty.1);omega) rows a (fun r hr=>by rw[(hc.okR r hr).len];exact hac)
  rw[e3]
  simp only[oS]
  have loop:∀(m i:Nat) (out:List Branch) (K:Int),cs.length-i=m->out.length<=i->-1<=K->K<L->(wtL Branch.wt out:Int)<=1000*((L:Int) -1-K)->(cols.Pairwise ZAV->∀b,b∈out->OnceT b.tree/\¬TestedT b.tree cols[a].f0/\∀q,TestedT b.tree q->∃c,c∈cols/\c.f0<+:q)->(∀b,b∈out->ZGw b.tree/\inR b.ctor/\inR b.n/\inR b.m)->
    ∃(l:List Branch) (K':Int),F.f146 w list pick cols rows (a:Int) cols[a] cs out i K=some (l,K')/\-1<=K'/\K'<L/\(wtL Branch.wt l:Int)<=1000*((L:Int) -1-K')/\(cols.Pairwise ZAV->∀b,b∈l->OnceT b.tree/\¬TestedT b.tree cols[a].f0/\∀q,TestedT b.tree q->∃c,c∈cols/\c.f0<+:q)/\∀b,b∈l->ZGw b.tree/\inR b.ctor/\inR b.n/\inR b.m:=by
   intro m
   induction m with
   |zero=>
    intro i out K hm ho2 k1 k2 k3 k4 k5
    rw[F.f146.eq_def,iN (by omega)]
    exact⟨_,_,rfl,k1,k2,k3,k4,k5⟩
   |succ m ihm=>
    intro i out K hm ho2 k1 k2 k3 k4 k5
    have hi:i<cs.length:=by omega
    rw[F.f146.eq_def,iP hi]
    by_cases hK:0<=K
    ·rw[iP hK,gQ hi]
     simp only[oE,oS]
     have hbi:=c2 _ (gM hi)
     have hb:=hbi.1
     rw[P.YAI h.wok hc.okC (by omega) hac hb]
     simp only[oS]
     obtain⟨l,e4,l1,l2⟩:=P.YBG h.wok hc.okC (by omega) hac h9 hb hc.okR (by omega)
     rw[e4]
     simp only[oS]
     obtain⟨kn,rfl⟩:∃kn:Nat,K=(kn:Int):=⟨K.toNat,by omega⟩
     have hno:=ZEc h.wok hc.okC hac h9 hb
     obtain⟨t,L',e5,t1,t2,t3,t4,t5⟩:=ih kn _ l (by omega) (by omega) (CompOk.more ⟨hno,l2,by omega⟩ (by omega))
     rw[e5]
     simp only[oS]
     rw[iP (by omega)]
     refine ihm (i+1) _ L' (by omega) (by simp;omega) t1 (by omega) ?_ (fun hp b hb2=> ?_) (fun b hb2=> ?_)
     rotate_left 2
     ·rcases zT.1 hb2 with hb2|hb2
      ·exact k5 b hb2
      ·rw[zS.1 hb2];exact⟨t5,ZLJ h.wok (ZAP hty.1) hbi,hbi.2.1,hbi.2.2⟩
     rotate_left
     ·rcases zT.1 hb2 with hb2|hb2
      ·exact k4 hp b hb2
      ·rw[zS.1 hb2]
       obtain⟨n1,n2⟩:=ZF2 (w:=w) hp hac cs[i]
       obtain⟨o1,o2⟩:=t4 n1
       refine⟨o1,fun h=> ?_,fun q h=> ?_⟩
       ·obtain⟨c,hc,hq⟩:=o2 _ h
        exact(n2 c hc).2 hq
       ·obtain⟨c,hc,hq⟩:=o2 _ h
        obtain⟨⟨d,hd,hd2⟩,_⟩:=n2 c hc
        exact⟨d,hd,hd2.trans hq⟩
     rw[ZLg]
     show((wtL Branch.wt out+(1+t.wt):Nat):Int)<=_
     omega
    ·rw[iN hK]
     exact⟨_,_,rfl,k1,k2,k3,k4,k5⟩
  obtain⟨l,K',e4,k1,k2,k3,k4,k5⟩:=loop _ 0 [] ((L:Int) -1) rfl (by simp) (by omega) (by omega) (by simp) (fun _ b hb=>by cases hb) (fun b hb=>by cases hb)
  rw[e4]
  refine⟨_,_,rfl,k1,k2,by rw[ZIu];simp only;omega,fun hp=>⟨.mk _ (fun _=>⟨fun b hb=>(k4 hp b hb).2.1,fun y hy=>by cases hy⟩) (fun b hb=>(k4 hp b hb).1) (fun y hy=>by cases hy),fun q h=> ?_⟩,fun y hy=> ?_⟩
  rotate_left
  ·cases hy with
   |refl=>exact⟨by show wtL PathBind.wt []+cols[a].f0.length<=700;rw[ZNT];omega,ZLd,hc.okC.ints _ (gM hac),fun b hb=>(k5 b hb).2⟩
   |br _ b hb h=>exact(k5 b hb).1 y h
   |els _ z hz=>cases hz
  cases h with
  |here _ h=>exact⟨cols[a],gM hac,List.prefix_refl _⟩
  |br _ b hb _ h=>exact(k4 hp b hb).2.2 q h
  |els _ y hy=>cases hy
theorem P.YBA {w:List Data}{t:Ty}(list:List Clause){i:Nat}(hi:i<list.length)(hi2:list.length<=8)(v:List Pattern)(hv:∀q,q∈v->ZGj w 10 t q/\q.wt<=59):
  ∀(m k:Nat) (out:List ZA),v.length-k=m->out.length+m<=4000->(∀r,r∈out->RowOk w [⟨[],t⟩] list.length 60 r)->
   ∃l,F.f115 list i v out k=some l/\l.length=out.length+m/\∀r,r∈l->RowOk w [⟨[],t⟩] list.length 60 r
 |0,k,out,hm,ho,hr=>by rw[F.f115,iN (by omega)];exact⟨_,rfl,by omega,hr⟩
 |m+1,k,out,hm,ho,hr=>by
  have hk:k<v.length:=by omega
  obtain⟨s1,s2⟩:=hv _ (gM hk)
  obtain⟨z,q,e,c1,c2,_,c4⟩:=P.Yx (w:=w) (t:=t) (k:=0) ⟨(i:Int),[],[]⟩ [] (by simp) (by omega) v[k] (.inr s1) (by simp;omega) (by simp)
  rw[F.f115,iP hk,gQ hk]
  simp only[oE,oS]
  rw[e]
  simp only[oS]
  rw[iP (by omega)]
  obtain⟨l,e2,l1,l2⟩:=P.YBA list hi hi2 v hv m (k+1) (out++[⟨(i:Int),[q],z⟩]) (by omega) (by simp;omega) (fun r h=>by
   rcases zT.1 h with h|h
   ·exact hr r h
   ·rw[zS.1 h]
    refine⟨by simp,by simp;omega,rfl,fun j h h'=> ?_,by simp at c2 ⊢;omega,c4⟩
    have:j=0:=by simp at h;omega
    subst this
    exact c1)
  exact⟨l,e2,by simp at l1;omega,l2⟩
theorem P.YBB {w:List Data}{t:Ty}(list:List Clause)(hl:list.length<=8)(hp:∀c,c∈list->ZAd w 10 t c.pat/\c.pat.wt<=59):
  ∀(m i:Nat) (out:List ZA),list.length-i=m->out.length+m*401<=4000->(∀r,r∈out->RowOk w [⟨[],t⟩] list.length 60 r)->
   ∃l,F.f116 list out i=some l/\l.length<=out.length+m*401/\∀r,r∈l->RowOk w [⟨[],t⟩] list.length 60 r
 |0,i,out,hm,ho,hr=>by rw[F.f116,iN (by omega)];exact⟨_,rfl,by omega,hr⟩
 |m+1,i,out,hm,ho,hr=>by
  have hi:i<list.length:=by omega
  obtain⟨s1,s2⟩:=hp _ (gM hi)
  obtain⟨v,e,v1,v2⟩:=P.Yy w 10 t list[i].pat s1 (by omega)
  obtain⟨l,e2,l1,l2⟩:=P.YBA (w:=w) (t:=t) list hi hl v (fun q hq=>⟨(v2 q hq).1,by have:=(v2 q hq).2;omega⟩) _ 0 out rfl (by omega) hr
  rw[F.f116,iP hi,gQ hi]
  simp only[oE,oS]
  rw[e]
  simp only[oS]
  rw[e2]
  simp only[oS]
  rw[iP (by omega)]
  obtain⟨l',e3,q1,q2⟩:=P.YBB list hl hp m (i+1) l (by omega) (by omega) l2
  exact⟨l',e3,by omega,q2⟩
theorem P.YAP {w:List Data}{t:Ty}(list:List Clause)(pick:Int)(hp:∀c,c∈list->ZAd w 10 t c.pat/\c.pat.wt<=59):
  ∀(m i:Nat),list.length-i=m->F.f147 w t list pick i=some (.ret (⟨0,0,[],[],[],[]⟩,false))∨F.f147 w t list pick i=some (.go ())
 |0,i,hm=>by rw[F.f147,iN (by omega)];exact .inr rfl
 |m+1,i,hm=>by
  have hi:i<list.length:=by omega
  obtain⟨s1,s2⟩:=hp _ (gM hi)
  obtain⟨v,e,v1,v2⟩:=P.Yy w 10 t list[i].pat s1 (by omega)
  rw[F.f147,iP hi,gQ hi]
  simp only[oE,oS]
  rw[e]
  simp only[oS]
  split
  ·exact .inl rfl
  ·exact P.YAP list pick hp m (i+1) (by omega)
theorem P.YAj {w:List Data}{T:List Int}(h:TOk w T)(hT:kW w=some T){t:Ty}(ht:Za w t)(list:List Clause)(hl:list.length<=8)(hp:∀c,c∈list->ZAd w 10 t c.pat/\c.pat.wt<=59)(pick:Int):
  ∃x b,F.f148 w t list pick=some (x,b)/\x.wt+1<=301000/\OnceT x/\ZGw x:=by
 unfold F.f148
 rcases P.YAP (w:=w) (t:=t) list pick hp _ 0 rfl with e|e
 ·rw[e];exact⟨_,_,rfl,by rw[ZBF];omega,ZAY (by decide),ZAW ZLd (by simp)⟩
 ·rw[e]
  simp only[oE,oS]
  obtain⟨l,e2,l1,l2⟩:=P.YBB (w:=w) (t:=t) list hl hp _ 0 [] rfl (by simp;omega) (by simp)
  unfold F.f117
  rw[e2]
  simp only[oE,oS]
  obtain⟨x,L',e3,x1,x2,x3,x4,x5⟩:=P.YBD h hT list (by omega) pick 301 300 [⟨[],t⟩] l (by omega) (by omega) ⟨⟨by simp,fun c hc=>by rw[zS.1 hc];exact ht,fun c hc=>by rw[zS.1 hc];simp,fun c hc=>by rw[zS.1 hc];simp⟩,l2,by simp at l1;omega⟩
  have e3:F.f145 w list pick [⟨[],t⟩] l 300=some (x,L'):=e3
  rw[e3]
  simp only[oS]
  split
  ·exact⟨_,_,rfl,by rw[ZBF];omega,ZAY (by decide),ZAW ZLd (by simp)⟩
  ·exact⟨_,_,rfl,by omega,(x4 (List.pairwise_singleton _ _)).1,x5⟩
theorem P.Yo {w:List Data}(hw:ZBO w){T:List Int}(h:TOk w T)(hT:kW w=some T)(t:Ty)(list:List Clause)(hp:∀c,c∈list->c.pat.wt<=1048576)(pick:Int):
  ∃x b,F.f149 w t list pick=some (x,b)/\x.wt+1<=301000/\OnceT x/\ZGw x:=by
 unfold F.f149
 rw[P.YZ w hw t list hp]
 simp only[oE,oS]
 by_cases hc:ZRi w t list
 ·rw[iP (ZI hc)]
  split
  ·exact⟨_,_,rfl,by rw[ZBF];omega,ZAY (by decide),ZAW ZLd (by simp)⟩
  split
  ·exact⟨_,_,rfl,by rw[ZBF];omega,ZAY (by decide),ZAW ZLd (by simp)⟩
  ·obtain⟨x,b,e,hx⟩:=P.YAj h hT hc.1.2 list hc.2.1 (fun c h=>⟨(hc.2.2 c h).1.1,by have:=(hc.2.2 c h).1.2.2;omega⟩) pick
   rw[e]
   exact⟨_,_,rfl,hx⟩
 ·rw[iN (by rw[ZG hc];decide)]
  exact⟨_,_,rfl,by rw[ZBF];omega,ZAY (by decide),ZAW ZLd (by simp)⟩
theorem P.YBC {w:List Data}(hw:ZS w){t:Ty}(ht:Za w t):∀(k K:Nat) (z:List Int) (z2:Int) (out:List Clause),k<=5->rok K ⟨z,z2⟩->K+k*21000<=1099511627776->out.length+k<=100->(∀c,c∈out->ZDN w t c.pat)->
  ∃z' z2' l,F.f89 w t z z2 out (k:Int)=some (z',z2',l)/\rok (K+k*21000) ⟨z',z2'⟩/\l.length=out.length+k/\∀c,c∈l->ZDN w t c.pat
 |0,K,z,z2,out,hk,hr,hK,ho,hp=>by
  rw[F.f89,iN (by omega)]
  exact⟨_,_,_,rfl,hr.mono (by omega),rfl,hp⟩
 |k+1,K,z,z2,out,hk,hr,hK,ho,hp=>by
  have hw1:i64.wrap (((k+1:Nat):Int) -1)=(k:Int):=by rw[ZF (by omega) (by omega)];omega
  obtain⟨c,r',e,h1,h2⟩:=P.YAp hw ht hr (by omega)
  rw[F.f89,iP (by omega),e,hw1]
  simp only[oE,oS]
  rw[iP (by omega)]
  obtain⟨z',z2',l,e2,q1,q2,q3⟩:=P.YBC hw ht k (K+21000) r'.f0 r'.f1 (out++[c]) (by omega) h1 (by omega) (by simp;omega) (fun x h=>by
   rcases zT.1 h with h|h
   ·exact hp x h
   ·rw[zS.1 h];exact h2)
  exact⟨z',z2',l,e2,q1.mono (by omega),by simp at q2;omega,q3⟩
theorem P.YBK {w:List Data}(hw:ZS w){t:Ty}(ht:Za w t){K:Nat}{r:ZB}(hr:rok K r)(hK:K+106000<=1099511627776):∃l r',F.f90 r w t=some (l,r')/\rok (K+106000) r'/\l.length<=5/\∀c,c∈l->ZDN w t c.pat:=by
 unfold F.f90
 obtain⟨v,r1,e1,h1,hv⟩:=P.num hr (by omega) [3,2,4,5,1,0] (by simp)
 obtain⟨k,rfl,hk⟩:∃k:Nat,v=(k:Int)/\k<=5:=by
  simp at hv
  exact⟨v.toNat,by omega,by omega⟩
 obtain⟨z',z2',l,e2,q1,q2,q3⟩:=P.YBC hw ht k _ r1.f0 r1.f1 [] hk h1 (by omega) (by simp;omega) (by simp)
 rw[e1]
 simp only[oE,oS]
 rw[e2]
 exact⟨_,_,rfl,q1.mono (by omega),by simp at q2;simp only;omega,q3⟩
theorem P.Yj (v:Int×ZB):∀(k:Nat) (out:List Clause),out.length+k=9->(∀c,c∈out->c.pat.wt<=1000010)->∃l,F.f94 v out=some l/\l.length=9/\∀c,c∈l->c.pat.wt<=1000010
 |0,out,h,hp=>by rw[F.f94,iN (by omega)];exact⟨_,rfl,by omega,hp⟩
 |k+1,out,h,hp=>by
  rw[F.f94,iP (by omega),iP (by omega)]
  exact P.Yj v k (out++[⟨⟨1,0,0,0,0,[]⟩,⟨0,0,0⟩⟩]) (by simp;omega) (fun c hc=>by
   rcases zT.1 hc with hc|hc
   ·exact hp c hc
   ·rw[zS.1 hc];simp only;rw[ZBo];omega)
theorem P.Yk {K:Nat}{r:ZB}(hr:rok K r)(hK:K+5<=1099511627776)(l:List Clause)(hl:l.length<=8)(hp:∀c,c∈l->c.pat.wt<=1000000):∃l' r',F.f95 r l=some (l',r')/\rok (K+5) r'/\l'.length<=9/\∀c,c∈l'->c.pat.wt<=1000010:=by
 have hp':∀c,c∈l->c.pat.wt<=1000010:=fun c h=>by have:=hp c h;omega
 have setOk:∀x:Clause,x.pat.wt<=1000010->∀c,c∈l.set 0 x->c.pat.wt<=1000010:=fun x hx c hc=>by
  rcases yR hc with h|h
  ·exact hp' c h
  ·rw[h];exact hx
 unfold F.f95
 rw[iP (by omega)]
 obtain⟨v,r1,e1,h1,_⟩:=P.YK hr (by omega) 24
 rw[e1]
 simp only[oE,oS]
 split
 ·split
  ·next h0=>
   obtain⟨v2,r2,e2,h2,_⟩:=P.num h1 (by omega) [1,2,3,-1] (by simp)
   obtain⟨v3,r3,e3,h3,_⟩:=P.num h2 (by omega) [0,5,9] (by simp)
   obtain⟨v4,r4,e4,h4,_⟩:=P.num h3 (by omega) [3,10,-1] (by simp)
   rw[e2]
   simp only[oS]
   rw[e3]
   simp only[oS]
   rw[e4]
   simp only[oS]
   rw[gQ h0]
   exact⟨_,_,rfl,h4.mono (by omega),by simp;omega,setOk _ (by simpa using hp' _ (gM h0))⟩
  ·exact⟨_,_,rfl,h1.mono (by omega),by omega,hp'⟩
 split
 ·split
  ·next h0=>
   have hx:=hp _ (gM h0)
   obtain⟨p2,r2,e2,h2,w2⟩:=P.YAJ h1 (by omega) l[0].pat (by omega)
   obtain⟨p3,r3,e3,h3,w3⟩:=P.YAJ h2 (by omega) p2 (by omega)
   rw[gQ h0]
   simp only[oS]
   rw[e2]
   simp only[oS]
   rw[e3]
   exact⟨_,_,rfl,h3.mono (by omega),by simp;omega,setOk _ (by show p3.wt<=_;omega)⟩
  ·exact⟨_,_,rfl,h1.mono (by omega),by omega,hp'⟩
 split
 ·obtain⟨l',e2,q1,q2⟩:=P.Yj (v,r1) (9-l.length) l (by omega) hp'
  rw[e2]
  exact⟨_,_,rfl,h1.mono (by omega),by omega,q2⟩
 ·exact⟨_,_,rfl,h1.mono (by omega),by omega,hp'⟩
theorem P.YA2 {K:Nat}{r:ZB}(hr:rok K r)(hK:K+107000<=1099511627776):∃w t l v r' T,F.f91 r=some (w,t,l,v,r')/\rok (K+107000) r'/\w∈ZAO/\kW w=some T/\TOk w T/\Za w t/\l.length<=5/\(∀c,c∈l->ZDN w t c.pat)/\pv w false 4 t v/\v.wt+1<=256:=by
 obtain⟨w,t,v,r1,T,e1,h1,hw,hT',hT,a1,a2,a3,_,hv,hvw,a4⟩:=P.YAs hr (by omega)
 have ht:Za w t:=by
  refine⟨?_,a3⟩
  rcases a1 with q|⟨q1,q2,q3,q4⟩
  ·exact .inl ⟨q,a4 q⟩
  ·exact .inr ⟨q1,q2,by omega,q4⟩
 obtain⟨l,r2,e2,h2,l1,l2⟩:=P.YBK hT.wok ht h1 (by omega)
 unfold F.f91
 rw[e1]
 simp only[oE,oS]
 rw[e2]
 exact⟨w,t,l,v,r2,T,rfl,h2.mono (by omega),hw,hT',hT,ht,l1,l2,hv,hvw⟩
theorem P.YS (code:List Int)(hc:ZBH code):∃w t l T,F.f96 code=some (w,t,l)/\w∈ZAO/\kW w=some T/\TOk w T/\Za w t/\l.length<=9/\∀c,c∈l->c.pat.wt<=1000010:=by
 have key:∀r,rok 0 r->∃w t l T,((F.f91 r)>>=fun v=>
   if 0<v.2.2.1.length then
    (F.f1 v.2.2.2.2 4)>>=fun v9=>
    if v9.1=0 then
     (F.f92)>>=fun v13=>
     if v.2.2.1.length+1<=67108864 then
      (F.f95 v9.2 (v.2.2.1++[(⟨v13,(⟨0,0,0⟩:Guard)⟩:Clause)]))>>=fun v16=>
      some (v.1,v.2.1,v16.1)
     else none
    else
     (F.f95 v9.2 v.2.2.1)>>=fun v18=>
     some (v.1,v.2.1,v18.1)
   else
    (F.f95 v.2.2.2.2 v.2.2.1)>>=fun v20=>
    some (v.1,v.2.1,v20.1))=some (w,t,l)/\w∈ZAO/\kW w=some T/\TOk w T/\Za w t/\l.length<=9/\∀c,c∈l->c.pat.wt<=1000010:=by
  intro r hr
  obtain⟨w,t,l,v,r1,T,e1,h1,hw,hT',hT,ht,l1,l2,_⟩:=P.YA2 hr (by omega)
  have hlw:∀c,c∈l->c.pat.wt<=1000000:=fun c h=>by have:=(l2 c h).2.2;omega
  rw[e1]
  simp only[oE,oS]
  split
  ·obtain⟨v9,r2,e2,h2,_⟩:=P.YK h1 (by omega) 4
   rw[e2]
   simp only[oS]
   split
   ·rw[P.YAd]
    simp only[oS]
    rw[iP (by omega)]
    obtain⟨l',r3,e3,_,q1,q2⟩:=P.Yk h2 (by omega) (l++[⟨anyP0,⟨0,0,0⟩⟩]) (by simp;omega) (fun c h=>by
     rcases zT.1 h with h|h
     ·exact hlw c h
     ·rw[zS.1 h];simp only;rw[ZIh];omega)
    rw[e3]
    exact⟨_,_,_,T,rfl,hw,hT',hT,ht,q1,q2⟩
   ·obtain⟨l',r3,e3,_,q1,q2⟩:=P.Yk h2 (by omega) l (by omega) hlw
    rw[e3]
    exact⟨_,_,_,T,rfl,hw,hT',hT,ht,q1,q2⟩
  ·obtain⟨l',r3,e3,_,q1,q2⟩:=P.Yk h1 (by omega) l (by omega) hlw
   rw[e3]
   exact⟨_,_,_,T,rfl,hw,hT',hT,ht,q1,q2⟩
 unfold F.f96
 split
 ·rw[iP (by omega)];exact key _ (ZE6 hc)
 ·exact key _ (ZDU hc (by omega))
theorem P.YR (code:List Int)(hc:ZBH code):∃w t l T,F.f97 code=some (w,t,l)/\w∈ZAO/\kW w=some T/\TOk w T/\Za w t/\l.length<=9/\∀c,c∈l->c.pat.wt<=1000010:=by
 obtain⟨w,t,l,T,e,hw,hT',hT,ht,l1,l2⟩:=P.YS code hc
 have key:∀r,rok 0 r->∃l',(if 0<l.length then
   if l.length<8 then
    (F.f1 r 2)>>=fun v12=>
    if v12.1=0 then
     (F.f1 v12.2 (l.length:Int))>>=fun v16=>
     (at? l v16.1)>>=fun x=>
     if l.length+1<=67108864 then
      some (w,t,l++[x])
     else none
    else
     some (w,t,l)
   else
    some (w,t,l)
  else
   some (w,t,l))=some (w,t,l')/\l'.length<=9/\∀c,c∈l'->c.pat.wt<=1000010:=by
  intro r hr
  split
  ·next h0=>
   split
   ·obtain⟨v12,r2,e2,h2,_⟩:=P.YK hr (by omega) 2
    rw[e2]
    simp only[oE,oS]
    split
    ·obtain⟨v16,r3,e3,h3,a1,a2,_⟩:=P.YK h2 (by omega) (l.length:Int)
     have a3:=a2 (by omega)
     obtain⟨k,rfl⟩:∃k:Nat,v16=(k:Int):=⟨v16.toNat,by omega⟩
     have hk:k<l.length:=by omega
     rw[e3]
     simp only[oS]
     rw[ZAN hk]
     simp only[oS]
     rw[iP (by omega)]
     refine⟨_,rfl,by simp;omega,fun c h=> ?_⟩
     rcases zT.1 h with h|h
     ·exact l2 c h
     ·rw[zS.1 h];exact l2 _ (gM hk)
    ·exact⟨_,rfl,l1,l2⟩
   ·exact⟨_,rfl,l1,l2⟩
  ·exact⟨_,rfl,l1,l2⟩
 unfold F.f97
 rw[e]
 simp only[oE,oS]
 split
 ·rw[iP (by omega)]
  obtain⟨l',e2,q⟩:=key _ (ZE6 hc)
  exact⟨w,t,l',T,e2,hw,hT',hT,ht,q⟩
 ·obtain⟨l',e2,q⟩:=key _ (ZDU hc (by omega))
  exact⟨w,t,l',T,e2,hw,hT',hT,ht,q⟩
theorem P.YA6 (code:List Int)(hc:ZBH code):∃r,F.f98 code=some r/\rok 0 r:=by
 unfold F.f98
 split
 ·rw[iP (by omega)];exact⟨_,rfl,ZE6 hc⟩
 ·exact⟨_,rfl,ZDU hc (by omega)⟩
theorem P.YBI (code:List Int)(hc:ZBH code):∃w t l k T,F.f99 code=some (w,t,l,k)/\w∈ZAO/\kW w=some T/\TOk w T/\Za w t/\l.length<=9/\∀c,c∈l->c.pat.wt<=1000010:=by
 obtain⟨w,t,l,T,e,h⟩:=P.YR code hc
 obtain⟨r,e2,hr⟩:=P.YA6 code hc
 obtain⟨v,r1,e3,h1,hv⟩:=P.num hr (by omega) [0,1,2,0,1,2,3,-1] (by simp)
 unfold F.f99
 rw[e]
 simp only[oE,oS]
 rw[e2]
 simp only[oS]
 rw[e3]
 exact⟨w,t,l,v,T,rfl,h⟩
theorem P.YBE (code:List Int)(hc:ZBH code):∃x,F.f150 code=some x/\x.wt+1<=301000/\OnceT x/\ZGw x:=by
 obtain⟨w,t,l,k,T,e,hw,hT',hT,ht,l1,l2⟩:=P.YBI code hc
 obtain⟨x,b,e2,hx⟩:=P.Yo (ZDC hw) hT hT' t l (fun c h=>by have:=l2 c h;omega) k
 unfold F.f150
 rw[e]
 simp only[oE,oS]
 rw[e2]
 exact⟨x,rfl,hx⟩
theorem Sub.wt {y x:Tree}(h:Sub y x):y.wt<=x.wt:=by
 induction h with
 |refl=>exact zB _
 |br x b hb h ih=>have:=x.wt_eq;have:=ZAQ Branch.wt hb;have:Branch.wt b=b.tree.wt:=rfl;omega
 |els x z hz h ih=>have:=x.wt_eq;have:=ZAQ Tree.wt hz;omega
theorem Added.binds {x:Tree}{l:List Node}{k:Nat}(h:Added [] x l k)(hx:right x)(hw:x.wt<=1048576):∀n,n∈l->n.binds.length<=67108864:=by
 intro n hn
 obtain⟨j,hj,rfl⟩:=zV hn
 obtain⟨y,hy,hr⟩:=h.sub j (by simp) hj
 obtain⟨_,_,e,_⟩:=Rep.ok hr (hy.right hx)
 have h1:=hy.wt
 have h2:=ZAb PathBind.wt y.binds
 have h3:=y.wt_eq
 rw[e];omega
theorem ZH6 {α:Type}{f:α->Nat}{b:Nat}:∀{l:List α},(∀x,x∈l->f x<=b)->wtL f l<=l.length*(1+b)
 | [],_=>by simp
 |x::r,h=>by
  have h1:=ZH6 (l:=r) fun y hy=>h y (yD _ hy)
  have h2:=h x (by simp)
  rw[ZCH,yK,zG]
  omega
structure nodeTx (n:Node):Prop where
 clause:inR n.clause
 path:∀k,k∈n.path->inR k
 edges:∀e,e∈n.edges->inR e.ctor/\inR e.n/\inR e.m
theorem Rep.tx {list:List Node}{k:Nat}{x:Tree}(h:Rep list k x)(ht:ZIA x)(hk:k<list.length):nodeTx list[k]:=by
 cases h with
 |mk k x es e js j0 h hl hb=>
  obtain⟨_,h⟩:=zZ.1 h
  rw[h]
  refine⟨ht.1,ht.2.1,fun d hd=> ?_⟩
  obtain⟨j,hj,rfl⟩:=zV hd
  have hj1:j<es.length:=hj
  have hj2:j<x.branches.length:=by omega
  change inR (es[j]).ctor/\inR (es[j]).n/\inR (es[j]).m
  rw[hb j hj1 hj2]
  exact ht.2.2 _ (gM hj2)
theorem P.YAo (code:List Int)(hc:ZBH code):∃l,F.f170 code=some l/\l.length<=301/\∀n,n∈l->n.wt<=710/\nodeTx n:=by
 obtain⟨x,e,hx,_,hsl⟩:=P.YBE code hc
 obtain⟨nodes,b,e2,hl,hn⟩:∃l b,F.f169 x=some (l,b)/\l.length<=300/\∀n,n∈l->n.wt<=710/\nodeTx n:=by
  rcases P.Yn x (by omega)with h|⟨h1,h2,l,k,e1,h3⟩
  ·exact⟨_,_,h,by simp,by simp⟩
  ·refine⟨l,true,e1,(Added.valid h3 h2 h1).2.1,fun n hn=> ?_⟩
   obtain⟨j,hj,rfl⟩:=zV hn
   obtain⟨y,hy,hr⟩:=h3.sub j (by simp) hj
   obtain⟨_,e0,e1,e2⟩:=Rep.ok hr (hy.right h2)
   have h1:=(hsl y hy).1
   have h3:=ZBz y.path
   have h4:wtL Edge.wt l[j].edges=l[j].edges.length:=ZH5 (fun _=>rfl) _
   have h5:l[j].edges.length<=10:=e0.len
   unfold Node.wt
   rw[e1,e2,h4]
   exact⟨by omega,hr.tx (hsl y hy).2 hj⟩
 have key : ∀ r, rok 0 r -> ∃ l, (if nodes.length <= 67108864 then
    if nodes.length=0 then
     some nodes
    else
     (F.f1 r 3)>>=fun v12=>
     if 0<v12.1 then
      some nodes
     else
      (F.f1 v12.2 (nodes.length:Int))>>=fun v16=>
      (F.f1 v16.2 5)>>=fun v18=>
      if v18.1=0 then
       (F.f54 v18.2 [0,1,2,3,(-1)])>>=fun v22=>
       (at? nodes v16.1)>>=fun x=>
       some (nodes.set v16.1.toNat (⟨v22.1,x.clause,x.binds,x.path,x.edges,x.els⟩:Node))
      else
       if v18.1=1 then
        (F.f54 v18.2 [0,(-1),5,(-2)])>>=fun v27=>
        (at? nodes v16.1)>>=fun x29=>
        some (nodes.set v16.1.toNat (⟨x29.op,x29.clause,x29.binds,x29.path,x29.edges,v27.1⟩:Node))
       else
        if v18.1=2 then
         (at? nodes v16.1)>>=fun x33=>
         if 0<x33.edges.length then
          if x33.edges.length<=67108864 then
           (F.f54 v18.2 [0,1,9,(-1)])>>=fun v39=>
           (x33.edges[0]?)>>=fun x41=>
           some (nodes.set v16.1.toNat (⟨x33.op,x33.clause,x33.binds,x33.path,x33.edges.set 0 (⟨x41.ctor,x41.n,x41.m,v39.1⟩:Edge),x33.els⟩:Node))
          else none
         else
          some nodes
        else
         if v18.1=3 then
          if 0<=v16.1/\v16.1.toNat<=nodes.length then
           some (List.take v16.1.toNat nodes)
          else none
         else
          if v18.1=4 then
           (at? nodes v16.1)>>=fun x48=>
           if nodes.length+1<=67108864 then
            some (nodes++[x48])
           else none
          else
           some nodes
   else none)=some l/\l.length<=301/\∀n,n∈l->n.wt<=710/\nodeTx n:=by
  intro r hr
  have same:∀l:List Node,l=nodes->l.length<=301/\∀n,n∈l->n.wt<=710/\nodeTx n:=fun l e=>by subst e;exact⟨by omega,hn⟩
  have setOk:∀(i:Nat) (y:Node),y.wt<=710/\nodeTx y->(nodes.set i y).length<=301/\∀n,n∈nodes.set i y->n.wt<=710/\nodeTx n:=fun i y hy=>⟨by simp;omega,fun n h=>by
   rcases yR h with h|h
   ·exact hn n h
   ·rw[h];exact hy⟩
  rw[iP (by omega)]
  split
  ·exact⟨_,rfl,same _ rfl⟩
  obtain⟨v12,r1,e1,h1,_⟩:=P.YK hr (by omega) 3
  rw[e1]
  simp only[oE,oS]
  split
  ·exact⟨_,rfl,same _ rfl⟩
  obtain⟨v16,r2,e2,h2,a1,a2,_⟩:=P.YK h1 (by omega) (nodes.length:Int)
  have a3:=a2 (by omega)
  obtain⟨k,rfl⟩:∃k:Nat,v16=(k:Int):=⟨v16.toNat,by omega⟩
  have hk:k<nodes.length:=by omega
  have hkw:=hn _ (gM hk)
  rw[e2]
  simp only[oS]
  obtain⟨v18,r3,e3,h3,_⟩:=P.YK h2 (by omega) 5
  rw[e3]
  simp only[oS]
  split
  ·obtain⟨v22,r4,e4,h4,_⟩:=P.num h3 (by omega) [0,1,2,3,-1] (by simp)
   rw[e4]
   simp only[oS]
   rw[ZAN hk]
   exact⟨_,rfl,setOk _ _ ⟨hkw.1,⟨hkw.2.clause,hkw.2.path,hkw.2.edges⟩⟩⟩
  split
  ·obtain⟨v22,r4,e4,h4,_⟩:=P.num h3 (by omega) [0,-1,5,-2] (by simp)
   rw[e4]
   simp only[oS]
   rw[ZAN hk]
   exact⟨_,rfl,setOk _ _ ⟨hkw.1,⟨hkw.2.clause,hkw.2.path,hkw.2.edges⟩⟩⟩
  split
  ·rw[ZAN hk]
   simp only[oS]
   split
   ·next h0=>
    have h5:nodes[k].edges.length<=67108864:=by
     have:=ZAb Edge.wt nodes[k].edges
     have:=hkw.1
     unfold Node.wt at this
     omega
    rw[iP h5]
    obtain⟨v22,r4,e4,h4,_⟩:=P.num h3 (by omega) [0,1,9,-1] (by simp)
    rw[e4]
    simp only[oS]
    rw[gQ h0]
    refine⟨_,rfl,setOk _ _ ⟨?_,hkw.2.clause,hkw.2.path,fun d hd=> ?_⟩⟩
    rotate_left
    ·rcases yR hd with hd|hd
     ·exact hkw.2.edges d hd
     ·have q:=hkw.2.edges _ (gM h0);rw[hd];exact q
    have z:∀l:List Edge,wtL Edge.wt l=l.length:=fun l=>ZH5 (fun _=>rfl) l
    have hkw:=hkw.1
    unfold Node.wt at hkw ⊢
    rw[z]at hkw ⊢
    simp only[List.length_set]
    exact hkw
   ·exact⟨_,rfl,same _ rfl⟩
  split
  ·rw[iP (by omega)]
   exact⟨_,rfl,by simp;omega,fun n h=>hn n (yJ h)⟩
  split
  ·rw[ZAN hk]
   simp only[oS]
   rw[iP (by omega)]
   refine⟨_,rfl,by simp;omega,fun n h=> ?_⟩
   rcases zT.1 h with h|h
   ·exact hn n h
   ·rw[zS.1 h];exact hkw
  ·exact⟨_,rfl,same _ rfl⟩
 unfold F.f170
 by_cases hcl:2000<code.length
 ·rw[iP hcl,iP (by omega),e]
  show ∃l,((F.f169 x)>>=_)=some l/\_
  rw[e2]
  exact key _ (ZE6 hc)
 ·rw[iN hcl,e]
  show ∃l,((F.f169 x)>>=_)=some l/\_
  rw[e2]
  exact key _ (ZDU hc (by omega))
theorem Rep.sub {list:List Node}{y x:Tree}(h:Sub y x):∀{k:Nat},Rep list k x->∃j,j<=k/\Rep list j y:=by
 induction h with
 |refl=>intro k hr;exact⟨k,zB _,hr⟩
 |br x b hb h ih=>
  intro k hr
  cases hr with
  |mk _ _ es e js j0 _ _ _ hj hr'=>
   obtain⟨i,hi,rfl⟩:=zV hb
   obtain⟨j,a,b⟩:=ih (hr' i hi)
   have:=hj i hi
   exact⟨j,by omega,b⟩
 |els x z hz h ih=>
  intro k hr
  cases hr with
  |mk _ _ es e js j0 _ _ _ _ _ _ _ h2 h3=>
   obtain⟨j,a,b⟩:=ih (h3 z hz)
   have:=(h2 z hz).2
   exact⟨j,by omega,b⟩
noncomputable def ZIZ (n:Nat):ByteArray:=⟨(Lib.decDigits n).toArray⟩
theorem ZGU (n:Nat)(h:n<10):ZDE [IntKind.u8.wrap (i64.wrap (48+(n:Int)))]=⟨#[vF (48+n)]⟩:=by
 have e1:IntKind.u8.wrap (i64.wrap (48+(n:Int)))=48+(n:Int):=by rw[ZNU,ZFi];omega
 have e2:(48+(n:Int)).toNat=48+n:=by omega
 refine ZBY ?_
 simp[ZDE,e1,e2]
theorem ZFU {n:Nat}(h:n<10):ZIZ n=⟨#[vF (48+n)]⟩:=by unfold ZIZ;rw[Lib.decDigits,dif_pos h]
theorem ZLA {n:Nat}(h:¬n<10):ZIZ n=ZIZ (n/10)++⟨#[vF (48+n%10)]⟩:=by
 refine ZBY ?_
 rw[ZBK]
 unfold ZIZ
 rw[Lib.decDigits,dif_neg h]
theorem ZDz :∀(f n:Nat),n<10^ (f+1)->(ZIZ n).size<=f+1
 |0,n,h=>by rw[ZFU (by omega)];exact zB _
 |f+1,n,h=>by
  by_cases h9:n<10
  ·rw[ZFU h9];show 1<=_;omega
  ·rw[ZLA h9,ZU]
   have:=ZDz f (n/10) (by rw[zD]at h;omega)
   show _+1<=_
   omega
theorem P.Ym :∀(f n:Nat) (out:ByteArray),n<10^ (f+1)->(n:Int)<=9223372036854775807->out.size+f<=1000->
  ∃(m:Nat) (o2:ByteArray),F.f25 (n:Int) out=some ((m:Int),o2)/\m<10/\⟨#[vF (48+m)]⟩++o2=ZIZ n++out/\o2.size<=out.size+f
 |0,n,out,h,h63,hs=>⟨n,out,by rw[F.f25,iN (by omega)],by omega,by rw[ZFU (by omega)],by omega⟩
 |f+1,n,out,h,h63,hs=>by
  by_cases h9:n<10
  ·exact⟨n,out,by rw[F.f25,iN (by omega)],h9,by rw[ZFU h9],by omega⟩
  ·have e1:(n:Int).tmod 10=((n%10:Nat):Int):=by rw[Int.tmod_eq_emod_of_nonneg (by omega)];omega
   have e2:i64.wrap ((n:Int).tdiv 10)=((n/10:Nat):Int):=by
    rw[Int.tdiv_eq_ediv_of_nonneg (by omega),ZF (by omega) (by omega)];omega
   have e3:(⟨#[vF (48+n%10)]⟩:ByteArray).size=1:=rfl
   obtain⟨m,o2,q1,q2,q3,q4⟩:=P.Ym f (n/10) (⟨#[vF (48+n%10)]⟩++out) (by rw[zD]at h;omega) (by omega) (by rw[ZU,e3];omega)
   refine⟨m,o2,?_,q2,?_,by rw[ZU,e3]at q4;omega⟩
   ·rw[F.f25,iP (by omega),e1,ZGU _ (zQ _ (by omega)),e2,iP (by rw[e3];omega)]
    exact q1
   ·rw[q3,ZLA h9,Zt]
theorem ZDt (n:Nat):ZA5 (n:Int)=ZIZ n:=by unfold ZA5 ZIZ Lib.itoa;rw[iN (by omega)];rfl
theorem ZAn {n:Int}(h:n<0):ZA5 n=⟨#[45]⟩++ZIZ n.natAbs:=by
 refine ZBY ?_
 rw[ZBK]
 unfold ZA5 ZIZ Lib.itoa
 rw[iP h]
 rfl
theorem P.YX (n:Nat)(h63:(n:Int)<=9223372036854775807):F.f26 (n:Int)=some (ZIZ n):=by
 have e:(10:Nat)^ (18+1)=10000000000000000000:=by decide
 obtain⟨m,o2,q1,q2,q3,q4⟩:=P.Ym 18 n xZ (by omega) h63 (by decide)
 have e0:xZ.size=0:=rfl
 have e1:(⟨#[vF (48+m)]⟩:ByteArray).size=1:=rfl
 rw[F.f26,iN (by omega),iN (by omega),q1]
 simp only[oE,oS]
 rw[ZGU m q2,iP (by rw[e1];omega),q3,ZD6]
theorem ZL {n:Int}(h:inR n):(ZA5 n).size<=20:=by
 have e:(10:Nat)^ (18+1)=10000000000000000000:=by decide
 have h1:=h.1
 have h2:=h.2
 by_cases hn:n<0
 ·rw[ZAn hn,ZU]
  have:=ZDz 18 n.natAbs (by omega)
  have e1:(⟨#[45]⟩:ByteArray).size=1:=rfl
  omega
 ·obtain⟨k,rfl⟩:=xR (show 0<=n by omega)
  rw[ZDt]
  have:=ZDz 18 k (by omega)
  omega
theorem ZKq :ZA5 (-9223372036854775808)=⟨#[45,57,50,50,51,51,55,50,48,51,54,56,53,52,55,55,53,56,48,56]⟩:=by
 rw[ZAn (by decide)]
 refine ZBY ?_
 rw[ZBK]
 have e:(-9223372036854775808).natAbs=9223372036854775808:=by decide
 rw[e]
 unfold ZIZ
 simp[Lib.decDigits]
theorem P.YC {n:Int}(h:inR n):F.f26 n=some (ZA5 n):=by
 have h1:=h.1
 have h2:=h.2
 by_cases hm:n< -9223372036854775807
 ·have:n= -9223372036854775808:=by omega
  subst this
  rw[F.f26,iP (by decide),ZKq]
 by_cases hn:n<0
 ·rw[F.f26,iN hm,iP hn]
  have e:i64.wrap (0-n)=((n.natAbs:Nat):Int):=by rw[ZF (by omega) (by omega)];omega
  have hs:=ZL h
  rw[ZAn hn,ZU]at hs
  rw[e,P.YX _ (by omega)]
  simp only[oE,oS]
  rw[iP (by omega),ZAn hn]
 ·obtain⟨k,rfl⟩:=xR (show 0<=n by omega)
  rw[P.YX k (by omega),ZDt]
theorem P.YG {n:Int}(h:inR n):F.f189 n=some (ZA5 n):=by
 have h1:=h.1
 unfold F.f189
 by_cases hn:n<0
 ·rw[iP hn]
  by_cases hm: -1000000<n
  ·have e:i64.wrap (0-n)=((n.natAbs:Nat):Int):=by rw[ZF (by omega) (by omega)];omega
   have hs:=ZL h
   rw[ZAn hn,ZU]at hs
   rw[iP hm,e,P.YX _ (by omega)]
   simp only[oE,oS]
   rw[iP (by omega),ZAn hn]
  ·rw[iN hm,P.YC h];rfl
 ·rw[iN hn,P.YC h];rfl
theorem P.YA {n:Int}(h:inR n):F.f179 n=some (ZA5 n):=by unfold F.f179;exact iP h
theorem ZA8 (a b:ByteArray):Zh (a++b)=Zh a++Zh b:=by unfold Zh;rw[ZBK,yP]
theorem ZGZ :Zh xZ=[]:=rfl
theorem ZAh (a:ByteArray):(Zh a).length=a.size:=by unfold Zh;rw[xA,ZC3]
theorem ZKZ (a:ByteArray):okB (Zh a):=by
 intro x hx
 obtain⟨b,_,rfl⟩:=yF.1 hx
 have:=b.toNat_lt
 omega
theorem ZIv (a:ByteArray):ZDE (Zh a)=a:=by
 have key:∀(l:List UInt8) (r:ByteArray),((l.map fun b=>(b.toNat:Int)).foldl (fun r n=>r.push (vF n.toNat)) r).data.toList=r.data.toList++l:=by
  intro l
  induction l with
  |nil=>intro r;simp
  |cons b l ih=>
   intro r
   rw[zY,List.foldl_cons,ih]
   simp[vB]
 refine ZBY ?_
 unfold ZDE Zh
 rw[key]
 rfl
noncomputable def ZLF :List ByteArray->ByteArray
 | []=>xZ
 |x::r=>x++ZLF r
theorem ZD5 :∀xs:List ByteArray,(ZLF xs).size=(xs.map vA).sum
 | []=>rfl
 |x::r=>by rw[ZLF,ZU,ZD5 r];rfl
theorem ZLG {α β:Type}{a:List α}{g:α->ByteArray}{c:ByteArray->β}{L:β->Nat->Option β}{M:Nat}(h0:∀o k,¬k<a.length->L (c o) k=some (c o))
  (h1:∀o k (h:k<a.length),o.size+(g a[k]).size<=M->L (c o) k=L (c (o++g a[k])) (k+1)):
  ∀n k o,a.length-k=n->o.size+((a.drop k).map fun x=>(g x).size).sum<=M->L (c o) k=some (c (o++ZLF ((a.drop k).map g)))
 |0,k,o,hn,hs=>by
  have e:a.drop k=[]:=zW (by omega)
  rw[h0 o k (by omega),e,yY,ZLF,ZD6]
 |n+1,k,o,hn,hs=>by
  have hk:k<a.length:=by omega
  have e:a.drop k=a[k]::a.drop (k+1):=zR hk
  rw[e]at hs ⊢
  simp only[zY,yB]at hs
  rw[h1 o k hk (by omega),ZLG h0 h1 n (k+1) _ (by omega) (by rw[ZU];omega),zY,ZLF,Zt]
theorem ZBi {α:Type}{a:List α}{g:α->ByteArray}{L:ByteArray->Nat->Option ByteArray}{M:Nat}(h0:∀o k,¬k<a.length->L o k=some o)
  (h1:∀o k (h:k<a.length),o.size+(g a[k]).size<=M->L o k=L (o++g a[k]) (k+1)) (o:ByteArray) (hs:o.size+(a.map fun x=>(g x).size).sum<=M):L o 0=some (o++ZLF (a.map g)):=by
 have:=ZLG (c:=id) (L:=L) h0 h1 a.length 0 o rfl (by rw[zU];exact hs)
 rw[zU]at this
 exact this
theorem ZNY {α:Type}{f g:α->Nat}{xs:List α}(h:∀x,x∈xs->f x<=g x):(xs.map f).sum<=(xs.map g).sum:=by
 induction xs with
 |nil=>simp
 |cons x r ih=>
  simp only[zY,yB]
  have:=h x (yG ..)
  have:=ih fun y hy=>h y (yD _ hy)
  omega
theorem ZJ3 {α:Type}(k m:Nat)(f:α->Nat)(xs:List α):(xs.map fun x=>k+m*f x).sum=k*xs.length+m*(xs.map f).sum:=by
 induction xs with
 |nil=>simp
 |cons x r ih=>simp only[zY,yB,yK,ih,zP,zO];omega
theorem z1a :(⟨#[46]⟩:ByteArray).size=1:=rfl
theorem z1b :(⟨#[118]⟩:ByteArray).size=1:=rfl
theorem z1c :(⟨#[32]⟩:ByteArray).size=1:=rfl
theorem z1e :(⟨#[45]⟩:ByteArray).size=1:=rfl
theorem z1f :(⟨#[10]⟩:ByteArray).size=1:=rfl
theorem z4a :(⟨#[102,97,105,108]⟩:ByteArray).size=4:=rfl
noncomputable def ZLe (x:Int):ByteArray:=⟨#[46]⟩++ZA5 x
theorem ZK9 {x:Int}(h:inR x):(ZLe x).size<=21:=by
 have:=ZL h
 unfold ZLe;rw[ZU,z1a];omega
noncomputable def ZHA (p:List Int):ByteArray:=⟨#[118]⟩++ZLF (p.map ZLe)
theorem ZDx {p:List Int}(h:∀x,x∈p->inR x):(p.map fun x=>(ZLe x).size).sum<=21*p.length:=by
 have h1:=ZNY (f:=fun x=>(ZLe x).size) (g:=fun _=>21+0*0) (xs:=p) fun x hx=>by have:=ZK9 (h x hx);omega
 have h2:=ZJ3 21 0 (fun _=>0) p
 omega
theorem ZCr {p:List Int}(h:∀x,x∈p->inR x):(ZHA p).size<=1+21*p.length:=by
 have:=ZDx h
 unfold ZHA
 rw[ZU,z1b,ZD5,xP]
 exact Nat.add_le_add_left this 1
theorem P.YAQ {p:List Int}(h:∀x,x∈p->inR x)(hl:p.length<=10000000):F.f191 p=some (ZHA p):=by
 have hd:=ZDx h
 unfold F.f191
 rw[ZBi (a:=p) (g:=ZLe) (M:=1000000000) (L:=F.f190 p) (fun o k hk=>by rw[F.f190,iN hk]) (fun o k hk hs=>by
  have hx:=ZL (h _ (gM hk))
  unfold ZLe at hs ⊢
  rw[ZU,z1a]at hs
  rw[F.f190,iP hk,gQ hk]
  simp only[oE,oS,P.YC (h _ (gM hk))]
  rw[iP (by rw[z1a];omega),iP (by rw[ZU,z1a];omega),Zt]) _ (by rw[z1b];omega)]
 rfl
theorem P.YAY {p:List Int}(h:∀x,x∈p->inR x)(hl:p.length<=10000000):F.f181 p=some (ZHA p):=by
 have hd:=ZDx h
 unfold F.f181
 rw[ZBi (a:=p) (g:=ZLe) (M:=1000000000) (L:=F.f180 p) (fun o k hk=>by rw[F.f180,iN hk]) (fun o k hk hs=>by
  have hx:=ZL (h _ (gM hk))
  unfold ZLe at hs ⊢
  rw[ZU,z1a]at hs
  rw[F.f180,iP hk,gQ hk]
  simp only[oE,oS,P.YA (h _ (gM hk))]
  rw[iP (by rw[z1a];omega),iP (by rw[ZU,z1a];omega)]) _ (by rw[z1b];omega)]
 rfl
noncomputable def ZBr {α:Type}(g:Nat->α->ByteArray):Nat->List α->ByteArray
 |_,[]=>xZ
 |k,x::r=>g k x++ZBr g (k+1) r
theorem ZFM {α β:Type}{a:List α}{g:Nat->α->ByteArray}{f:α->Nat}{c:ByteArray->β}{L:β->Nat->Option β}{M:Nat}(h0:∀o k,¬k<a.length->L (c o) k=some (c o))(hg:∀k (h:k<a.length),(g k a[k]).size<=f a[k])
  (h1:∀o k (h:k<a.length),o.size+f a[k]<=M->L (c o) k=L (c (o++g k a[k])) (k+1)):
  ∀n k o,a.length-k=n->o.size+((a.drop k).map f).sum<=M->L (c o) k=some (c (o++ZBr g k (a.drop k)))/\(o++ZBr g k (a.drop k)).size<=M
 |0,k,o,hn,hs=>by
  have e:a.drop k=[]:=zW (by omega)
  rw[h0 o k (by omega),e,ZBr,ZD6]
  exact⟨rfl,by rw[e]at hs;simpa using hs⟩
 |n+1,k,o,hn,hs=>by
  have hk:k<a.length:=by omega
  have e:a.drop k=a[k]::a.drop (k+1):=zR hk
  rw[e]at hs ⊢
  simp only[zY,yB]at hs
  have hgk:=hg k hk
  rw[h1 o k hk (by omega),ZBr,←Zt]
  exact ZFM h0 hg h1 n (k+1) _ (by omega) (by rw[ZU];omega)
theorem z1h :(⟨#[58]⟩:ByteArray).size=1:=rfl
theorem z1i :(⟨#[62]⟩:ByteArray).size=1:=rfl
theorem z6a :(⟨#[32,101,108,115,101,32]⟩:ByteArray).size=6:=rfl
theorem z6b :(⟨#[32,108,101,97,102,32]⟩:ByteArray).size=6:=rfl
theorem z6c :(⟨#[32,102,97,105,108,10]⟩:ByteArray).size=6:=rfl
theorem z5d :(⟨#[108,101,97,102,32]⟩:ByteArray).size=5:=rfl
theorem z7a :(⟨#[115,119,105,116,99,104,32]⟩:ByteArray).size=7:=rfl
theorem z8a :(⟨#[32,115,119,105,116,99,104,32]⟩:ByteArray).size=8:=rfl
noncomputable def ZCe (e:Edge):ByteArray:=⟨#[32]⟩++ZA5 e.ctor++⟨#[58]⟩++ZA5 e.n++⟨#[45]⟩++ZA5 e.m++⟨#[62]⟩++ZA5 e.to
theorem ZJe {e:Edge}(h:e.Ok):(ZCe e).size<=84:=by
 have:=ZL h.ctor;have:=ZL h.n;have:=ZL h.m;have:=ZL h.to
 unfold ZCe
 simp only[ZU,z1c,z1h,z1e,z1i]
 omega
noncomputable def ZCd (es:List Edge):ByteArray:=ZLF (es.map ZCe)
theorem ZA7 {es:List Edge}(h:∀e,e∈es->e.Ok):(es.map fun e=>(ZCe e).size).sum<=84*es.length:=by
 have h1:=ZNY (f:=fun e=>(ZCe e).size) (g:=fun _=>84+0*0) (xs:=es) fun e he=>by have:=ZJe (h e he);omega
 have h2:=ZJ3 84 0 (fun _=>0) es
 omega
theorem ZB9 {es:List Edge}(h:∀e,e∈es->e.Ok):(ZCd es).size<=84*es.length:=by
 have:=ZA7 h
 unfold ZCd;rw[ZD5,xP];exact this
structure Node.Txt (x:Node):Prop where
 clause:inR x.clause
 path:okL inR x.path
 edges:okL Edge.Ok x.edges
 els:inR x.els
noncomputable def ZHj (x:Node):ByteArray:=if 0<=x.els then⟨#[32,101,108,115,101,32]⟩++ZA5 x.els else xZ
theorem ZJd {x:Node}(h:x.Txt):(ZHj x).size<=26:=by
 have:=ZL h.els
 unfold ZHj
 split
 ·rw[ZU,z6a];omega
 ·show 0<=26;omega
noncomputable def ZGa (x:Node):ByteArray:=
 if x.op=0 then⟨#[102,97,105,108]⟩else(if x.op=2 then⟨#[115,119,105,116,99,104,32]⟩++ZHA x.path else⟨#[108,101,97,102,32]⟩++ZA5 x.clause)++ZCd x.edges++ZHj x
noncomputable def ZDn (i:Nat)(x:Node):ByteArray:=ZA5 (i:Int)++⟨#[32]⟩++ZGa x++⟨#[10]⟩
theorem ZEq {x:Node}(h:x.Txt)(he:x.edges.length<=10):(ZGa x).size<=900+21*x.path.length:=by
 have:=ZL h.clause;have:=ZCr h.path.2;have:=ZB9 h.edges.2;have:=ZJd h
 unfold ZGa
 split
 ·rw[z4a];omega
 ·split
  ·simp only[ZU,z7a];omega
  ·simp only[ZU,z5d];omega
theorem ZFm {i:Nat}(h:i<=1048576):inR (i:Int):=⟨by omega,by omega⟩
theorem ZCs {i:Nat}(hi:i<=1048576){x:Node}(h:x.Txt)(he:x.edges.length<=10):(ZDn i x).size<=922+21*x.path.length:=by
 have:=ZL (ZFm hi);have:=ZEq h he
 unfold ZDn
 simp only[ZU,z1c,z1f]
 omega
theorem P.YAH {x:Node}(h:∀e,e∈x.edges->e.Ok)(hl:x.edges.length<=10)(o:ByteArray)(ho:o.size<=900000000):F.f192 x o 0=some (o++ZCd x.edges):=by
 have hd:=ZA7 h
 refine ZBi (a:=x.edges) (g:=ZCe) (M:=1000000000) (L:=F.f192 x) (fun o k hk=>by rw[F.f192,iN hk]) (fun o k hk hs=> ?_) o (by omega)
 have hb:=h _ (gM hk)
 have:=ZL hb.ctor;have:=ZL hb.n;have:=ZL hb.m;have:=ZL hb.to
 unfold ZCe at hs ⊢
 rw[F.f192,iP hk,gQ hk]
 simp only[oE,oS,P.YG hb.ctor,P.YG hb.n,P.YG hb.m,P.YC hb.to]
 simp only[ZU,z1c,z1h,z1e,z1i]at hs ⊢
 rw[iP (by omega),iP (by omega),iP (by omega),iP (by omega),iP (by omega),iP (by omega),iP (by omega),iP (by omega)]
 simp only[Zt]
theorem P.YAG {x:Node}(h:∀e,e∈x.edges->e.Ok)(hl:x.edges.length<=10)(o:ByteArray)(ho:o.size<=900000000):F.f193 x o 0=some (o++ZCd x.edges):=by
 have hd:=ZA7 h
 refine ZBi (a:=x.edges) (g:=ZCe) (M:=1000000000) (L:=F.f193 x) (fun o k hk=>by rw[F.f193,iN hk]) (fun o k hk hs=> ?_) o (by omega)
 have hb:=h _ (gM hk)
 have:=ZL hb.ctor;have:=ZL hb.n;have:=ZL hb.m;have:=ZL hb.to
 unfold ZCe at hs ⊢
 rw[F.f193,iP hk,gQ hk]
 simp only[oE,oS,P.YG hb.ctor,P.YG hb.n,P.YG hb.m,P.YC hb.to]
 simp only[ZU,z1c,z1h,z1e,z1i]at hs ⊢
 rw[iP (by omega),iP (by omega),iP (by omega),iP (by omega),iP (by omega),iP (by omega),iP (by omega),iP (by omega)]
 simp only[Zt]
theorem P.YAN {x:Node}{l:List Node}{q:List Int}{i:Nat}(h:∀e,e∈x.edges->e.Ok)(hl:x.edges.length<=10)(o:ByteArray)(ho:o.size<=900000000):kZ l q i x 0 o=some (o++ZCd x.edges):=by
 have hd:=ZA7 h
 refine ZBi (a:=x.edges) (g:=ZCe) (M:=1000000000) (L:=fun o k=>kZ l q i x k o) (fun o k hk=>by show kZ l q i x k o=_;rw[kZ,iN hk]) (fun o k hk hs=> ?_) o (by omega)
 have hb:=h _ (gM hk)
 have:=ZL hb.ctor;have:=ZL hb.n;have:=ZL hb.m;have:=ZL hb.to
 show kZ l q i x k o=kZ l q i x (k+1) _
 unfold ZCe at hs ⊢
 rw[kZ,iP hk,gQ hk]
 simp only[oE,oS,P.YA hb.ctor,P.YA hb.n,P.YA hb.m,P.YA hb.to]
 simp only[ZU,z1c,z1h,z1e,z1i]at hs ⊢
 rw[iP (by omega),iP (by omega),iP (by omega),iP (by omega),iP (by omega),iP (by omega),iP (by omega),iP (by omega)]
theorem P.YAM {x:Node}{l:List Node}{q:List Int}{i:Nat}(h:∀e,e∈x.edges->e.Ok)(hl:x.edges.length<=10)(o:ByteArray)(ho:o.size<=900000000):kY l q i x 0 o=some (o++ZCd x.edges):=by
 have hd:=ZA7 h
 refine ZBi (a:=x.edges) (g:=ZCe) (M:=1000000000) (L:=fun o k=>kY l q i x k o) (fun o k hk=>by show kY l q i x k o=_;rw[kY,iN hk]) (fun o k hk hs=> ?_) o (by omega)
 have hb:=h _ (gM hk)
 have:=ZL hb.ctor;have:=ZL hb.n;have:=ZL hb.m;have:=ZL hb.to
 show kY l q i x k o=kY l q i x (k+1) _
 unfold ZCe at hs ⊢
 rw[kY,iP hk,gQ hk]
 simp only[oE,oS,P.YA hb.ctor,P.YA hb.n,P.YA hb.m,P.YA hb.to]
 simp only[ZU,z1c,z1h,z1e,z1i]at hs ⊢
 rw[iP (by omega),iP (by omega),iP (by omega),iP (by omega),iP (by omega),iP (by omega),iP (by omega),iP (by omega)]
theorem P.YAT {x:Node}(h:x.Txt)(hl:x.edges.length<=10)(hp:x.path.length<=1048576):F.f194 x=some (ZGa x):=by
 have a1:=ZL h.clause;have a2:=ZCr h.path.2;have a3:=ZB9 h.edges.2;have a4:=ZL h.els
 unfold F.f194 ZGa ZHj
 by_cases h0:x.op=0
 ·rw[iP h0,iP h0]
 ·rw[iN h0,iN h0,P.YG h.clause]
  simp only[oE,oS]
  rw[iP (by rw[z5d];omega)]
  by_cases h2:x.op=2
  ·rw[iP h2,iP h2,P.YAQ h.path.2 (by omega)]
   simp only[oS]
   rw[iP (by rw[z7a];omega),P.YAH h.edges.2 hl _ (by rw[ZU,z7a];omega)]
   simp only[oS]
   by_cases he:0<=x.els
   ·rw[iP he,iP he,iP (by simp only[ZU,z7a,z6a];omega),P.YC h.els]
    simp only[oS]
    rw[iP (by simp only[ZU,z7a,z6a];omega)]
    simp only[Zt]
   ·rw[iN he,iN he,ZD6]
  ·rw[iN h2,iN h2,P.YAG h.edges.2 hl _ (by rw[ZU,z5d];omega)]
   simp only[oS]
   by_cases he:0<=x.els
   ·rw[iP he,iP he,iP (by simp only[ZU,z5d,z6a];omega),P.YC h.els]
    simp only[oS]
    rw[iP (by simp only[ZU,z5d,z6a];omega)]
    simp only[Zt]
   ·rw[iN he,iN he,ZD6]
noncomputable def ZCW (l:List Node):ByteArray:=ZBr ZDn 0 l
theorem ZDj (l:List Node):(l.map fun x=>922+21*x.path.length).sum<=922*l.length+21*wtL Node.wt l:=by
 have h1:=ZJ3 922 21 (fun x:Node=>x.path.length) l
 have h2:=ZNY (f:=fun x:Node=>x.path.length) (g:=Node.wt) (xs:=l) fun x _=>by unfold Node.wt;rw[ZBz];omega
 rw[h1,ZER]
 omega
theorem P.YAB {l:List Node}(h:∀x,x∈l->x.Txt)(hw:wtL Node.wt l<=1048576)(hv:1<=l.length/\l.length<=300/\∀j (h:j<l.length),nodeOk j l[j]):F.f196 l=some (ZCW l):=by
 have hd:=ZDj l
 have hll:=ZAb Node.wt l
 unfold F.f196
 have key:=(ZFM (c:=id) (a:=l) (g:=ZDn) (f:=fun x=>922+21*x.path.length) (M:=100000000) (L:=kX l) (fun o k hk=>by show kX l o k=_;rw[kX,iN hk];rfl)
  (fun k hk=>ZCs (by omega) (h _ (gM hk)) (hv.2.2 k hk).len) (fun o k hk hs=>by
  have hx:=h _ (gM hk)
  have hm:=ZAQ Node.wt (gM hk)
  have e1:l[k].path.length<=l[k].wt:=by unfold Node.wt;rw[ZBz];omega
  have a1:=ZL (ZFm (i:=k) (by omega));have a2:=ZEq hx (hv.2.2 k hk).len
  show kX l o k=kX l (o++ZDn k l[k]) (k+1)
  unfold ZDn
  rw[kX,iP hk,P.YD l,ZI hv]
  simp only[oE,oS]
  rw[iP trivial,P.YC (ZFm (by omega)),gQ hk]
  simp only[oS,P.YAT hx (hv.2.2 k hk).len (by omega)]
  rw[iP (by omega),iP (by simp only[ZU,z1c];omega),iP (by simp only[ZU,z1c];omega),iP (by simp only[ZU,z1c,z1f];omega)]
  simp only[Zt]) l.length 0 xZ rfl (by rw[zU];show 0+_<=_;omega)).1
 rw[zU,ZNI]at key
 have key:kX l xZ 0=some (ZCW l):=key
 rw[key]
 rfl
theorem P.YAK {l:List Node}(h:∀x,x∈l->x.Txt)(hw:wtL Node.wt l<=1048576)(hv:1<=l.length/\l.length<=300/\∀j (h:j<l.length),nodeOk j l[j]):F.f185 l=some (ZCW l):=by
 have hd:=ZDj l
 have hll:=ZAb Node.wt l
 unfold F.f185
 rw[P.YE l (by omega),ZI hv]
 simp only[oE,oS]
 rw[iP trivial]
 have key:=ZFM (c:=Zh) (a:=l) (g:=ZDn) (f:=fun x=>922+21*x.path.length) (M:=100000000) (L:=F.f184 l) (fun o k hk=>by rw[F.f184,iN hk])
  (fun k hk=>ZCs (by omega) (h _ (gM hk)) (hv.2.2 k hk).len) (fun o k hk hs=>by
  have hx:=h _ (gM hk)
  have hm:=ZAQ Node.wt (gM hk)
  have e1:l[k].path.length<=l[k].wt:=by unfold Node.wt;rw[ZBz];omega
  have hok:=hv.2.2 k hk
  have b0:=hok.op0;have b2:=hok.op2;have hl:=hok.len
  have a1:=ZL (ZFm (i:=k) (by omega));have a2:=ZCr hx.path.2;have a3:=ZB9 hx.edges.2;have a4:=ZL hx.els;have a5:=ZL hx.clause
  unfold ZDn ZGa ZHj
  rw[F.f184,iP hk,gQ hk,P.YA (ZFm (by omega))]
  simp only[oE,oS]
  have e32:∀(a b:ByteArray),a++(⟨#[32]⟩:ByteArray)++b=a++(⟨#[32]⟩++b):=fun a b=>Zt _ _ _
  by_cases h0:l[k].op=0
  ·rw[iP h0,iP h0,iP (by rw[z6c];omega),iP (by simp only[ZU,z6c,ZAh];omega),←ZA8]
   have e:(⟨#[32,102,97,105,108,10]⟩:ByteArray)=⟨#[32]⟩++(⟨#[102,97,105,108]⟩++⟨#[10]⟩):=ZBY (by simp only[ZBK];rfl)
   rw[e]
   simp only[Zt]
  ·rw[iN h0,iN h0]
   by_cases h1:l[k].op=1
   ·have h2:¬l[k].op=2:=by omega
    have e:(⟨#[32,108,101,97,102,32]⟩:ByteArray)=⟨#[32]⟩++⟨#[108,101,97,102,32]⟩:=ZBY (by simp only[ZBK];rfl)
    rw[iP h1,iN h2,P.YA hx.clause]
    simp only[oS]
    rw[iP (by rw[z6b];omega),iP (by simp only[ZU,z6b];omega),P.YAN hx.edges.2 hl _ (by simp only[ZU,z6b];omega)]
    simp only[oS]
    by_cases he:0<=l[k].els
    ·rw[iP he,iP he,P.YA hx.els]
     simp only[oS]
     rw[iP (by rw[z6a];omega),iP (by simp only[ZU,z6a,z6b];omega),iP (by simp only[ZU,z6a,z6b,z1f];omega),iP (by simp only[ZU,z6a,z6b,z1f,ZAh];omega),iP (by omega),←ZA8,e]
     simp only[Zt]
    ·rw[iN he,iN he,iP (by simp only[ZU,z6b,z1f];omega),iP (by simp only[ZU,z6b,z1f,ZAh];omega),iP (by omega),←ZA8,e,ZD6]
     simp only[Zt]
   ·have h2:l[k].op=2:=by omega
    have e:(⟨#[32,115,119,105,116,99,104,32]⟩:ByteArray)=⟨#[32]⟩++⟨#[115,119,105,116,99,104,32]⟩:=ZBY (by simp only[ZBK];rfl)
    rw[iN h1,iP h2,P.YAY hx.path.2 (by omega)]
    simp only[oS]
    rw[iP (by rw[z8a];omega),iP (by simp only[ZU,z8a];omega),P.YAM hx.edges.2 hl _ (by simp only[ZU,z8a];omega)]
    simp only[oS]
    by_cases he:0<=l[k].els
    ·rw[iP he,iP he,P.YA hx.els]
     simp only[oS]
     rw[iP (by rw[z6a];omega),iP (by simp only[ZU,z6a,z8a];omega),iP (by simp only[ZU,z6a,z8a,z1f];omega),iP (by simp only[ZU,z6a,z8a,z1f,ZAh];omega),iP (by omega),←ZA8,e]
     simp only[Zt]
    ·rw[iN he,iN he,iP (by simp only[ZU,z8a,z1f];omega),iP (by simp only[ZU,z8a,z1f,ZAh];omega),iP (by omega),←ZA8,e,ZD6]
     simp only[Zt]) l.length 0 xZ rfl (by rw[zU];show 0+_<=_;omega)
 rw[ZGZ,zU,ZNI]at key
 obtain⟨key,hsz⟩:=key
 rw[key]
 simp only[oS]
 rw[iP ⟨ZKZ _,by rw[ZAh];omega⟩,ZIv]
 rfl
theorem P.YAC {l:List Node}(hl:l.length<=67108864)(hv:¬(1<=l.length/\l.length<=300/\∀j (h:j<l.length),nodeOk j l[j])):F.f196 l=some xZ:=by
 unfold F.f196
 rw[kX]
 by_cases h:0<l.length
 ·rw[iP h,P.YD l,ZG hv]
  rfl
 ·rw[iN h];rfl
theorem P.YAL {l:List Node}(hl:l.length<=1048576)(hv:¬(1<=l.length/\l.length<=300/\∀j (h:j<l.length),nodeOk j l[j])):F.f185 l=some xZ:=by
 unfold F.f185
 rw[P.YE l hl,ZG hv]
 rfl
def ZGn (b:ByteArray):Nat:=b.data.toList.count 10
theorem ZAC (a b:ByteArray):ZGn (a++b)=ZGn a+ZGn b:=by unfold ZGn;rw[ZBK,List.count_append]
theorem ZGT :∀n:Nat,(Lib.decDigits n).count 10=0:=by
 intro n
 induction n using Nat.strongRecOn with
 |_ n ih=>
  have dg:∀k,k<10->[vF (48+k)].count 10=0:=by
   intro k hk
   match k,hk with
   |0,_=>rfl
   |1,_=>rfl
   |2,_=>rfl
   |3,_=>rfl
   |4,_=>rfl
   |5,_=>rfl
   |6,_=>rfl
   |7,_=>rfl
   |8,_=>rfl
   |9,_=>rfl
  rw[Lib.decDigits]
  split
  ·next h=>exact dg n h
  ·next h=>rw[List.count_append,ih (n/10) (by omega),dg _ (zQ _ (by omega))]
theorem ZBW (n:Int):ZGn (ZA5 n)=0:=by
 by_cases h:n<0
 ·rw[ZAn h,ZAC]
  have e:ZGn (ZIZ n.natAbs)=0:=ZGT _
  rw[e];rfl
 ·obtain⟨k,rfl⟩:=xR (show 0<=n by omega)
  rw[ZDt];exact ZGT _
theorem ZFX {α:Type}{g:α->ByteArray}{k:Nat}:∀{l:List α},(∀x,x∈l->ZGn (g x)=k)->ZGn (ZLF (l.map g))=k*l.length
 | [],_=>rfl
 |x::r,h=>by
  rw[zY,ZLF,ZAC,h x (yG ..),ZFX fun y hy=>h y (yD _ hy),yK,zP,zO,zM]
theorem ZLB (p:List Int):ZGn (ZHA p)=0:=by
 unfold ZHA
 rw[ZAC,ZFX (k:=0) fun x _=>by unfold ZLe;rw[ZAC,ZBW];rfl,zJ]
 rfl
theorem ZFW {b : ByteArray} {L : Nat -> Nat -> Option Nat} (hb : b.size <= 9000000000000000000) (hL : ∀ n i, L n i = if i < b.size then if byteAt b i = 10 then if n + 1 <= 9223372036854775807 then if i + 1 <= 9223372036854775807 then L (n + 1) (i + 1) else none else none
   else if i+1<=9223372036854775807 then L n (i+1)else none else some n):∀(m i n:Nat),b.size-i=m->n<=i->i<=b.size->L n i=some (n+(b.data.toList.drop i).count 10)
 |0,i,n,hm,hn,hi=>by
  rw[hL,iN (by omega),zW (by rw[←ZC3];omega)];rfl
 |m+1,i,n,hm,hn,hi=>by
  have hk:i<b.size:=by omega
  have hk':i<b.data.toList.length:=by rw[←ZC3];exact hk
  have e:byteAt b i=b.data.toList[i].toNat:=by
   unfold byteAt
   rw[zX,gQ hk'];rfl
  rw[hL,iP hk,zR hk',List.count_cons]
  have hlt:=b.data.toList[i].toNat_lt
  by_cases h:byteAt b i=10
  ·have:b.data.toList[i]=10:=by
    apply UInt8.toNat_inj.1
    show _=10
    omega
   rw[iP h,iP (by omega),iP (by omega),ZFW hb hL m (i+1) (n+1) (by omega) (by omega) (by omega),this]
   simp;omega
  ·have:¬b.data.toList[i]=10:=fun q=>h (by rw[e,q];rfl)
   rw[iN h,iP (by omega),ZFW hb hL m (i+1) n (by omega) (by omega) (by omega),iN (by simpa using this)]
   rfl
theorem ZEp {α:Type}{g:Nat->α->ByteArray}:∀(l:List α) (k:Nat),(∀i x,x∈l->ZGn (g i x)=1)->ZGn (ZBr g k l)=l.length
 | [],_,_=>rfl
 |x::r,k,h=>by
  rw[ZBr,ZAC,h k x (yG ..),ZEp r (k+1) fun i y hy=>h i y (yD _ hy),yK,zM]
theorem ZEg {α:Type}{g:Nat->α->ByteArray}{f:α->Nat}:∀(l:List α) (k:Nat),k+l.length<=1048576->(∀i x,x∈l->i<=1048576->(g i x).size<=f x)->(ZBr g k l).size<=(l.map f).sum
 | [],_,_,_=>by show 0<=_;omega
 |x::r,k,hk,h=>by
  rw[yK]at hk
  have h1:=h k x (yG ..) (by omega)
  have h2:=ZEg r (k+1) (by omega) fun i y hy=>h i y (yD _ hy)
  rw[ZBr,ZU,zY,yB]
  omega
theorem ZLC (i:Nat)(x:Node):ZGn (ZDn i x)=1:=by
 have he:ZGn (ZCd x.edges)=0:=by
  unfold ZCd
  rw[ZFX (k:=0) fun b _=>by unfold ZCe;simp only[ZAC,ZBW];rfl,zJ]
 have hs:ZGn (ZHj x)=0:=by
  unfold ZHj
  split
  ·simp only[ZAC,ZBW];rfl
  ·rfl
 have hb:ZGn (ZGa x)=0:=by
  unfold ZGa
  split
  ·rfl
  ·rw[ZAC,ZAC,he,hs]
   split
   ·simp only[ZAC,ZLB];rfl
   ·simp only[ZAC,ZBW];rfl
 unfold ZDn
 simp only[ZAC,ZBW,hb]
 rfl
theorem ZJi (l:List Node):ZGn (ZCW l)=l.length:=ZEp l 0 fun i x _=>ZLC i x
theorem ZHI {l:List Node}(h:∀x,x∈l->x.Txt)(hw:wtL Node.wt l<=1048576)(he:∀x,x∈l->x.edges.length<=10):(ZCW l).size<=9000000000000000000:=by
 have h1:=ZDj l
 have h2:=ZAb Node.wt l
 have h3:=ZEg (g:=ZDn) (f:=fun x=>922+21*x.path.length) l 0 (by omega) fun i x hx hi=>ZCs hi (h x hx) (he x hx)
 unfold ZCW
 omega
end Go.Vl
