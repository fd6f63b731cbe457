import Derived.Test.YtnockmfobogfpaaGreatExactForcedFirstP
set_option linter.all false
set_option maxRecDepth 100000
open Nat renaming le_refl->zA,zero_le->zB,mul_le_mul_right->zC,mul_le_mul_left->zD,zero_add->zE,min_eq_left->zF,one_mul->zG,min_eq_right->zH,mul_assoc->zI,add_assoc->zJ,add_mul->zK,eq_zero_or_pos->zL,lt_trichotomy->zM,mul_le_mul->zN,sub_self->zO,lt_trans->zP,add_zero->zQ,add_comm->zR
open List renaming drop_eq_getElem_cons->zS,drop_eq_nil_of_le->zT,length_append->zU,drop_zero->zV,take_of_length_le->zW,map_cons->zX,append_assoc->zY,mem_map->zZ,mem_append->yA,flatMap_cons->yB,mem_cons_of_mem->yC,getElem_of_mem->yD,nil_append->yE,length_nil->yF,length_cons->yG,mem_cons_self->yH,map_append->yI,length_map->yJ,mem_take_iff_getElem->yK,foldl_cons->yL,take_append->yM,length_take->yN,mem_singleton->yO,mem_cons->yP,mem_flatMap->yQ,getElem_map->yR,exists_cons_of_length_pos->yS,zip_cons_cons->yT,nodup_cons->yU,take_succ_eq_append_getElem->yV,sum_cons->yW,drop_left->yX,getElem?_eq_some_iff->yY,cons_append->yZ,getElem_cons_zero->xA,length_zip->xB,append_nil->xC,mem_iff_getElem->xD,take_succ_cons->xE,map_nil->xF,eq_nil_of_length_eq_zero->xG,take_take->xH,take_left->xI,getD_eq_getElem?_getD->xJ,getElem_cons_succ->xK,sizeOf_lt_of_mem->xL,append_of_mem->xM,range'_succ->xN,perm_middle->xO,ext_getElem->xP,mem_filter->xQ,map_take->xR,map_map->xS,length->xT
open Classical renaming byContradiction->xU
open Bool renaming false_eq_true->xV
namespace Go.Vl
open Go Go.RowKit
open F renaming f138->xW,f137->xX,f164->xY,f187->xZ,f69->vA,f199->vB,f166->vC,f129->vD,f95->vE,f63->vF,f77->vG,f75->vH,f48->vI,f46->vJ,f45->vK,f44->vL,f42->vM,f39->vN,f178->vO,f177->vP,f172->vQ,f162->vR,f160->vS,f157->vT,f153->vU,f144->vV,f121->vW,f112->vX,f110->vY,f93->vZ,f79->uA,f73->uB,f71->uC,f68->uD,f66->uE,f65->uF,f56->uG,f201->uH,f200->uI,f186->uJ,f183->uK,f181->uL,f180->uM,f151->uN,f150->uO,f149->uP,f148->uQ,f146->uR,f145->uS,f133->uT,f128->uU,f109->uV,f94->uW,f92->uX,f91->uY,f89->uZ,f83->kA,f78->kB,f74->kC,f67->kD,f54->kE,f49->kF
open Pattern renaming wt->kG,ind->kH
open Go.IntKind (i64)
variable {α β:Type}{f:α->Option β}
theorem oS {a:α}:(some a).bind f=f a:=rfl
theorem oE :(bind:Option α->(α->Option β)->Option β)=Option.bind:=rfl
variable {l:List α}
theorem gQ {i:Nat}(h:i<l.length):l[i]? =some l[i]:=List.getElem?_eq_getElem h
theorem gM {n:Nat}(h:n<l.length):l[n]∈l:=List.getElem_mem h
theorem ZLj {a:α}:(some a>>=f)=f a:=rfl
theorem ZRL {c:Prop}[Decidable c]{a b r:Option α}(h1:c->a=r)(h2:¬c->b=r):(if c then a else b)=r:=by
 by_cases h:c
 ·rw[iP h];exact h1 h
 ·rw[iN h];exact h2 h
noncomputable def ZGb {α:Type}(p:α->Prop):Nat->List α->Option Nat
 |_,[]=>none
 |k,x::r=>if dec (p x)=true then some k else ZGb p (k+1) r
theorem ZAo {α:Type}{p:α->Prop}:∀{l:List α} {k j:Nat},ZGb p k l=some j->k<=j/\∃h:j-k<l.length,p l[j-k]/\∀i (hi:i<l.length),i<j-k->¬p l[i]
 |x::r,k,j,h=>by
  simp only[ZGb]at h
  split at h
  ·next hp=>
   obtain rfl:=Option.some.inj h
   refine⟨zA _,by simp,?_,fun i _ hi=>by omega⟩
   simpa using Zd.1 hp
  ·next hp=>
   obtain⟨h1,h2,h3,h4⟩:=ZAo h
   have e:j-k=(j- (k+1))+1:=by omega
   refine⟨by omega,by simp;omega,?_,fun i hi hlt=> ?_⟩
   ·simp only[e,xK];exact h3
   ·cases i with
    |zero=>exact fun hq=>hp (dec_of hq)
    |succ i=>exact h4 i (by simpa using hi) (by omega)
theorem ZAp {α:Type}{p:α->Prop}:∀{l:List α} {k:Nat},ZGb p k l=none->∀x,x∈l->¬p x
 | [],_,_=>fun x hx=>by cases hx
 |x::r,k,h=>by
  simp only[ZGb]at h
  split at h
  ·cases h
  ·next hp=>
   intro y hy
   rcases yP.1 hy with rfl|hy
   ·exact fun hq=>hp (dec_of hq)
   ·exact ZAp h y hy
theorem ZK4 {a:List α}{p:α->Prop}{L:Nat->Option (Lo Int Unit)}(h0:∀k,a.length<=k->L k=some (.go ()))(h1:∀k (h:k<a.length),¬p a[k]->L k=L (k+1))(h2:∀k (h:k<a.length),p a[k]->L k=some (.ret (k:Int))):∀(m k:Nat),a.length-k=m->L k=some (match ZGb p k (a.drop k)with|some j=>.ret (j:Int)|none=>.go ()):=by
 intro m
 induction m with
 |zero=>intro k hm;rw[h0 k (by omega),zT (by omega)];rfl
 |succ m ih=>
  intro k hm
  have hk:k<a.length:=by omega
  rw[zS hk]
  by_cases hp:p a[k]
  ·rw[h2 k hk hp];simp only[ZGb];rw[iP (dec_of hp)]
  ·rw[h1 k hk hp,ih (k+1) (by omega)];simp only[ZGb];rw[iN (by rw[ZB hp];simp)]
def ZO3 (c:Nat):Prop:=65<=c/\c<=90
def ZFa (s:ByteArray):Prop:=s.size=1/\ZO3 (byteAt s 0)/\s≠⟨#[73]⟩
def ZGH (s:ByteArray):Prop:=1<=s.size/\s.size<=5/\ZO3 (byteAt s 0)/\∀i,1<=i->i<s.size->97<=byteAt s i/\byteAt s i<=122
def ZBq (n:Nat)(t:Ty):Prop:=(t.data= -1/\t.index=0)∨(0<=t.data/\t.data<n/\-1<=t.index/\t.index<=3)
def ZEx (n:Nat)(c:Ctor):Prop:=ZGH c.name/\c.args.length<=3/\0<=c.index/\c.index<=3/\∀j,0<=j->(h:j<c.args.length)->ZBq n c.args[j]
theorem P.Yq (c:Nat):F.f37 c=some (dec (ZO3 c)):=by
 unfold F.f37
 by_cases h:65<=(c:Int)
 ·rw[iP h];congr 1;rw[←ZAY];exact ZJ ⟨fun h'=>⟨by omega,by omega⟩,fun h'=>by have:=h'.2;omega⟩
 ·rw[iN h,ZB fun h'=>h (by have:=h'.1;omega)]
theorem P.YAh (s:ByteArray):F.f38 s=some (dec (ZFa s)):=by
 unfold F.f38
 by_cases h:s.size=1
 ·rw[iP h,iP (by omega),P.Yq]
  simp only[oE,oS]
  by_cases hb:ZO3 (byteAt s 0)
  ·rw[iP (dec_of hb)];congr 1;rw[←ZAY];exact ZJ ⟨fun h'=>⟨h,hb,fun e=>h' (by rw[e])⟩,fun h' e=>h'.2.2 (ZAL.1 e)⟩
  ·rw[iN (by rw[ZB hb];simp),ZB fun h'=>hb h'.2.1]
 ·rw[iN h,ZB fun h'=>h h'.1]
theorem P.YAU (s:ByteArray)(hs:s.size<=1048576):vN s 1=some (if dec (∀i,1<=i->i<s.size->97<=byteAt s i/\byteAt s i<=122)=true then .go ()else .ret false):=by
 refine ZH8 (L:=vN s) (fun k hk=> ?_) (fun k hk hq=> ?_) (fun k hk hq=> ?_) _ 1 rfl
 ·rw[vN,iN (by omega)]
 ·rw[vN,iP hk,iN (by omega),iN (by omega),iP (by omega)]
 ·rw[vN,iP hk]
  by_cases h:byteAt s k<97
  ·rw[iP h]
  ·rw[iN h,iP (by omega)]
theorem P.YAZ (s:ByteArray)(hs:s.size<=1048576):vD s 1=some (if dec (∀i,1<=i->i<s.size->97<=byteAt s i/\byteAt s i<=122)=true then .go ()else .ret false):=by
 refine ZH8 (L:=vD s) (fun k hk=> ?_) (fun k hk hq=> ?_) (fun k hk hq=> ?_) _ 1 rfl
 ·rw[vD,iN (by omega)]
 ·rw[vD,iP hk,iN (by omega),iN (by omega),iP (by omega)]
 ·rw[vD,iP hk]
  by_cases h:byteAt s k<97
  ·rw[iP h]
  ·rw[iN h,iP (by omega)]
theorem P.Ys (s:ByteArray)(hs:s.size<=1048576):F.f40 s=some (dec (ZGH s)):=by
 unfold F.f40
 by_cases h0:s.size=0
 ·rw[iP h0,ZB fun h=>by have:=h.1;omega]
 by_cases h5:5<s.size
 ·rw[iN h0,iP h5,ZB fun h=>by have:=h.2.1;omega]
 rw[iN h0,iN h5,iP (by omega),P.Yq]
 simp only[oE,oS]
 by_cases hb:ZO3 (byteAt s 0)
 ·rw[iP (dec_of hb),P.YAU s hs]
  simp only[oS]
  by_cases hall:∀i,1<=i->i<s.size->97<=byteAt s i/\byteAt s i<=122
  ·rw[iP (dec_of hall),dec_of ⟨by omega,by omega,hb,hall⟩]
  ·rw[iN (by rw[ZB hall];simp),ZB fun h=>hall h.2.2.2]
 ·rw[iN (by rw[ZB hb];simp),ZB fun h=>hb h.2.2.1]
theorem P.YD (n low high:Int):uU n low high=some (dec (low<=n/\n<=high)):=by
 unfold uU
 by_cases h:low<=n
 ·rw[iP h];congr 1;rw[←ZAY];exact ZJ ⟨fun h'=>⟨h,h'⟩,fun h'=>h'.2⟩
 ·rw[iN h,ZB fun h'=>h h'.1]
theorem P.Yw (s:ByteArray)(hs:s.size<=1048576):F.f130 s=some (dec (ZGH s)):=by
 unfold F.f130
 rw[P.YD]
 simp only[oE,oS]
 by_cases h0:1<=(s.size:Int)/\(s.size:Int)<=5
 ·rw[iP (dec_of h0),iP (by omega)]
  by_cases a1:byteAt s 0<65
  ·rw[iP a1,ZB fun h=>by have:=h.2.2.1.1;omega]
  by_cases a2:90<byteAt s 0
  ·rw[iN a1,iP a2,ZB fun h=>by have:=h.2.2.1.2;omega]
  rw[iN a1,iN a2,P.YAZ s hs]
  simp only[oS]
  by_cases hall:∀i,1<=i->i<s.size->97<=byteAt s i/\byteAt s i<=122
  ·rw[iP (dec_of hall),dec_of ⟨by omega,by omega,⟨by omega,by omega⟩,hall⟩]
  ·rw[iN (by rw[ZB hall];simp),ZB fun h=>hall h.2.2.2]
 ·rw[iN (by rw[ZB h0];simp),ZB fun h=>h0 ⟨by have:=h.1;omega,by have:=h.2.1;omega⟩]
theorem P.YS (n:Nat)(t:Ty):F.f41 n t=some (dec (ZBq n t)):=by
 unfold F.f41
 by_cases h:t.data= -1
 ·rw[iP h];congr 1;rw[←ZAY];exact ZJ ⟨fun h'=>.inl ⟨h,h'⟩,fun h'=>h'.elim (·.2) (fun h'=>by have:=h'.1;omega)⟩
 rw[iN h]
 by_cases h1:0<=t.data
 ·by_cases h2:t.data<n
  ·by_cases h3: -1<=t.index
   ·rw[iP h1,iP h2,iP h3];congr 1;rw[←ZAY];exact ZJ ⟨fun h'=>.inr ⟨h1,h2,h3,h'⟩,fun h'=>h'.elim (fun h'=>absurd h'.1 h) (fun h'=>h'.2.2.2)⟩
   ·rw[iP h1,iP h2,iN h3,ZB fun h'=>h'.elim (fun h'=>h h'.1) (fun h'=>h3 h'.2.2.1)]
  ·rw[iP h1,iN h2,ZB fun h'=>h'.elim (fun h'=>h h'.1) (fun h'=>h2 h'.2.1)]
 ·rw[iN h1,ZB fun h'=>h'.elim (fun h'=>h h'.1) (fun h'=>h1 h'.1)]
theorem P.YAt (w:List Data)(t:Ty)(hw:w.length<=1048576):F.f131 w t=some (dec (ZBq w.length t)):=by
 unfold F.f131
 by_cases h:eq2 (t.data,t.index) (-1,0)
 ·rw[iP (dec_of h),dec_of (.inl h)]
 rw[iN (by rw[ZB h];simp),P.YD,ZD (by omega) (by omega)]
 simp only[oE,oS]
 by_cases h1:0<=t.data/\t.data<=(w.length:Int) -1
 ·rw[iP (dec_of h1),P.YD]
  simp only[oS]
  congr 1;exact ZJ ⟨fun h'=>.inr ⟨h1.1,by omega,h'.1,h'.2⟩,fun h'=>h'.elim (fun h'=>absurd h' h) (fun h'=>h'.2.2)⟩
 ·rw[iN (by rw[ZB h1];simp),ZB fun h'=>h'.elim (fun h'=>h h') (fun h'=>h1 ⟨h'.1,by have:=h'.2.1;omega⟩)]
theorem P.Yh (n:Nat)(c:Ctor)(hs:c.name.size<=1048576):F.f43 n c=some (dec (ZEx n c)):=by
 unfold F.f43
 rw[P.Ys _ hs]
 simp only[oE,oS]
 by_cases h1:ZGH c.name
 ·rw[iP (dec_of h1)]
  by_cases h2:3<c.args.length
  ·rw[iP h2,ZB fun h=>by have:=h.2.1;omega]
  by_cases h3:c.index<0
  ·rw[iN h2,iP h3,ZB fun h=>by have:=h.2.2.1;omega]
  by_cases h4:3<c.index
  ·rw[iN h2,iN h3,iP h4,ZB fun h=>by have:=h.2.2.2.1;omega]
  rw[iN h2,iN h3,iN h4]
  have key:vM n c 0=some (if dec (∀j,0<=j->j<c.args.length->∀h:j<c.args.length,ZBq n c.args[j])=true then .go ()else .ret false):=by
   refine ZH8 (n:=c.args.length) (Q:=fun j=>∀h:j<c.args.length,ZBq n c.args[j]) (L:=vM n c) (fun k hk=> ?_) (fun k hk hq=> ?_) (fun k hk hq=> ?_) _ 0 rfl
   ·rw[vM,iN (by omega)]
   ·rw[vM,iP hk,gQ hk]
    simp only[oE,oS]
    rw[P.YS]
    simp only[oS]
    rw[iP (dec_of (hq hk))]
   ·rw[vM,iP hk,gQ hk]
    simp only[oE,oS]
    rw[P.YS]
    simp only[oS]
    rw[iN (by rw[ZB fun h=>hq fun _=>h];simp)]
  rw[key]
  simp only[oS]
  by_cases hall:∀j,0<=j->j<c.args.length->∀h:j<c.args.length,ZBq n c.args[j]
  ·rw[iP (dec_of hall),dec_of ⟨h1,by omega,by omega,by omega,fun j h0 hj=>hall j h0 hj hj⟩]
  ·rw[iN (by rw[ZB hall];simp),ZB fun h=>hall fun j h0 _ hj=>h.2.2.2.2 j h0 hj]
 ·rw[iN (by rw[ZB h1];simp),ZB fun h=>h1 h.1]
theorem P.YAF (t:Ty)(w:List Data)(hw:w.length<=1048576):F.f132 t w=some (!dec (ZBq w.length t)):=by
 unfold F.f132
 rw[P.YAt w t hw];rfl
theorem P.YA0 (w:List Data)(hw:w.length<=1048576)(s:List Ty):∃v,F.f134 s w=some v/\(0<=v↔¬∀j,0<=j->(h:j<s.length)->ZBq w.length s[j]):=by
 unfold F.f134
 have key:∀(m k:Nat),s.length-k=m->∃r,uT s w k=some r/\
   match r with| .ret j=>0<=j/\¬∀j,k<=j->(h:j<s.length)->ZBq w.length s[j]| .go _=>∀j,k<=j->(h:j<s.length)->ZBq w.length s[j]:=by
  intro m
  induction m with
  |zero=>
   intro k hm
   rw[uT,iN (by omega)]
   exact⟨_,rfl,fun j hj h=>by omega⟩
  |succ m ih=>
   intro k hm
   have hk:k<s.length:=by omega
   rw[uT,iP hk,gQ hk]
   simp only[oE,oS]
   rw[P.YAF _ _ hw]
   simp only[oS]
   by_cases h:ZBq w.length s[k]
   ·rw[iN (by rw[dec_of h];simp)]
    obtain⟨r,hr,hx⟩:=ih (k+1) (by omega)
    refine⟨r,hr,?_⟩
    cases r with
    |ret j=>exact⟨hx.1,fun hh=>hx.2 fun j hj hl=>hh j (by omega) hl⟩
    |go _=>
     intro j hj hl
     by_cases e:k=j
     ·subst e;exact h
     ·exact hx j (by omega) hl
   ·rw[iP (by rw[ZB h];simp)]
    exact⟨_,rfl,by omega,fun hh=>h (hh k (zA _) hk)⟩
 obtain⟨r,hr,hx⟩:=key _ 0 rfl
 rw[hr]
 cases r with
 |ret j=>exact⟨j,rfl,fun _=>hx.2,fun _=>hx.1⟩
 |go _=>exact⟨-1,rfl,fun h=>by omega,fun h=>absurd hx h⟩
theorem P.Yk (w:List Data)(c:Ctor)(hw:w.length<=1048576)(hs:c.name.size<=1048576):F.f136 w c=some (dec (ZEx w.length c)):=by
 unfold F.f136
 rw[P.Yw _ hs]
 simp only[oE,oS]
 by_cases h1:ZGH c.name
 ·rw[iP (dec_of h1)]
  by_cases h2:c.args.length<=3
  ·rw[iP h2,P.YD]
   simp only[oS]
   by_cases h3:0<=c.index/\c.index<=3
   ·rw[iP (dec_of h3)]
    unfold F.f135
    obtain⟨v,hv,hx⟩:=P.YA0 w hw c.args
    rw[hv]
    simp only[oE,oS]
    by_cases hall:∀j,0<=j->(h:j<c.args.length)->ZBq w.length c.args[j]
    ·have:¬0<=v:=fun h=>(hx.1 h) hall
     rw[dec_of ⟨h1,h2,h3.1,h3.2,hall⟩];simp[this]
    ·have:0<=v:=hx.2 hall
     rw[ZB fun h=>hall h.2.2.2.2];simp[this]
   ·rw[iN (by rw[ZB h3];simp),ZB fun h=>h3 ⟨h.2.2.1,h.2.2.2.1⟩]
  ·rw[iN h2,ZB fun h=>h2 h.2.1]
 ·rw[iN (by rw[ZB h1];simp),ZB fun h=>h1 h.1]
abbrev ZAK (d:Data):List ByteArray:=d.ctors.map (·.name)
structure ctorAt (w:List Data)(i:Nat)(d:Data)(k:Nat)(c:Ctor):Prop where
 ok:ZEx w.length c
 new:c.name∉(w.take i).flatMap ZAK++(d.ctors.take k).map (·.name)
structure dataAt (w:List Data)(i:Nat)(d:Data):Prop where
 name:ZFa d.name
 new:d.name∉(w.take i).map (·.name)
 some:1<=d.ctors.length
 few:d.ctors.length<=4
 ctors:∀k,0<=k->k<d.ctors.length->∀h:k<d.ctors.length,ctorAt w i d k d.ctors[k]
def ZT (w:List Data):Prop:=w.length<=4/\∀i,0<=i->i<w.length->∀h:i<w.length,dataAt w i w[i]
def ZAi (w:List Data):Prop:=w.length<=1048576/\∀d,d∈w->∀c,c∈d.ctors->c.name.size<=1048576
theorem P.YP (w:List Data)(hw:ZAi w)(met4:List ByteArray)(i:Nat)(hi:i<w.length):xX w met4 i w[i] ((w.take i).flatMap ZAK) 0=
  some (if dec (∀k,0<=k->k<w[i].ctors.length->∀h:k<w[i].ctors.length,ctorAt w i w[i] k w[i].ctors[k])=true then .go ((w.take i).flatMap ZAK++ZAK w[i])else .ret false):=by
 have key:=ZRd (n:=w[i].ctors.length) (r:=false) (p:=(w.take i).flatMap ZAK++ZAK w[i]) (Q:=fun k=>∀h:k<w[i].ctors.length,ctorAt w i w[i] k w[i].ctors[k]) (L:=fun k=>xX w met4 i w[i] ((w.take i).flatMap ZAK++(w[i].ctors.take k).map (·.name)) k)
  (fun k hk=>by
   show xX w met4 i w[i] ((w.take i).flatMap ZAK++(w[i].ctors.take k).map (·.name)) k=_
   rw[xX,iN (by omega),zW hk])
  (fun k hk hq=>by
   show xX w met4 i w[i] ((w.take i).flatMap ZAK++(w[i].ctors.take k).map (·.name)) k=xX w met4 i w[i] ((w.take i).flatMap ZAK++(w[i].ctors.take (k+1)).map (·.name)) (k+1)
   have hc:=hq hk
   rw[xX,iP hk,gQ hk]
   simp only[oE,oS]
   rw[P.Yk w _ hw.1 (hw.2 _ (gM hi) _ (gM hk))]
   simp only[oS]
   rw[iP (dec_of hc.ok),iN (by rw[ZB hc.new];simp),ZCV,iN (by rw[ZB hc.new];simp),ZCF hk,zY])
  (fun k hk hq=>by
   show xX w met4 i w[i] ((w.take i).flatMap ZAK++(w[i].ctors.take k).map (·.name)) k=_
   rw[xX,iP hk,gQ hk]
   simp only[oE,oS]
   rw[P.Yk w _ hw.1 (hw.2 _ (gM hi) _ (gM hk))]
   simp only[oS]
   by_cases h1:ZEx w.length w[i].ctors[k]
   ·rw[iP (dec_of h1),iP (dec_of ?_)]
    apply xU
    intro h2
    exact hq fun _=>⟨h1,h2⟩
   ·rw[iN (by rw[ZB h1];simp)]) _ 0 rfl
 simpa using key
theorem P.YAB (w:List Data)(hw:ZAi w):xW w [] [] 0=some (if dec (∀i,0<=i->i<w.length->∀h:i<w.length,dataAt w i w[i])=true then .go (w.flatMap ZAK,w.map (·.name))else .ret false):=by
 have key:=ZRd (n:=w.length) (r:=false) (p:=(w.flatMap ZAK,w.map (·.name))) (Q:=fun i=>∀h:i<w.length,dataAt w i w[i]) (L:=fun i=>xW w ((w.take i).flatMap ZAK) ((w.take i).map (·.name)) i)
  (fun i hi=>by
   show xW w ((w.take i).flatMap ZAK) ((w.take i).map (·.name)) i=_
   rw[xW,iN (by omega),zW hi])
  (fun i hi hq=>by
   show xW w ((w.take i).flatMap ZAK) ((w.take i).map (·.name)) i=xW w ((w.take (i+1)).flatMap ZAK) ((w.take (i+1)).map (·.name)) (i+1)
   have hd:=hq hi
   have hn:=hd.name
   have hbig:=hn.2.1
   unfold ZO3 at hbig
   have:=hw.1
   rw[xW,iP hi,gQ hi]
   simp only[oE,oS]
   have:=hd.some;have:=hd.few
   rw[iP hn.1,iP (by have:=hn.1;omega),iN (by omega),iN (by omega),iN (fun h=>hn.2.2 (ZAL.1 h)),iN (by rw[ZB hd.new];simp),P.YD]
   simp only[oS]
   rw[iP (dec_of (by omega)),P.YP w hw _ i hi,iP (dec_of hd.ctors)]
   simp only[oS]
   rw[iP (by omega),ZCV,iN (by rw[ZB hd.new];simp),ZCF hi,ZCn hi])
  (fun i hi hq=>by
   show xW w ((w.take i).flatMap ZAK) ((w.take i).map (·.name)) i=_
   have:=hw.1
   rw[xW,iP hi,gQ hi]
   simp only[oE,oS]
   by_cases h1:w[i].name.size=1
   ·rw[iP h1,iP (by omega)]
    by_cases h2:byteAt w[i].name 0<65
    ·rw[iP h2]
    by_cases h3:90<byteAt w[i].name 0
    ·rw[iN h2,iP h3]
    by_cases h4:w[i].name.toList=(⟨#[73]⟩:ByteArray).toList
    ·rw[iN h2,iN h3,iP h4]
    by_cases h5:w[i].name∈(w.take i).map (·.name)
    ·rw[iN h2,iN h3,iN h4,iP (dec_of h5)]
    rw[iN h2,iN h3,iN h4,iN (by rw[ZB h5];simp),P.YD]
    simp only[oS]
    by_cases h6:1<=(w[i].ctors.length:Int)/\(w[i].ctors.length:Int)<=4
    ·rw[iP (dec_of h6),P.YP w hw _ i hi,iN (by
      rw[ZB fun hh=>hq fun _=>⟨⟨h1,⟨by omega,by omega⟩,fun e=>h4 (by rw[e])⟩,h5,by omega,by omega,hh⟩];simp)]
     rfl
    ·rw[iN (by rw[ZB h6];simp)]
   ·rw[iN h1]) _ 0 rfl
 simpa using key
theorem P.Yo (w:List Data)(hw:ZAi w):F.f139 w=some (dec (ZT w)):=by
 unfold F.f139
 by_cases h:4<w.length
 ·rw[iP h,ZB fun hh=>by have:=hh.1;omega]
 rw[iN h,P.YAB w hw]
 simp only[oE,oS]
 by_cases hall:∀i,0<=i->i<w.length->∀h:i<w.length,dataAt w i w[i]
 ·rw[iP (dec_of hall),dec_of ⟨by omega,hall⟩]
 ·rw[iN (by rw[ZB hall];simp),ZB fun hh=>hall hh.2]
theorem P.YAf (w:List Data)(hw:ZAi w)(d k i:Nat)(hd:d<w.length)(hk:k<w[d].ctors.length)(hi:i<d)(hl:w[d].ctors.length<=4)(hli:w[i].ctors.length<=4):vL w d k i 0=
  some (if dec (∀j,0<=j->j<w[i].ctors.length->∀h:j<w[i].ctors.length,w[i].ctors[j].name≠w[d].ctors[k].name)=true then .go ()else .ret true):=by
 have hi':i<w.length:=by omega
 refine ZH8 (n:=w[i].ctors.length) (r:=true) (Q:=fun j=>∀h:j<w[i].ctors.length,w[i].ctors[j].name≠w[d].ctors[k].name) (L:=vL w d k i) (fun j hj=> ?_) (fun j hj hq=> ?_) (fun j hj hq=> ?_) _ 0 rfl
 ·rw[vL,gQ hi']
  simp only[oE,oS]
  rw[iN (by omega)]
 ·rw[vL,gQ hi']
  simp only[oE,oS]
  rw[iP hj,iP (by omega),ZCe hd]
  simp only[oS]
  rw[iP (by omega),gQ hj,ZCe hk]
  simp only[oS]
  rw[iN (fun h=>hq hj (ZAL.1 h)),iP (by omega)]
 ·rw[vL,gQ hi']
  simp only[oE,oS]
  rw[iP hj,iP (by omega),ZCe hd]
  simp only[oS]
  rw[iP (by omega),gQ hj,ZCe hk]
  simp only[oS]
  rw[iP (ZAL.2 (xU fun h=>hq fun _=>h))]
theorem P.YAe (w:List Data)(hw:ZAi w)(d k:Nat)(hd:d<w.length)(hk:k<w[d].ctors.length)(hl:w[d].ctors.length<=4):vK w d k d 0=
  some (if dec (∀j,0<=j->j<k->∀h:j<w[d].ctors.length,w[d].ctors[j].name≠w[d].ctors[k].name)=true then .go ()else .ret true):=by
 refine ZH8 (n:=k) (r:=true) (Q:=fun j=>∀h:j<w[d].ctors.length,w[d].ctors[j].name≠w[d].ctors[k].name) (L:=vK w d k d) (fun j hj=> ?_) (fun j hj hq=> ?_) (fun j hj hq=> ?_) _ 0 rfl
 ·rw[vK,gQ hd]
  simp only[oE,oS]
  rcases Nat.lt_or_ge j w[d].ctors.length with h|h
  ·rw[iP h,iN (by omega),iN (by omega)]
  ·rw[iN (by omega)]
 ·have hj':j<w[d].ctors.length:=zP hj hk
  rw[vK,gQ hd]
  simp only[oE,oS]
  rw[iP hj',iN (by omega),iP (by omega),ZCe hd]
  simp only[oS]
  rw[iP (by omega),gQ hj',ZCe hk]
  simp only[oS]
  rw[iN (fun h=>hq hj' (ZAL.1 h)),iP (by omega)]
 ·have hj':j<w[d].ctors.length:=zP hj hk
  rw[vK,gQ hd]
  simp only[oE,oS]
  rw[iP hj',iN (by omega),iP (by omega),ZCe hd]
  simp only[oS]
  rw[iP (by omega),gQ hj',ZCe hk]
  simp only[oS]
  rw[iP (ZAL.2 (xU fun h=>hq fun _=>h))]
structure fresh (w:List Data)(d k i:Nat)(hd:d<w.length)(hk:k<w[d].ctors.length):Prop where
 data:i<d->∀h:i<w.length,w[i].name≠w[d].name
 ctor:i<d->∀h:i<w.length,∀j,0<=j->j<w[i].ctors.length->∀h:j<w[i].ctors.length,w[i].ctors[j].name≠w[d].ctors[k].name
 own:i=d->∀j,0<=j->j<k->∀h:j<w[d].ctors.length,w[d].ctors[j].name≠w[d].ctors[k].name
theorem P.YU (w:List Data)(hw:ZAi w)(d k:Nat)(hd:d<w.length)(hk:k<w[d].ctors.length)(hw4:w.length<=4)(hl:∀i,i<=d->∀h:i<w.length,w[i].ctors.length<=4):F.f47 w d k=some (!dec (∀i,0<=i->i<d+1->fresh w d k i hd hk)):=by
 unfold F.f47
 have key:vJ w d k 0=some (if dec (∀i,0<=i->i<d+1->fresh w d k i hd hk)=true then .go ()else .ret true):=by
  refine ZH8 (n:=d+1) (r:=true) (Q:=fun i=>fresh w d k i hd hk) (L:=vJ w d k) (fun i hi=> ?_) (fun i hi hq=> ?_) (fun i hi hq=> ?_) _ 0 rfl
  ·rw[vJ,iN (by omega)]
  ·rw[vJ,iP (by omega)]
   by_cases h:i<d
   ·have hi':i<w.length:=by omega
    rw[iP (by omega),gQ hi',ZCe hd]
    simp only[oE,oS]
    rw[iN (fun e=>hq.data h hi' (ZAL.1 e)),P.YAf w hw d k i hd hk h (hl d (zA _) hd) (hl i (by omega) hi'),iP (dec_of (hq.ctor h hi'))]
    simp only[oS]
    rw[iP (by omega)]
   ·obtain rfl:i=d:=by omega
    rw[iN (by omega),P.YAe w hw i k hd hk (hl i (zA _) hd),iP (dec_of (hq.own rfl))]
    simp only[oE,oS]
    rw[iP (by omega)]
  ·rw[vJ,iP (by omega)]
   by_cases h:i<d
   ·have hi':i<w.length:=by omega
    rw[iP (by omega),gQ hi',ZCe hd]
    simp only[oE,oS]
    by_cases hn:w[i].name=w[d].name
    ·rw[iP (ZAL.2 hn)]
    ·rw[iN (fun e=>hn (ZAL.1 e)),P.YAf w hw d k i hd hk h (hl d (zA _) hd) (hl i (by omega) hi'),iN (by rw[ZB fun hh=>hq ⟨fun _ _=>hn,fun _ _=>hh,fun e=>by omega⟩];simp)]
     rfl
   ·obtain rfl:i=d:=by omega
    rw[iN (by omega),P.YAe w hw i k hd hk (hl i (zA _) hd),iN (by rw[ZB fun hh=>hq ⟨fun e=>by omega,fun e=>by omega,fun _=>hh⟩];simp)]
    rfl
 rw[key]
 simp only[oE,oS]
 by_cases hall:∀i,0<=i->i<d+1->fresh w d k i hd hk
 ·rw[iP (dec_of hall),dec_of hall];rfl
 ·rw[iN (by rw[ZB hall];simp),ZB hall];rfl
theorem ZD1 (w:List Data)(d k:Nat)(hd:d<w.length)(hk:k<w[d].ctors.length):(∀i,0<=i->i<d+1->fresh w d k i hd hk)↔w[d].name∉(w.take d).map (·.name)/\w[d].ctors[k].name∉(w.take d).flatMap ZAK++(w[d].ctors.take k).map (·.name):=by
 constructor
 ·intro h
  refine⟨fun hm=> ?_,fun hm=> ?_⟩
  ·obtain⟨x,hx,e⟩:=zZ.1 hm
   obtain⟨i,hi,rfl⟩:=yK.1 hx
   exact(h i (by omega) (by omega)).data (by omega) (by omega) e
  ·rcases yA.1 hm with hm|hm
   ·obtain⟨x,hx,hc⟩:=yQ.1 hm
    obtain⟨i,hi,rfl⟩:=yK.1 hx
    obtain⟨c,hc,e⟩:=zZ.1 hc
    obtain⟨j,hj,rfl⟩:=yD hc
    exact(h i (by omega) (by omega)).ctor (by omega) (by omega) j (by omega) hj hj e
   ·obtain⟨c,hc,e⟩:=zZ.1 hm
    obtain⟨j,hj,rfl⟩:=yK.1 hc
    exact(h d (by omega) (by omega)).own rfl j (by omega) (by omega) (by omega) e
 ·rintro⟨h1,h2⟩ i _ hi
  refine⟨fun hid hiw e=>h1 (zZ.2 ⟨w[i],yK.2 ⟨i,by omega,rfl⟩,e⟩),fun hid hiw j _ hj hj' e=>h2 (List.mem_append_left _ (yQ.2 ⟨w[i],yK.2 ⟨i,by omega,rfl⟩,zZ.2 ⟨_,gM hj,e⟩⟩)),fun e j _ hj hj' e=>h2 (List.mem_append_right _ (zZ.2 ⟨_,yK.2 ⟨j,by omega,rfl⟩,e⟩))⟩
theorem P.Yy (w:List Data)(hw:ZAi w)(d:Nat)(hd:d<w.length)(hw4:w.length<=4)(hl:∀i,i<=d->∀h:i<w.length,w[i].ctors.length<=4):vI w d 0=
  some (if dec (∀k,0<=k->k<w[d].ctors.length->∀h:k<w[d].ctors.length,w[d].name∉(w.take d).map (·.name)/\ctorAt w d w[d] k w[d].ctors[k])=true then .go ()else .ret false):=by
 have hl0:=hl d (zA _) hd
 refine ZH8 (n:=w[d].ctors.length) (r:=false) (Q:=fun k=>∀h:k<w[d].ctors.length,w[d].name∉(w.take d).map (·.name)/\ctorAt w d w[d] k w[d].ctors[k]) (L:=vI w d) (fun k hk=> ?_) (fun k hk hq=> ?_) (fun k hk hq=> ?_) _ 0 rfl
 ·rw[vI,gQ hd]
  simp only[oE,oS]
  rw[iN (by omega)]
 ·obtain⟨h1,h2⟩:=hq hk
  rw[vI,gQ hd]
  simp only[oE,oS]
  rw[iP hk,gQ hk]
  simp only[oS]
  rw[P.Yh _ _ (hw.2 _ (gM hd) _ (gM hk))]
  simp only[oS]
  rw[iP (dec_of h2.ok),P.YU w hw d k hd hk hw4 hl]
  simp only[oS]
  rw[dec_of ((ZD1 w d k hd hk).2 ⟨h1,h2.new⟩),iN (by simp),iP (by omega)]
 ·rw[vI,gQ hd]
  simp only[oE,oS]
  rw[iP hk,gQ hk]
  simp only[oS]
  rw[P.Yh _ _ (hw.2 _ (gM hd) _ (gM hk))]
  simp only[oS]
  by_cases h1:ZEx w.length w[d].ctors[k]
  ·rw[iP (dec_of h1),P.YU w hw d k hd hk hw4 hl]
   simp only[oS]
   rw[ZB fun hh=>hq fun _=>⟨((ZD1 w d k hd hk).1 hh).1,⟨h1,((ZD1 w d k hd hk).1 hh).2⟩⟩,iP (by simp)]
  ·rw[iN (by rw[ZB h1];simp)]
theorem P.Yn (w:List Data)(hw:ZAi w):F.f50 w=some (dec (ZT w)):=by
 unfold F.f50
 by_cases h4:4<w.length
 ·rw[iP h4,ZB fun hh=>by have:=hh.1;omega]
 rw[iN h4]
 -- the loop runs only on over types that are right
 have key:∀(m d:Nat),w.length-d=m->(∀i,i<d->∀h:i<w.length,w[i].ctors.length<=4)->kF w d=some (if dec (∀i,d<=i->i<w.length->∀h:i<w.length,dataAt w i w[i])=true then .go ()else .ret false):=by
  intro m
  induction m with
  |zero=>
   intro d hm hl
   rw[kF,iN (by omega),iP (dec_of fun i h1 h2=>by omega)]
  |succ m ih=>
   intro d hm hl
   have hd:d<w.length:=by omega
   rw[kF,iP hd,gQ hd]
   simp only[oE,oS]
   rw[P.YAh]
   simp only[oS]
   have no:¬dataAt w d w[d]->¬∀i,d<=i->i<w.length->∀h:i<w.length,dataAt w i w[i]:=fun h hh=>h (hh d (zA _) hd hd)
   by_cases h1:ZFa w[d].name
   ·rw[iP (dec_of h1)]
    by_cases h2:w[d].ctors.length=0
    ·rw[iP h2,iN (by rw[ZB (no fun h=>by have:=h.some;omega)];simp)]
    by_cases h3:4<w[d].ctors.length
    ·rw[iN h2,iP h3,iN (by rw[ZB (no fun h=>by have:=h.few;omega)];simp)]
    have hl':∀i,i<=d->∀h:i<w.length,w[i].ctors.length<=4:=fun i hi h=>by
     by_cases e:i=d
     ·subst e;omega
     ·exact hl i (by omega) h
    rw[iN h2,iN h3,P.Yy w hw d hd (by omega) hl']
    simp only[oS]
    by_cases hq:∀k,0<=k->k<w[d].ctors.length->∀h:k<w[d].ctors.length,w[d].name∉(w.take d).map (·.name)/\ctorAt w d w[d] k w[d].ctors[k]
    ·have hda:dataAt w d w[d]:=⟨h1,(hq 0 (by omega) (by omega) (by omega)).1,by omega,by omega,fun k a b c=>(hq k a b c).2⟩
     rw[iP (dec_of hq)]
     simp only
     rw[iP (by omega),ih (d+1) (by omega) fun i hi h=>hl' i (by omega) h]
     by_cases hall:∀i,d+1<=i->i<w.length->∀h:i<w.length,dataAt w i w[i]
     ·rw[iP (dec_of hall),iP (dec_of fun i a b c=> ?_)]
      by_cases e:i=d
      ·subst e;exact hda
      ·exact hall i (by omega) b c
     ·rw[iN (by rw[ZB hall];simp),iN (by rw[ZB fun hh=>hall fun i a b c=>hh i (by omega) b c];simp)]
    ·rw[iN (by rw[ZB hq];simp)]
     simp only
     rw[iN (by rw[ZB (no fun h=>hq fun k a b c=>⟨h.new,h.ctors k a b c⟩)];simp)]
   ·rw[iN (by rw[ZB h1];simp),iN (by rw[ZB (no fun h=>h1 h.name)];simp)]
 rw[key _ 0 rfl fun i hi=>by omega]
 simp only[oE,oS]
 by_cases hall:∀i,0<=i->i<w.length->∀h:i<w.length,dataAt w i w[i]
 ·rw[iP (dec_of hall),dec_of ⟨by omega,hall⟩]
 ·rw[iN (by rw[ZB hall];simp),ZB fun hh=>hall hh.2]
def ZAA (w:List Data)(t:Ty):Prop:=ZBq w.length t/\0<=t.index
theorem P.YBD (w:List Data)(t:Ty):F.f51 w t=some (dec (ZAA w t)):=by
 unfold F.f51
 rw[P.YS]
 simp only[oE,oS]
 by_cases h:ZBq w.length t
 ·rw[iP (dec_of h),←ZAY];congr 1;exact ZJ ⟨fun h'=>⟨h,h'⟩,fun h'=>h'.2⟩
 ·rw[iN (by rw[ZB h];simp),ZB fun h'=>h h'.1]
theorem P.YAi (w:List Data)(t:Ty)(hw:w.length<=1048576):F.f140 w t=some (dec (ZAA w t)):=by
 unfold F.f140
 by_cases h:eq2 (t.data,t.index) (-1,0)
 ·rw[iP (dec_of h),dec_of ⟨.inl h,by have:=h.2;simp at this;omega⟩]
 rw[iN (by rw[ZB h];simp),P.YD,ZD (by omega) (by omega)]
 simp only[oE,oS]
 by_cases h1:0<=t.data/\t.data<=(w.length:Int) -1
 ·rw[iP (dec_of h1),P.YD]
  simp only[oS]
  congr 1;exact ZJ ⟨fun h'=>⟨.inr ⟨h1.1,by omega,by omega,h'.2⟩,h'.1⟩,fun h'=>h'.1.elim (fun h'=>absurd h' h) (fun h2=>⟨h'.2,h2.2.2.2⟩)⟩
 ·rw[iN (by rw[ZB h1];simp),ZB fun h'=>h'.1.elim (fun h'=>h h') (fun h'=>h1 ⟨h'.1,by have:=h'.2.1;omega⟩)]
def ZAh (w:List Data)(t:Ty):Prop:=ZT w/\ZAA w t
theorem P.Yr (w:List Data)(t:Ty)(hw:ZAi w):F.f52 w t=some (dec (ZAh w t)):=by
 unfold F.f52
 rw[P.Yn w hw]
 simp only[oE,oS]
 by_cases h:ZT w
 ·rw[iP (dec_of h),P.YBD]
  simp only[oS]
  congr 1;exact ZJ ⟨fun h'=>⟨h,h'⟩,fun h'=>h'.2⟩
 ·rw[iN (by rw[ZB h];simp),ZB fun h'=>h h'.1]
theorem P.Yv (w:List Data)(t:Ty)(hw:ZAi w):F.f141 w t=some (dec (ZAh w t)):=by
 unfold F.f141
 rw[P.Yo w hw]
 simp only[oE,oS]
 by_cases h:ZT w
 ·rw[iP (dec_of h),P.YAi w t hw.1]
  simp only[oS]
  congr 1;exact ZJ ⟨fun h'=>⟨h,h'⟩,fun h'=>h'.2⟩
 ·rw[iN (by rw[ZB h];simp),ZB fun h'=>h h'.1]
variable {w:List Data}
theorem ZKC (h:wtL Data.wt w<=1048576):ZAi w:=by
 refine⟨by have:=ZAN Data.wt w;omega,fun d hd c hc=> ?_⟩
 have h1:=Zf Data.wt hd
 have h2:=Zf Ctor.wt hc
 have e1:d.wt=d.name.size+wtL Ctor.wt d.ctors:=rfl
 have e2:c.wt=c.name.size+wtL Ty.wt c.args:=rfl
 omega
def tOk (w:List Data)(t:Ty):Prop:=t.data= -1∨(0<=t.data/\t.data<w.length)
variable {t:Ty}
theorem ZCH (h:ZBq w.length t):tOk w t:=h.elim (fun h=>.inl h.1) (fun h=>.inr ⟨h.1,h.2.1⟩)
def ZO1 (i:Int)(c:Ctor):Prop:=i=0∨c.index=0∨c.index=i
noncomputable def ZJz (i:Int):Nat->List Ctor->List Int
 |_,[]=>[]
 |k,c::r=>(if dec (ZO1 i c)=true then[(k:Int)]else[])++ZJz i (k+1) r
theorem ZIQ (i:Int){x:Int}:∀{k:Nat} {l:List Ctor},x∈ZJz i k l->(k:Int)<=x/\x<k+l.length
 |_,[],h=>by simp[ZJz]at h
 |k,c::r,h=>by
  unfold ZJz at h
  rcases yA.1 h with h|h
  ·split at h
   ·simp at h;subst h;simp;omega
   ·simp at h
  ·have:=ZIQ i h
   simp;omega
def Za (w:List Data)(t:Ty):Data:=w.getD t.data.toNat Data.z
noncomputable def ZZ (w:List Data)(t:Ty):List Int:=if t.data= -1 then[]else ZJz t.index 0 (Za w t).ctors
def Zi (w:List Data)(t:Ty)(c:Int):Ctor:=(Za w t).ctors.getD c.toNat Ctor.z
def ZDJ (t:Ty)(c:Ctor)(a:Ty):Ty:=if a.index= -1 then⟨a.data,if c.index=0 then t.index else c.index⟩else a
def ZR (w:List Data)(t:Ty)(c:Int):List Ty:=(Zi w t c).args.map (ZDJ t (Zi w t c))
theorem ZC2 (h:tOk w t)(hn:t.data≠-1):at? w t.data=some (Za w t)/\Za w t∈w/\∃h:t.data.toNat<w.length,Za w t=w[t.data.toNat]:=by
 obtain⟨h1,h2⟩:=h.resolve_left hn
 have hlt:t.data.toNat<w.length:=by omega
 unfold at? Za
 rw[iP h1,gQ hlt,xJ,gQ hlt]
 exact⟨rfl,gM hlt,hlt,rfl⟩
theorem ZAO (hw:ZT w)(h:tOk w t)(hn:t.data≠-1):(Za w t).ctors.length<=4/\∀c,c∈(Za w t).ctors->ZEx w.length c:=by
 obtain⟨_,_,hlt,e⟩:=ZC2 h hn
 have hd:=hw.2 t.data.toNat (by omega) hlt hlt
 rw[e]
 refine⟨hd.few,fun c hc=> ?_⟩
 obtain⟨k,hk,rfl⟩:=yD hc
 exact(hd.ctors k (by omega) hk hk).ok
theorem P.YAA (w:List Data)(hw:ZT w)(t:Ty)(h:tOk w t)(hn:t.data≠-1):∀(m k:Nat) (out:List Int),(Za w t).ctors.length-k=m->out.length<=k->k<=(Za w t).ctors.length->
  kE w t out k=some (out++ZJz t.index k ((Za w t).ctors.drop k)):=by
 have h4:=(ZAO hw h hn).1
 intro m
 induction m with
 |zero=>
  intro k out hm ho hk
  rw[kE,(ZC2 h hn).1]
  simp only[oE,oS]
  rw[iN (by omega),zT (by omega)];simp[ZJz]
 |succ m ih=>
  intro k out hm ho hk
  have hlt:k<(Za w t).ctors.length:=by omega
  rw[kE,(ZC2 h hn).1]
  simp only[oE,oS]
  rw[iP hlt,gQ hlt,zS hlt]
  simp only[oS,ZJz]
  have hf:F.f53 (Za w t).ctors[k] t.index=some (dec (ZO1 t.index (Za w t).ctors[k])):=by
   unfold F.f53
   by_cases h1:(Za w t).ctors[k].index=0
   ·rw[iP h1,dec_of (.inr (.inl h1))]
   ·by_cases h2:t.index=0
    ·rw[iN h1,iP h2,dec_of (.inl h2)]
    ·rw[iN h1,iN h2,←ZAY];congr 1;exact ZJ ⟨fun h=>.inr (.inr h),fun h=>h.elim (fun h=>absurd h h2) (fun h=>h.elim (fun h=>absurd h h1) id)⟩
  rw[hf]
  simp only[oS]
  by_cases hfit:ZO1 t.index (Za w t).ctors[k]
  ·rw[iP (dec_of hfit),iP (by omega),iP (by omega),ih (k+1) _ (by omega) (by simp;omega) (by omega),iP (dec_of hfit)];simp
  ·rw[iN (by rw[ZB hfit];simp),iP (by omega),ih (k+1) _ (by omega) (by omega) (by omega),iN (by rw[ZB hfit];simp)];simp
theorem P.YV (w:List Data)(hw:ZT w)(t:Ty)(h:tOk w t):F.f55 w t=some (ZZ w t):=by
 unfold F.f55 ZZ
 by_cases hn:t.data= -1
 ·rw[iP hn,iP hn]
 ·rw[iN hn,iN hn,P.YAA w hw t h hn _ 0 [] rfl (by simp) (by omega)];simp
theorem P.YAE (w:List Data)(hw:ZT w)(t:Ty)(h:tOk w t)(hn:t.data≠-1):∀(m k:Nat) (out:List Int),(Za w t).ctors.length-k=m->out.length<=k->k<=(Za w t).ctors.length->
  vV t (Za w t) k out=some (out++ZJz t.index k ((Za w t).ctors.drop k)):=by
 have h4:=(ZAO hw h hn).1
 intro m
 induction m with
 |zero=>
  intro k out hm ho hk
  rw[vV,iN (by omega),zT (by omega)];simp[ZJz]
 |succ m ih=>
  intro k out hm ho hk
  have hlt:k<(Za w t).ctors.length:=by omega
  rw[vV,iP hlt,gQ hlt,zS hlt]
  simp only[oE,oS,ZJz]
  have yes:ZO1 t.index (Za w t).ctors[k]->(if out.length+1<=67108864 then vV t (Za w t) (k+1) (out++[(k:Int)])else none)=
    some (out++((if dec (ZO1 t.index (Za w t).ctors[k])=true then[(k:Int)]else[])++ZJz t.index (k+1) ((Za w t).ctors.drop (k+1)))):=by
   intro hfit
   rw[iP (by omega),ih (k+1) _ (by omega) (by simp;omega) (by omega),iP (dec_of hfit)];simp
  by_cases h1:t.index=0
  ·rw[iP h1];exact yes (.inl h1)
  by_cases h2:(Za w t).ctors[k].index=0
  ·rw[iN h1,iP h2];exact yes (.inr (.inl h2))
  by_cases h3:(Za w t).ctors[k].index=t.index
  ·rw[iN h1,iN h2,iP h3];exact yes (.inr (.inr h3))
  ·have hfit:¬ZO1 t.index (Za w t).ctors[k]:=fun h=>h.elim h1 (fun h=>h.elim h2 h3)
   rw[iN h1,iN h2,iN h3,ih (k+1) _ (by omega) (by omega) (by omega),iN (by rw[ZB hfit];simp)];simp
theorem P.YX (w:List Data)(hw:ZT w)(t:Ty)(h:tOk w t):uS w t=some (ZZ w t):=by
 unfold uS ZZ
 by_cases hn:t.data= -1
 ·rw[iP hn,iP hn]
 ·rw[iN hn,iN hn,(ZC2 h hn).1]
  simp only[oE,oS]
  rw[P.YAE w hw t h hn _ 0 [] rfl (by simp) (by omega)];simp
variable {c:Int}
theorem Zj (h:c∈ZZ w t):t.data≠-1/\0<=c/\c<(Za w t).ctors.length:=by
 unfold ZZ at h
 split at h
 ·cases h
 ·next hn=>
  have:=ZIQ t.index h
  exact⟨hn,by omega,by omega⟩
theorem ZC3 (h:c∈ZZ w t):at? (Za w t).ctors c=some (Zi w t c)/\Zi w t c∈(Za w t).ctors:=by
 obtain⟨_,h1,h2⟩:=Zj h
 have hlt:c.toNat<(Za w t).ctors.length:=by omega
 unfold at? Zi
 rw[iP h1,gQ hlt,xJ,gQ hlt]
 exact⟨rfl,gM hlt⟩
theorem ZH7 (hw:ZT w)(ht:tOk w t)(h:c∈ZZ w t):(ZR w t c).length<=3/\∀a,a∈ZR w t c->tOk w a:=by
 have hc:=(ZAO hw ht (Zj h).1).2 _ (ZC3 h).2
 refine⟨by unfold ZR;rw[yJ];exact hc.2.1,fun a ha=> ?_⟩
 obtain⟨b,hb,rfl⟩:=zZ.1 ha
 obtain⟨j,hj,rfl⟩:=yD hb
 have:=ZCH (hc.2.2.2.2 j (by omega) hj)
 unfold ZDJ
 split
 ·exact this
 ·exact this
theorem P.Yi (w:List Data)(hw:ZT w)(t:Ty)(ht:tOk w t)(c:Int)(h:c∈ZZ w t):F.f61 w t c=some (ZR w t c):=by
 have hc:=(ZAO hw ht (Zj h).1).2 _ (ZC3 h).2
 unfold F.f61
 rw[(ZC2 ht (Zj h).1).1]
 simp only[oE,oS]
 rw[(ZC3 h).1]
 simp only[oS]
 rw[ZFi (L:=F.f60 t (Zi w t c)) (a:=(Zi w t c).args) (g:=ZDJ t (Zi w t c)) (f:=fun a=>some (ZDJ t (Zi w t c) a)) (fun out i=> ?_) (fun _ _=>rfl) _ 0 [] rfl (by have:=hc.2.1;simp;omega)]
 ·simp[ZR]
 ·rw[F.f60]
  split
  ·cases(Zi w t c).args[i]? with
   |none=>rfl
   |some a=>
    simp only[oE,oS,F.f59,ZDJ]
    split
    ·split<;>simp
    ·simp
  ·rfl
theorem P.YQ (w:List Data)(hw:ZT w)(t:Ty)(ht:tOk w t)(c:Int)(h:c∈ZZ w t):uN w t c=some (ZR w t c):=by
 have hc:=(ZAO hw ht (Zj h).1).2 _ (ZC3 h).2
 unfold uN
 rw[(ZC2 ht (Zj h).1).1]
 simp only[oE,oS]
 rw[(ZC3 h).1]
 simp only[oS]
 by_cases h0:(Zi w t c).index=0
 ·rw[iP h0,ZFi (L:=fun out i=>uP t (Zi w t c) i out) (a:=(Zi w t c).args) (g:=ZDJ t (Zi w t c)) (f:=fun a=>some (ZDJ t (Zi w t c) a)) (fun out i=> ?_) (fun _ _=>rfl) _ 0 [] rfl (by have:=hc.2.1;simp;omega)]
  ·simp[ZR]
  ·show uP t (Zi w t c) i out=_
   rw[uP]
   split
   ·cases(Zi w t c).args[i]? with
    |none=>rfl
    |some a=>
     simp only[oE,oS,ZDJ]
     split
     ·first|rfl|rw[iP h0]
     ·rfl
   ·rfl
 ·rw[iN h0,ZFi (L:=fun out i=>uO (Zi w t c) i out) (a:=(Zi w t c).args) (g:=ZDJ t (Zi w t c)) (f:=fun a=>some (ZDJ t (Zi w t c) a)) (fun out i=> ?_) (fun _ _=>rfl) _ 0 [] rfl (by have:=hc.2.1;simp;omega)]
  ·simp[ZR]
  ·show uO (Zi w t c) i out=_
   rw[uO]
   split
   ·cases(Zi w t c).args[i]? with
    |none=>rfl
    |some a=>
     simp only[oE,oS,ZDJ]
     split
     ·first|rfl|rw[iN h0]
     ·rfl
   ·rfl
theorem P.Yp (l:List Int)(n:Int):F.f57 l n=some (dec (n∈l)):=by
 unfold F.f57
 rw[ZH8 (n:=l.length) (r:=true) (Q:=fun j=>∀h:j<l.length,l[j]≠n) (L:=uG l n) (fun k hk=>by rw[uG,iN (by omega)])
  (fun k hk hq=>by
   rw[uG,iP hk,gQ hk]
   simp only[oE,oS]
   rw[iN (hq hk)])
  (fun k hk hq=>by
   rw[uG,iP hk,gQ hk]
   simp only[oE,oS]
   rw[iP (xU fun h=>hq fun _=>h)]) _ 0 rfl]
 simp only[oE,oS]
 by_cases hm:n∈l
 ·obtain⟨j,hj,e⟩:=yD hm
  rw[iN (by rw[ZB fun hh=>hh j (by omega) hj hj e];simp),dec_of hm]
 ·rw[iP (dec_of fun j _ hj h e=>hm (by rw[←e];exact gM h)),ZB hm]
theorem P.YE (l:List Int)(n:Int):uQ l n=some (dec (n∈l)):=by
 unfold uQ F.f147
 have key:∀(m k:Nat),l.length-k=m->∃r,uR l n k=some r/\match r with| .ret j=>0<=j/\n∈l| .go _=>∀j,k<=j->∀h:j<l.length,l[j]≠n:=by
  intro m
  induction m with
  |zero=>intro k hm;rw[uR,iN (by omega)];exact⟨_,rfl,fun j h1 h2=>by omega⟩
  |succ m ih=>
   intro k hm
   have hk:k<l.length:=by omega
   rw[uR,iP hk,gQ hk]
   simp only[oE,oS]
   by_cases h:n=l[k]
   ·rw[iP h];exact⟨_,rfl,by omega,h▸gM hk⟩
   ·rw[iN h]
    obtain⟨r,hr,hx⟩:=ih (k+1) (by omega)
    refine⟨r,hr,?_⟩
    cases r with
    |ret j=>exact hx
    |go _=>
     intro j hj hl
     by_cases e:k=j
     ·subst e;exact fun e=>h e.symm
     ·exact hx j (by omega) hl
 obtain⟨r,hr,hx⟩:=key _ 0 rfl
 rw[hr]
 cases r with
 |ret j=>
  simp only[oE,oS]
  rw[dec_of hx.2];simp[hx.1]
 |go _=>
  simp only[oE,oS]
  rw[ZB fun hm=>by obtain⟨j,hj,e⟩:=yD hm;exact hx j (by omega) hj e];simp
def pv (w:List Data)(holes:Bool):Nat->Ty->Value->Prop
 |0,_,_=>False
 |d+1,t,v=>(holes=true/\v.ctor= -2/\v.n=0/\v.kids.length=0)∨(¬(holes=true/\v.ctor= -2)/\
   ((t.data= -1/\v.ctor= -1/\0<=v.n/\v.n<=9/\v.kids.length=0)∨
   (t.data≠-1/\v.n=0/\v.ctor∈ZZ w t/\v.kids.length=(ZR w t v.ctor).length/\
    ∀i,0<=i->i<(ZR w t v.ctor).length->∀(h:i<(ZR w t v.ctor).length) (h':i<v.kids.length),pv w holes d (ZR w t v.ctor)[i] v.kids[i])))
theorem P.YK (w:List Data)(hw:ZT w):∀(d:Nat) (t:Ty) (v:Value),tOk w t->d<=10->uV w t v d=some (dec (pv w false d t v))
 |0,t,v,ht,hd=>by
  rw[uV,iP (by omega),ZB (by simp[pv])]
 |d+1,t,v,ht,hd=>by
  rw[uV,iN (by omega)]
  by_cases h1:t.data= -1
  ·rw[iP h1]
   by_cases a1:v.ctor= -1
   ·by_cases a2:0<=v.n
    ·by_cases a3:v.n<=9
     ·rw[iP a1,iP a2,iP a3,←ZAY];congr 1
      exact ZJ ⟨fun h=>.inr ⟨by simp,.inl ⟨h1,a1,a2,a3,h⟩⟩,fun h=>h.elim (fun h=>by simp at h) (fun h=>h.2.elim (fun h=>h.2.2.2.2) (fun h=>absurd h1 h.1))⟩
     ·rw[iP a1,iP a2,iN a3,ZB fun h=>h.elim (fun h=>by simp at h) (fun h=>h.2.elim (fun h=>a3 h.2.2.2.1) (fun h=>h.1 h1))]
    ·rw[iP a1,iN a2,ZB fun h=>h.elim (fun h=>by simp at h) (fun h=>h.2.elim (fun h=>a2 h.2.2.1) (fun h=>h.1 h1))]
   ·rw[iN a1,ZB fun h=>h.elim (fun h=>by simp at h) (fun h=>h.2.elim (fun h=>a1 h.2.1) (fun h=>h.1 h1))]
  rw[iN h1]
  by_cases h2:v.n=0
  ·rw[iP h2,P.YV w hw t ht]
   simp only[oE,oS]
   rw[P.Yp]
   simp only[oS]
   by_cases h3:v.ctor∈ZZ w t
   ·rw[iP (dec_of h3),P.Yi w hw t ht _ h3]
    simp only[oS]
    by_cases h4:v.kids.length=(ZR w t v.ctor).length
    ·rw[iP h4,ZH8 (n:=(ZR w t v.ctor).length) (r:=false) (Q:=fun i=>∀(h:i<(ZR w t v.ctor).length) (h':i<v.kids.length),pv w false d (ZR w t v.ctor)[i] v.kids[i]) (L:=vY w v ((d+1:Nat):Int) (ZR w t v.ctor))
      (fun k hk=>by rw[vY,iN (by omega)])
      (fun k hk hq=>by
       have hk':k<v.kids.length:=by rw[h4];exact hk
       rw[vY,iP hk,gQ hk,gQ hk']
       simp only[oE,oS]
       rw[ZD (by omega) (by omega),show((d+1:Nat):Int) -1=(d:Int)from by omega,P.YK w hw d _ _ ((ZH7 hw ht h3).2 _ (gM hk)) (by omega)]
       simp only[oS]
       rw[iP (dec_of (hq hk hk'))])
      (fun k hk hq=>by
       have hk':k<v.kids.length:=by rw[h4];exact hk
       rw[vY,iP hk,gQ hk,gQ hk']
       simp only[oE,oS]
       rw[ZD (by omega) (by omega),show((d+1:Nat):Int) -1=(d:Int)from by omega,P.YK w hw d _ _ ((ZH7 hw ht h3).2 _ (gM hk)) (by omega)]
       simp only[oS]
       rw[iN (by rw[ZB fun h=>hq fun _ _=>h];simp)]) _ 0 rfl]
     simp only[oS]
     by_cases hall:∀i,0<=i->i<(ZR w t v.ctor).length->∀(h:i<(ZR w t v.ctor).length) (h':i<v.kids.length),pv w false d (ZR w t v.ctor)[i] v.kids[i]
     ·rw[iP (dec_of hall),dec_of (.inr ⟨by simp,.inr ⟨h1,h2,h3,h4,hall⟩⟩)]
     ·rw[iN (by rw[ZB hall];simp),ZB fun h=>h.elim (fun h=>by simp at h) (fun h=>h.2.elim (fun h=>h1 h.1) (fun h=>hall h.2.2.2.2))]
    ·rw[iN h4,ZB fun h=>h.elim (fun h=>by simp at h) (fun h=>h.2.elim (fun h=>h1 h.1) (fun h=>h4 h.2.2.2.1))]
   ·rw[iN (by rw[ZB h3];simp),ZB fun h=>h.elim (fun h=>by simp at h) (fun h=>h.2.elim (fun h=>h1 h.1) (fun h=>h3 h.2.2.1))]
  ·rw[iN h2,ZB fun h=>h.elim (fun h=>by simp at h) (fun h=>h.2.elim (fun h=>h1 h.1) (fun h=>h2 h.2.1))]
theorem P.YAp (v:Value)(hv:v.wt<=1048576):∀(most:Nat),most<=60->∃c:Nat,F.f111 v most=some (c:Int)/\1<=c/\c<=1+v.wt/\(1+v.wt<=most->c=1+v.wt)/\(most<1+v.wt->most<c):=by
 induction v using Value.ind with
 |_ v ih=>
  intro most hm
  have hw:=v.wt_eq
  have key:∀(m i:Nat) (n:Nat),v.kids.length-i=m->1<=n->n+((v.kids.drop i).map fun k=>1+k.wt).sum<=1+v.wt->
    ∃c:Nat,vX v most n i=some (c:Int)/\n<=c/\c<=n+((v.kids.drop i).map fun k=>1+k.wt).sum/\(n+((v.kids.drop i).map fun k=>1+k.wt).sum<=most->c=n+((v.kids.drop i).map fun k=>1+k.wt).sum)/\(most<n+((v.kids.drop i).map fun k=>1+k.wt).sum->most<c):=by
   intro m
   induction m with
   |zero=>
    intro i n hmi hn hb
    rw[vX,iN (by omega),zT (by omega)]
    exact⟨n,rfl,by omega,by simp,by simp,by simp⟩
   |succ m ih2=>
    intro i n hmi hn hb
    have hi:i<v.kids.length:=by omega
    rw[zS hi]at hb ⊢
    simp only[zX,yW]at hb ⊢
    rw[vX,iP hi]
    by_cases hle:n<=most
    ·rw[iP (by omega),gQ hi]
     simp only[oE,oS]
     have hk:v.kids[i].wt<=1048576:=by omega
     obtain⟨c,h1,h2,h3,h4,h5⟩:=ih v.kids[i] (gM hi) hk (most-n) (by omega)
     rw[ZD (by omega) (by omega),show((most:Int) - (n:Int))=((most-n:Nat):Int)from by omega,h1]
     simp only[oS]
     rw[ZD (by omega) (by omega),show((n:Int)+(c:Int))=((n+c:Nat):Int)from by omega]
     obtain⟨c',g1,g2,g3,g4,g5⟩:=ih2 (i+1) (n+c) (by omega) (by omega) (by omega)
     refine⟨c',g1,by omega,by omega,fun h=> ?_,fun h=> ?_⟩
     ·have:=h4 (by omega)
      have:=g4 (by omega)
      omega
     ·by_cases hx:1+v.kids[i].wt<=most-n
      ·have:=h4 hx
       exact g5 (by omega)
      ·have:=h5 (by omega)
       omega
    ·rw[iN (by omega)]
     exact⟨n,rfl,by omega,by omega,fun h=>by omega,fun h=>by omega⟩
  have hs:((v.kids.drop 0).map fun k=>1+k.wt).sum=v.wt:=by
   rw[zV,hw]
   have:∀l:List Value,(l.map fun k=>1+k.wt).sum=wtL Value.wt l:=by
    intro l
    induction l with
    |nil=>rfl
    |cons a r ih=>simp[ih]
   exact this _
  obtain⟨c,h1,h2,h3,h4,h5⟩:=key _ 0 1 rfl (by omega) (by omega)
  rw[hs]at h3 h4 h5
  unfold F.f111
  have h1':vX v most 1 0=some (c:Int):=h1
  rw[h1']
  exact⟨c,rfl,by omega,h3,h4,h5⟩
theorem ZNE (v:Value):v.wt=((v.kids.drop 0).map fun k=>1+k.wt).sum:=by
 rw[zV,v.wt_eq]
 have:∀l:List Value,(l.map fun k=>1+k.wt).sum=wtL Value.wt l:=by
  intro l
  induction l with
  |nil=>rfl
  |cons a r ih=>simp[ih]
 exact(this _).symm
def ZCo (w:List Data)(holes:Bool)(d:Nat)(t:Ty)(v:Value)(count:Nat)(b:Bool)(c:Nat):Prop:=
 (b=true↔pv w holes d t v/\count+(1+v.wt)<=60)/\(b=true->c=count+(1+v.wt))
theorem P.YBE (w:List Data)(hw:ZT w)(holes:Bool)(d:Nat)(hd:d+1<=10)(v:Value)(args:List Ty)(hl:args.length=v.kids.length)(hargs:∀a,a∈args->tOk w a)
  (L:Int->Nat->Option (Lo (Bool×Int) Int))
  (hL:∀z i,L z i=if i<v.kids.length then v.kids[i]? >>=fun x=>args[i]? >>=fun y=>vB w y x (i64.wrap (((11- (d+1):Nat):Int)+1)) holes z>>=fun r=>if r.1=true then L r.2 (i+1)else some (.ret (false,r.2))else some (.go z))
  (ih:∀(t:Ty) (x:Value) (count:Nat),tOk w t->count<=60->∃b c,vB w t x ((11-d:Nat):Int) holes (count:Int)=some (b,((c:Nat):Int))/\ZCo w holes d t x count b c):
  ∀(m i:Nat) (z:Nat),v.kids.length-i=m->z<=60->∃o,L z i=some o/\
   match o with
   | .ret (b,c)=>b=false/\∃c':Nat,c=(c':Int)/\¬((∀j,i<=j->j<args.length->∀(h:j<args.length) (h':j<v.kids.length),pv w holes d args[j] v.kids[j])/\z+((v.kids.drop i).map fun k=>1+k.wt).sum<=60)
   | .go c=>c=((z+((v.kids.drop i).map fun k=>1+k.wt).sum:Nat):Int)/\(∀j,i<=j->j<args.length->∀(h:j<args.length) (h':j<v.kids.length),pv w holes d args[j] v.kids[j])/\z+((v.kids.drop i).map fun k=>1+k.wt).sum<=60:=by
 intro m
 induction m with
 |zero=>
  intro i z hm hz
  rw[hL,iN (by omega)]
  refine⟨_,rfl,?_⟩
  rw[zT (by omega)]
  exact⟨by simp,fun j h1 h2=>by omega,by simpa using hz⟩
 |succ m ihm=>
  intro i z hm hz
  have hi:i<v.kids.length:=by omega
  have hi':i<args.length:=by omega
  rw[hL,iP hi,gQ hi,gQ hi',zS hi]
  simp only[oE,oS,zX,yW]
  rw[ZD (by omega) (by omega),show(((11- (d+1):Nat):Int)+1)=((11-d:Nat):Int)from by omega]
  obtain⟨b,c,h1,h2,h3⟩:=ih args[i] v.kids[i] z (hargs _ (gM hi')) hz
  rw[h1]
  simp only[oS]
  cases b with
  |true=>
   rw[iP rfl]
   have hc:=h3 rfl
   obtain⟨hp,hle⟩:=h2.1 rfl
   obtain⟨o,g1,g2⟩:=ihm (i+1) c (by omega) (by omega)
   refine⟨o,g1,?_⟩
   cases o with
   |ret r=>
    obtain⟨b',c'⟩:=r
    obtain⟨q1,c2,q2,q3⟩:=g2
    exact⟨q1,c2,q2,fun hh=>q3 ⟨fun j a b e f=>hh.1 j (by omega) b e f,by omega⟩⟩
   |go r=>
    obtain⟨q1,q2,q3⟩:=g2
    refine⟨by rw[q1];congr 1;omega,fun j a b e f=> ?_,by omega⟩
    by_cases hj:i=j
    ·subst hj;exact hp
    ·exact q2 j (by omega) b e f
  |false=>
   rw[iN (by simp)]
   refine⟨_,rfl,rfl,c,rfl,fun hh=> ?_⟩
   have:=h2.2 ⟨hh.1 i (zA _) hi' hi' hi,by omega⟩
   cases this
theorem P.YAH (w:List Data)(hw:ZT w)(holes:Bool):∀(d:Nat) (t:Ty) (v:Value) (count:Nat),d<=10->tOk w t->count<=60->
  ∃b c,vB w t v ((11-d:Nat):Int) holes (count:Int)=some (b,((c:Nat):Int))/\ZCo w holes d t v count b c
 |d,t,v,count,hd,ht,hc=>by
  have e1:i64.wrap ((count:Int)+1)=((count+1:Nat):Int):=by rw[ZD (by omega) (by omega)];omega
  have no:∀(h:¬(pv w holes d t v/\count+(1+v.wt)<=60)),∃b c,(some (false,((count+1:Nat):Int)):Option (Bool×Int))=some (b,((c:Nat):Int))/\ZCo w holes d t v count b c:=
   fun h=>⟨false,count+1,rfl,⟨fun h=>(by cases h),fun hh=>absurd hh h⟩,fun h=>by cases h⟩
  rw[vB,e1]
  by_cases h60:60<((count+1:Nat):Int)
  ·rw[iP h60];exact no fun h=>by omega
  rw[iN h60]
  match d,hd with
  |0,_=>
   rw[iP (by omega)]
   exact no fun h=>h.1.elim
  |d+1,hd=>
   rw[iN (by omega)]
   -- a value without kids
   have leaf:v.kids.length=0->v.wt=0:=by
    intro h
    rw[v.wt_eq,List.length_eq_zero_iff.1 h];rfl
   have yes:∀(p:Prop) [Decidable p],(p->pv w holes (d+1) t v/\v.wt=0)->(pv w holes (d+1) t v->p)->
     ∃b c,(some (decide p,((count+1:Nat):Int)):Option (Bool×Int))=some (b,((c:Nat):Int))/\ZCo w holes (d+1) t v count b c:=by
    intro p _ h1 h2
    refine⟨decide p,count+1,rfl,⟨fun h=> ?_,fun h=>by simpa using h2 h.1⟩,fun h=> ?_⟩
    ·have:=h1 (by simpa using h);exact⟨this.1,by omega⟩
    ·have:=h1 (by simpa using h);omega
   have ints:t.data= -1->¬(holes=true/\v.ctor= -2)->
     ∃b c,(if v.ctor= -1 then(uU v.n 0 9)>>=fun r=>if r=true then some (decide (v.kids.length=0),((count+1:Nat):Int))else some (false,((count+1:Nat):Int))else some (false,((count+1:Nat):Int)))=some (b,((c:Nat):Int))/\ZCo w holes (d+1) t v count b c:=by
    intro h1 hno
    by_cases a1:v.ctor= -1
    ·rw[iP a1,P.YD]
     simp only[oE,oS]
     by_cases a2:0<=v.n/\v.n<=9
     ·rw[iP (dec_of a2)]
      exact yes _ (fun h=>⟨.inr ⟨hno,.inl ⟨h1,a1,a2.1,a2.2,h⟩⟩,leaf h⟩) (fun h=>h.elim (fun h=>h.2.2.2) (fun h=>h.2.elim (fun h=>h.2.2.2.2) (fun h=>absurd h1 h.1)))
     ·rw[iN (by rw[ZB a2];simp)]
      exact no fun h=>h.1.elim (fun h=>hno ⟨h.1,h.2.1⟩) (fun h=>h.2.elim (fun h=>a2 ⟨h.2.2.1,h.2.2.2.1⟩) (fun h=>h.1 h1))
    ·rw[iN a1]
     exact no fun h=>h.1.elim (fun h=>hno ⟨h.1,h.2.1⟩) (fun h=>h.2.elim (fun h=>a1 h.2.1) (fun h=>h.1 h1))
   -- a value with a constructor
   have ctors:∀(L:List Ty->Int->Nat->Option (Lo (Bool×Int) Int)),(∀a z i,L a z i=if i<v.kids.length then v.kids[i]? >>=fun x=>a[i]? >>=fun y=>vB w y x (i64.wrap (((11- (d+1):Nat):Int)+1)) holes z>>=fun r=>if r.1=true then L a r.2 (i+1)else some (.ret (false,r.2))else some (.go z))->
     ¬(holes=true/\v.ctor= -2)->t.data≠-1->
     ∃b c,(if v.n=0 then(uS w t)>>=fun x=>(uQ x v.ctor)>>=fun y=>if y=true then(uN w t v.ctor)>>=fun a=>if a.length=v.kids.length then(L a ((count+1:Nat):Int) 0)>>=fun o=>match o with| .ret r=>some r| .go s=>some (true,s)else some (false,((count+1:Nat):Int))else some (false,((count+1:Nat):Int))else some (false,((count+1:Nat):Int)))=some (b,((c:Nat):Int))/\ZCo w holes (d+1) t v count b c:=by
    intro L hL hno h1
    by_cases h2:v.n=0
    ·rw[iP h2,P.YX w hw t ht]
     simp only[oE,oS]
     rw[P.YE]
     simp only[oS]
     by_cases h3:v.ctor∈ZZ w t
     ·rw[iP (dec_of h3),P.YQ w hw t ht _ h3]
      simp only[oS]
      by_cases h4:(ZR w t v.ctor).length=v.kids.length
      ·rw[iP h4]
       obtain⟨o,g1,g2⟩:=P.YBE w hw holes d hd v (ZR w t v.ctor) h4 (ZH7 hw ht h3).2 (L (ZR w t v.ctor)) (hL _) (fun t x c ht hc=>P.YAH w hw holes d t x c (by omega) ht hc) _ 0 (count+1) rfl (by omega)
       rw[g1]
       simp only[oS]
       have hwt:=ZNE v
       cases o with
       |ret r=>
        obtain⟨b,c⟩:=r
        obtain⟨rfl,c',rfl,q3⟩:=g2
        refine⟨false,c',rfl,⟨fun h=>(by cases h),fun hh=>absurd ⟨?_,?_⟩ q3⟩,fun h=>by cases h⟩
        ·exact hh.1.elim (fun h=>absurd ⟨h.1,h.2.1⟩ hno) (fun h=>h.2.elim (fun h=>absurd h.1 h1) (fun h=>h.2.2.2.2))
        ·have:=hh.2;omega
       |go c=>
        obtain⟨rfl,q2,q3⟩:=g2
        exact⟨true,_,rfl,⟨fun _=>⟨.inr ⟨hno,.inr ⟨h1,h2,h3,h4.symm,q2⟩⟩,by omega⟩,fun _=>rfl⟩,fun _=>by omega⟩
      ·rw[iN h4]
       exact no fun h=>h.1.elim (fun h=>hno ⟨h.1,h.2.1⟩) (fun h=>h.2.elim (fun h=>h1 h.1) (fun h=>h4 h.2.2.2.1.symm))
     ·rw[iN (by rw[ZB h3];simp)]
      exact no fun h=>h.1.elim (fun h=>hno ⟨h.1,h.2.1⟩) (fun h=>h.2.elim (fun h=>h1 h.1) (fun h=>h3 h.2.2.1))
    ·rw[iN h2]
     exact no fun h=>h.1.elim (fun h=>hno ⟨h.1,h.2.1⟩) (fun h=>h.2.elim (fun h=>h1 h.1) (fun h=>h2 h.2.1))
   by_cases hh:holes=true
   ·rw[iP hh]
    by_cases h0:v.ctor= -2
    ·rw[iP h0]
     by_cases hn:v.n=0
     ·rw[iP hn]
      exact yes _ (fun h=>⟨.inl ⟨hh,h0,hn,h⟩,leaf h⟩) (fun h=>h.elim (fun h=>h.2.2.2) (fun h=>absurd ⟨hh,h0⟩ h.1))
     ·rw[iN hn]
      exact no fun h=>h.1.elim (fun h=>hn h.2.2.1) (fun h=>h.1 ⟨hh,h0⟩)
    rw[iN h0]
    have hno:¬(holes=true/\v.ctor= -2):=fun h=>h0 h.2
    by_cases h1:t.data= -1
    ·rw[iP h1];exact ints h1 hno
    ·rw[iN h1]
     exact ctors (fun a=>uI w v ((11- (d+1):Nat):Int) holes a) (fun a z i=>by
      show uI w v ((11- (d+1):Nat):Int) holes a z i=_
      rw[uI]) hno h1
   ·rw[iN hh]
    have hno:¬(holes=true/\v.ctor= -2):=fun h=>hh h.1
    by_cases h1:t.data= -1
    ·rw[iP h1];exact ints h1 hno
    ·rw[iN h1]
     exact ctors (fun a=>uH w v ((11- (d+1):Nat):Int) holes a) (fun a z i=>by
      show uH w v ((11- (d+1):Nat):Int) holes a z i=_
      rw[uH]) hno h1
termination_by d=>d
theorem ZK9 {a b:List Int}{L:Nat->Option (Lo Bool Unit)}(hl:a.length=b.length)(hL:∀i,L i=if i<a.length then a[i]? >>=fun x=>b[i]? >>=fun y=>if x=y then L (i+1)else some (.ret false)else some (.go ())):
  L 0=some (if dec (a=b)=true then .go ()else .ret false):=by
 rw[ZH8 (n:=a.length) (r:=false) (Q:=fun i=>∀(h:i<a.length) (h':i<b.length),a[i]=b[i]) (L:=L)
  (fun k hk=>by rw[hL,iN (by omega)])
  (fun k hk hq=>by
   rw[hL,iP hk,gQ hk,gQ (show k<b.length by omega)]
   simp only[oE,oS]
   rw[iP (hq hk (by omega))])
  (fun k hk hq=>by
   rw[hL,iP hk,gQ hk,gQ (show k<b.length by omega)]
   simp only[oE,oS]
   rw[iN fun h=>hq fun _ _=>h]) _ 0 rfl]
 have:(∀j,0<=j->j<a.length->∀(h:j<a.length) (h':j<b.length),a[j]=b[j])↔a=b:=
  ⟨fun h=>xP hl fun i hi hi'=>h i (by omega) hi hi hi',fun e=>by subst e;exact fun _ _ _ _ _=>rfl⟩
 rw[ZJ this]
theorem P.Yc (a b:List Int):F.f204 a b=some (dec (a=b)):=by
 unfold F.f204
 by_cases hl:a.length=b.length
 ·rw[iP hl,ZK9 hl (L:=F.f203 a b) (fun i=>by rw[F.f203])]
  by_cases h:a=b
  ·rw[iP (dec_of h),dec_of h];rfl
  ·rw[iN (by rw[ZB h];simp),ZB h];rfl
 ·rw[iN hl,ZB fun h=>hl (by rw[h])]
theorem P.YJ (a b:List Int):F.f120 a b=some (dec (a=b)):=by
 unfold F.f120
 by_cases hl:a.length=b.length
 ·rw[iP hl,ZK9 hl (L:=F.f119 a b) (fun i=>by rw[F.f119])]
  by_cases h:a=b
  ·rw[iP (dec_of h),dec_of h];rfl
  ·rw[iN (by rw[ZB h];simp),ZB h];rfl
 ·rw[iN hl,ZB fun h=>hl (by rw[h])]
theorem P.YAX (l:List (List Int))(p:List Int):F.f122 l p=some (dec (p∈l)):=by
 unfold F.f122
 rw[ZH8 (n:=l.length) (r:=true) (Q:=fun i=>∀(h:i<l.length),l[i]≠p) (L:=vW l p)
  (fun k hk=>by rw[vW,iN (by omega)])
  (fun k hk hq=>by
   rw[vW,iP hk,gQ hk]
   simp only[oE,oS]
   rw[P.YJ]
   simp only[oS]
   rw[iN (by rw[ZB (hq hk)];simp)])
  (fun k hk hq=>by
   rw[vW,iP hk,gQ hk]
   simp only[oE,oS]
   rw[P.YJ]
   simp only[oS]
   rw[iP (dec_of (xU fun h=>hq fun _=>h))]) _ 0 rfl]
 simp only[oE,oS]
 by_cases h:p∈l
 ·rw[iN (by rw[ZB fun hh=>by obtain⟨j,hj,e⟩:=yD h;exact hh j (by omega) hj hj e];simp),dec_of h]
 ·rw[iP (dec_of fun j _ hj _ e=>h (by rw[←e];exact gM hj)),ZB h]
noncomputable def ZEQ (l:List VarType)(n:Int):Int:=match ZGb (fun x=>x.var=n) 0 l with
 |some j=>(j:Int)
 |none=> -1
theorem P.YF (l:List VarType)(n:Int):kC l n=some (ZEQ l n):=by
 unfold kC ZEQ
 rw[ZK4 (a:=l) (p:=fun x=>x.var=n) (L:=uB l n) (fun k hk=>by rw[uB,iN (by omega)])
  (fun k hk hp=>by rw[uB,iP hk,gQ hk];simp only[oE,oS];rw[iN hp])
  (fun k hk hp=>by rw[uB,iP hk,gQ hk];simp only[oE,oS];rw[iP hp]) _ 0 rfl,zV]
 cases ZGb (fun x=>x.var=n) 0 l<;>rfl
theorem ZB8 (l:List VarType)(n:Int):ZEQ l n= -1∨∃(j:Nat) (h:j<l.length),ZEQ l n=(j:Int)/\l[j].var=n/\∀i (hi:i<l.length),i<j->l[i].var≠n:=by
 unfold ZEQ
 cases h:ZGb (fun x:VarType=>x.var=n) 0 l with
 |none=>exact .inl rfl
 |some j=>
  obtain⟨_,h2,h3,h4⟩:=ZAo h
  exact .inr ⟨j,h2,rfl,h3,h4⟩
theorem ZEs (l:List VarType)(j:Nat)(hj:j<l.length):ZEQ l l[j].var=(j:Int)↔∀i (hi:i<l.length),i<j->l[i].var≠l[j].var:=by
 constructor
 ·intro h
  rcases ZB8 l l[j].var with q|⟨k,hk,q1,q2,q3⟩
  ·omega
  ·have:k=j:=by omega
   subst this;exact q3
 ·intro h
  unfold ZEQ
  cases hf:ZGb (fun x:VarType=>x.var=l[j].var) 0 l with
  |none=>exact absurd rfl (ZAp hf l[j] (gM hj))
  |some k=>
   obtain⟨_,h2,h3,h4⟩:=ZAo hf
   show(k:Int)=j
   have:¬k<j:=fun hlt=>h k h2 hlt h3
   have:¬j<k:=fun hlt=>h4 j hj (by omega) rfl
   omega
theorem P.YBx (v:Int):F.f143 v=some (dec (0<=v/\v<=5)):=by
 unfold F.f143;rw[P.YD];rfl
theorem ZJr (hw:ZT w)(ht:ZAA w t)(h:c∈ZZ w t):∀a,a∈ZR w t c->ZAA w a:=by
 have hc:=(ZAO hw (ZCH ht.1) (Zj h).1).2 _ (ZC3 h).2
 have hn:=(Zj h).1
 intro a ha
 obtain⟨b,hb,rfl⟩:=zZ.1 ha
 obtain⟨j,hj,rfl⟩:=yD hb
 have:=hc.2.2.2.2 j (by omega) hj
 have ht2:=ht.2
 rcases ht.1 with q|⟨q1,q2,q3,q4⟩
 ·exact absurd q.1 hn
 unfold ZDJ
 rcases this with⟨p1,p2⟩|⟨p1,p2,p3,p4⟩
 ·rw[iN (by omega)];exact⟨.inl ⟨p1,p2⟩,by omega⟩
 ·split
  ·next e=>
   have hx:0<=(if(Zi w t c).index=0 then t.index else(Zi w t c).index)/\(if(Zi w t c).index=0 then t.index else(Zi w t c).index)<=3:=by
    split
    ·exact⟨ht2,q4⟩
    ·exact⟨hc.2.2.1,hc.2.2.2.1⟩
   exact⟨.inr ⟨p1,p2,by show -1<=(if(Zi w t c).index=0 then t.index else(Zi w t c).index);omega,hx.2⟩,hx.1⟩
  ·next e=>exact⟨.inr ⟨p1,p2,p3,p4⟩,by omega⟩
def ZA0 (w:List Data)(t:Ty)(p:Pattern):Prop:=
 (p.op=1/\p.var=0/\p.n=0/\p.m=0/\p.ctor=0)∨
 (p.op=2/\0<=p.var/\p.var<=5/\p.n=0/\p.m=0/\p.ctor=0)∨
 (p.op=3/\p.var=0/\p.ctor=0/\t.data= -1/\0<=p.n/\p.n<=p.m/\p.m<=9)∨
 (p.op=4/\p.var=0/\p.n=0/\p.m=0/\p.ctor∈ZZ w t)∨
 (p.op=5/\p.var=0/\p.n=0/\p.m=0/\p.ctor=0)∨
 (p.op=6/\0<=p.var/\p.var<=5/\p.n=0/\p.m=0/\p.ctor=0)
noncomputable def ZF (w:List Data)(t:Ty)(p:Pattern):List Ty:=if p.op=4 then ZR w t p.ctor else if p.op=5 then[t,t]else if p.op=6 then[t]else[]
theorem P.YAo (w:List Data)(hw:ZT w)(t:Ty)(ht:tOk w t)(p:Pattern):F.f58 w t p=some (dec (ZA0 w t p)):=by
 unfold F.f58
 rw[P.YV w hw t ht]
 simp only[oE,oS,P.Yp]
 have yes:ZA0 w t p->some true=some (dec (ZA0 w t p)):=fun h=>by rw[dec_of h]
 have no:¬ZA0 w t p->some false=some (dec (ZA0 w t p)):=fun h=>by rw[ZB h]
 repeat' split
 all_goals first
  |(refine no fun h=> ?_;unfold ZA0 at h;omega)
  |(refine yes ?_;unfold ZA0;omega)
  |skip
 ·rw[←ZAY];congr 1;refine ZJ ?_;unfold ZA0;omega
 ·congr 1;refine ZJ ⟨fun h=>.inr (.inr (.inr (.inl ⟨by assumption,by assumption,by assumption,by assumption,h⟩))),fun h=> ?_⟩
  unfold ZA0 at h
  rcases h with h|h|h|h|h|h
  ·omega
  ·omega
  ·omega
  ·exact h.2.2.2.2
  ·omega
  ·omega
theorem P.YG (w:List Data)(hw:ZT w)(t:Ty)(ht:tOk w t)(p:Pattern)(h:ZA0 w t p):F.f64 w t p=some (ZF w t p):=by
 unfold F.f64 ZF
 by_cases h4:p.op=4
 ·rw[iP h4,iP h4]
  have hc:p.ctor∈ZZ w t:=by
   unfold ZA0 at h
   rcases h with h|h|h|h|h|h
   ·omega
   ·omega
   ·omega
   ·exact h.2.2.2.2
   ·omega
   ·omega
  rw[P.Yi w hw t ht _ hc];rfl
 ·rw[iN h4,iN h4]
  have k:F.f62 p.op=some (if p.op=5 then 2 else if p.op=6 then 1 else 0):=by
   unfold F.f62;split
   ·rfl
   ·split
    ·rfl
    ·rfl
  by_cases h5:p.op=5
  ·rw[iP h5]
   rw[iP h5]at k
   rw[vF,k]
   simp only[oE,oS]
   rw[iP (by omega),iP (by simp),iP (by omega),vF,k]
   simp only[oE,oS]
   rw[iP (by omega),iP (by simp),iP (by omega),vF,k]
   simp only[oE,oS]
   rw[iN (by omega)];simp
  ·rw[iN h5]
   rw[iN h5]at k
   by_cases h6:p.op=6
   ·rw[iP h6]
    rw[iP h6]at k
    rw[vF,k]
    simp only[oE,oS]
    rw[iP (by omega),iP (by simp),iP (by omega),vF,k]
    simp only[oE,oS]
    rw[iN (by omega)];simp
   ·rw[iN h6]
    rw[iN h6]at k
    rw[vF,k]
    simp only[oE,oS]
    rw[iN (by omega)];simp
variable {p:Pattern}
theorem ZA9 (hw:ZT w)(ht:ZAA w t)(h:ZA0 w t p):∀a,a∈ZF w t p->ZAA w a:=by
 unfold ZF
 intro a ha
 split at ha
 ·next h4=>
  have hc:p.ctor∈ZZ w t:=by
   unfold ZA0 at h
   rcases h with h|h|h|h|h|h
   ·omega
   ·omega
   ·omega
   ·exact h.2.2.2.2
   ·omega
   ·omega
  exact ZJr hw ht hc a ha
 ·split at ha
  ·simp at ha;subst ha;exact ht
  ·split at ha
   ·simp at ha;subst ha;exact ht
   ·cases ha
theorem P.YBH (p:Pattern)(c n v:Bool)(k:Int):F.f142 p c n v k=some (dec ((c=true∨p.ctor=0)/\(n=true∨(p.n=0/\p.m=0))/\(v=true∨p.var=0)/\(p.kids.length:Int)=k)):=by
 unfold F.f142
 cases c<;>cases n<;>cases v<;>simp only[xV,if_true,if_false,false_or,true_or,true_and]
 all_goals(repeat' split)
 all_goals first
  |(rw[←ZAY];done)
  |(rw[←ZAY];congr 1;refine ZJ ?_;omega)
  |(rw[ZB];omega)
theorem P.YAs (w:List Data)(hw:ZT w)(t:Ty)(ht:tOk w t)(p:Pattern):
  ∃ts,F.f152 w t p=some (ts,dec (ZA0 w t p/\p.kids.length=(ZF w t p).length))/\(ZA0 w t p->ts=ZF w t p):=by
 unfold F.f152
 simp only[P.YBH,P.YBx,P.YX w hw t ht,P.YE,oE,oS,Zd]
 by_cases h1:p.op=1
 ·rw[iP h1]
  have e:ZF w t p=[]:=by unfold ZF;rw[iN (by omega),iN (by omega),iN (by omega)]
  rw[e]
  refine⟨[],?_,fun _=>rfl⟩
  congr 2;refine ZJ ?_;unfold ZA0;simp only[xV,false_or,yF];omega
 rw[iN h1]
 by_cases h2:p.op=2
 ·rw[iP h2]
  have e:ZF w t p=[]:=by unfold ZF;rw[iN (by omega),iN (by omega),iN (by omega)]
  rw[e]
  refine⟨[],?_,fun _=>rfl⟩
  split
  ·next hh=>
   simp only[xV,false_or,true_or,true_and]at hh
   congr 2;refine ZJ ?_;unfold ZA0;simp only[yF,yG];omega
  ·next hh=>
   simp only[xV,false_or,true_or,true_and]at hh
   rw[ZB];unfold ZA0;simp only[yF,yG];omega
 rw[iN h2]
 by_cases h3:p.op=3
 ·rw[iP h3]
  have e:ZF w t p=[]:=by unfold ZF;rw[iN (by omega),iN (by omega),iN (by omega)]
  rw[e]
  refine⟨[],?_,fun _=>rfl⟩
  simp only[xV,false_or,true_or,true_and,yF]
  repeat' split
  all_goals first
   |(rw[←ZAY];congr 2;refine ZJ ?_;unfold ZA0;omega)
   |(rw[ZB];unfold ZA0;omega)
 rw[iN h3]
 by_cases h4:p.op=4
 ·rw[iP h4]
  have e:ZF w t p=ZR w t p.ctor:=by unfold ZF;rw[iP h4]
  rw[e]
  by_cases hc:p.ctor∈ZZ w t
  ·rw[iP hc,P.YQ w hw t ht _ hc]
   simp only[oS]
   refine⟨ZR w t p.ctor,?_,fun _=>rfl⟩
   congr 2;refine ZJ ⟨fun h=>⟨.inr (.inr (.inr (.inl ⟨h4,?_,?_,?_,hc⟩))),?_⟩,fun h=> ?_⟩
   ·simp at h;exact h.2.1
   ·simp at h;exact h.1.1
   ·simp at h;exact h.1.2
   ·simp at h;omega
   ·obtain⟨h,hl⟩:=h
    unfold ZA0 at h
    rcases h with h|h|h|h|h|h
    ·omega
    ·omega
    ·omega
    ·exact⟨.inl trivial,.inr ⟨h.2.2.1,h.2.2.2.1⟩,.inr h.2.1,by omega⟩
    ·omega
    ·omega
  ·rw[iN hc]
   have hn:¬ZA0 w t p:=by
    intro h
    unfold ZA0 at h
    rcases h with h|h|h|h|h|h
    ·omega
    ·omega
    ·omega
    ·exact hc h.2.2.2.2
    ·omega
    ·omega
   exact⟨[],by rw[ZB fun h=>hn h.1],fun h=>absurd h hn⟩
 rw[iN h4]
 by_cases h5:p.op=5
 ·rw[iP h5]
  have e:ZF w t p=[t,t]:=by unfold ZF;rw[iN (by omega),iP (by omega)]
  rw[e]
  refine⟨[t,t],?_,fun _=>rfl⟩
  congr 2;refine ZJ ?_;unfold ZA0;simp only[xV,false_or,yF,yG];omega
 rw[iN h5]
 by_cases h6:p.op=6
 ·rw[iP h6]
  have e:ZF w t p=[t]:=by unfold ZF;rw[iN (by omega),iN (by omega),iP (by omega)]
  rw[e]
  refine⟨[t],?_,fun _=>rfl⟩
  split
  ·next hh=>
   simp only[xV,false_or,true_or,true_and]at hh
   congr 2;refine ZJ ?_;unfold ZA0;simp only[yF,yG];omega
  ·next hh=>
   simp only[xV,false_or,true_or,true_and]at hh
   rw[ZB];unfold ZA0;simp only[yF,yG];omega
 rw[iN h6]
 have hn:¬ZA0 w t p:=by unfold ZA0;omega
 exact⟨[],by rw[ZB fun h=>hn h.1],fun h=>absurd h hn⟩
def Zc (w:List Data):Nat->Ty->Pattern->Prop
 |0,_,_=>False
 |d+1,t,p=>ZA0 w t p/\p.kids.length=(ZF w t p).length/\∀i,0<=i->i<(ZF w t p).length->∀(h:i<(ZF w t p).length) (h':i<p.kids.length),Zc w d (ZF w t p)[i] p.kids[i]
theorem P.YH (w:List Data)(hw:ZT w):∀(d:Nat) (t:Ty) (p:Pattern),ZAA w t->d<=10->uF w t p d=some (dec (Zc w d t p))
 |0,t,p,ht,hd=>by rw[uF,iP (by omega),ZB (by simp[Zc])]
 |d+1,t,p,ht,hd=>by
  rw[uF,iN (by omega),P.YAo w hw t (ZCH ht.1)]
  simp only[oE,oS]
  by_cases ho:ZA0 w t p
  ·rw[iP (dec_of ho),P.YG w hw t (ZCH ht.1) p ho]
   simp only[oS]
   have hts:=ZA9 hw ht ho
   by_cases h4:p.kids.length=(ZF w t p).length
   ·rw[iP h4,ZH8 (n:=(ZF w t p).length) (r:=false) (Q:=fun i=>∀(h:i<(ZF w t p).length) (h':i<p.kids.length),Zc w d (ZF w t p)[i] p.kids[i]) (L:=uE w p ((d+1:Nat):Int) (ZF w t p))
     (fun k hk=>by rw[uE,iN (by omega)])
     (fun k hk hq=>by
      have hk':k<p.kids.length:=by omega
      rw[uE,iP hk,gQ hk,gQ hk']
      simp only[oE,oS]
      rw[ZD (by omega) (by omega),show((d+1:Nat):Int) -1=(d:Int)from by omega,P.YH w hw d _ _ (hts _ (gM hk)) (by omega)]
      simp only[oS]
      rw[iP (dec_of (hq hk hk'))])
     (fun k hk hq=>by
      have hk':k<p.kids.length:=by omega
      rw[uE,iP hk,gQ hk,gQ hk']
      simp only[oE,oS]
      rw[ZD (by omega) (by omega),show((d+1:Nat):Int) -1=(d:Int)from by omega,P.YH w hw d _ _ (hts _ (gM hk)) (by omega)]
      simp only[oS]
      rw[iN (by rw[ZB fun h=>hq fun _ _=>h];simp)]) _ 0 rfl]
    simp only[oS]
    by_cases hall:∀i,0<=i->i<(ZF w t p).length->∀(h:i<(ZF w t p).length) (h':i<p.kids.length),Zc w d (ZF w t p)[i] p.kids[i]
    ·rw[iP (dec_of hall),dec_of ⟨ho,h4,hall⟩]
    ·rw[iN (by rw[ZB hall];simp),ZB fun h=>hall h.2.2]
   ·rw[iN h4,ZB fun h=>h4 h.2.1]
  ·rw[iN (by rw[ZB ho];simp),ZB fun h=>ho h.1]
theorem P.YBG (v:Pattern)(hv:v.wt<=1048576):∀(most:Nat),most<=60->∃c:Nat,kD v most=some (c:Int)/\1<=c/\c<=1+v.wt/\(1+v.wt<=most->c=1+v.wt)/\(most<1+v.wt->most<c):=by
 induction v using kH with
 |_ v ih=>
  intro most hm
  have hw:=v.wt_eq
  have key:∀(m i:Nat) (n:Nat),v.kids.length-i=m->1<=n->n+((v.kids.drop i).map fun k=>1+k.wt).sum<=1+v.wt->
    ∃c:Nat,uD v most n i=some (c:Int)/\n<=c/\c<=n+((v.kids.drop i).map fun k=>1+k.wt).sum/\(n+((v.kids.drop i).map fun k=>1+k.wt).sum<=most->c=n+((v.kids.drop i).map fun k=>1+k.wt).sum)/\(most<n+((v.kids.drop i).map fun k=>1+k.wt).sum->most<c):=by
   intro m
   induction m with
   |zero=>
    intro i n hmi hn hb
    rw[uD,iN (by omega),zT (by omega)]
    exact⟨n,rfl,by omega,by simp,by simp,by simp⟩
   |succ m ih2=>
    intro i n hmi hn hb
    have hi:i<v.kids.length:=by omega
    rw[zS hi]at hb ⊢
    simp only[zX,yW]at hb ⊢
    rw[uD,iP hi]
    by_cases hle:n<=most
    ·rw[iP (by omega),gQ hi]
     simp only[oE,oS]
     have hk:v.kids[i].wt<=1048576:=by omega
     obtain⟨c,h1,h2,h3,h4,h5⟩:=ih v.kids[i] (gM hi) hk (most-n) (by omega)
     rw[ZD (by omega) (by omega),show((most:Int) - (n:Int))=((most-n:Nat):Int)from by omega,h1]
     simp only[oS]
     rw[ZD (by omega) (by omega),show((n:Int)+(c:Int))=((n+c:Nat):Int)from by omega]
     obtain⟨c',g1,g2,g3,g4,g5⟩:=ih2 (i+1) (n+c) (by omega) (by omega) (by omega)
     refine⟨c',g1,by omega,by omega,fun h=> ?_,fun h=> ?_⟩
     ·have:=h4 (by omega)
      have:=g4 (by omega)
      omega
     ·by_cases hx:1+v.kids[i].wt<=most-n
      ·have:=h4 hx
       exact g5 (by omega)
      ·have:=h5 (by omega)
       omega
    ·rw[iN (by omega)]
     exact⟨n,rfl,by omega,by omega,fun h=>by omega,fun h=>by omega⟩
  have hs:((v.kids.drop 0).map fun k=>1+k.wt).sum=v.wt:=by
   rw[zV,hw]
   have:∀l:List Pattern,(l.map fun k=>1+k.wt).sum=wtL kG l:=by
    intro l
    induction l with
    |nil=>rfl
    |cons a r ih=>simp[ih]
   exact this _
  obtain⟨c,h1,h2,h3,h4,h5⟩:=key _ 0 1 rfl (by omega) (by omega)
  rw[hs]at h3 h4 h5
  unfold kD
  have h1':uD v most 1 0=some (c:Int):=h1
  rw[h1']
  exact⟨c,rfl,by omega,h3,h4,h5⟩
theorem ZIG (v:Pattern):v.wt=((v.kids.drop 0).map fun k=>1+k.wt).sum:=by
 rw[zV,v.wt_eq]
 have:∀l:List Pattern,(l.map fun k=>1+k.wt).sum=wtL kG l:=by
  intro l
  induction l with
  |nil=>rfl
  |cons a r ih=>simp[ih]
 exact(this _).symm
noncomputable def ZN (w:List Data):Nat->Ty->Pattern->List VarType
 |0,_,_=>[]
 |d+1,t,p=>(if p.op=2∨p.op=6 then[⟨p.var,t⟩]else[])++(((ZF w t p).zip p.kids).take (if p.op=5 then 1 else p.kids.length)).flatMap fun x=>ZN w d x.1 x.2
theorem ZGa {f:Ty×Pattern->List VarType}(hf:∀x,(f x).length<=1+x.2.wt):∀(ts:List Ty) (ks:List Pattern) (n:Nat),(((ts.zip ks).take n).flatMap f).length<=wtL kG ks
 | [],ks,n=>by simp
 |t::ts,[],n=>by simp
 |t::ts,k::ks,0=>by simp
 |t::ts,k::ks,n+1=>by
  have h1:=ZGa hf ts ks n
  have h2:=hf (t,k)
  simp only[yT,xE,yB,zU,Zx]at h1 h2 ⊢
  omega
theorem ZCU (w:List Data):∀(d:Nat) (t:Ty) (p:Pattern),(ZN w d t p).length<=1+p.wt
 |0,t,p=>by simp[ZN]
 |d+1,t,p=>by
  have:=ZGa (f:=fun x=>ZN w d x.1 x.2) (fun x=>ZCU w d x.1 x.2) (ZF w t p) p.kids (if p.op=5 then 1 else p.kids.length)
  rw[ZN,zU,p.wt_eq]
  have h1:(if p.op=2∨p.op=6 then[(⟨p.var,t⟩:VarType)]else[]).length<=1:=by split<;>simp
  omega
theorem ZDX {ts:List Ty}(hl:p.kids.length=ts.length)(h5:p.op≠5){f:Ty×Pattern->List VarType}{L:List VarType->Nat->Option (List VarType)}(hL:∀out i,L out i=if i<ts.length then(if i=0 then ts[i]? >>=fun x=>p.kids[i]? >>=fun y=>vA out w x y>>=fun v=>L v (i+1)else(if p.op=5 then some out else ts[i]? >>=fun x=>p.kids[i]? >>=fun y=>vA out w x y>>=fun v=>L v (i+1)))else some out)(hf:∀x:Ty×Pattern,(f x).length<=1+x.2.wt)(ih:∀i (h:i<ts.length) (h':i<p.kids.length) (out:List VarType),out.length+(1+p.kids[i].wt)<=67108864->vA out w ts[i] p.kids[i]=some (out++f (ts[i],p.kids[i]))):
  ∀(m i:Nat) (out:List VarType),ts.length-i=m->out.length+((p.kids.drop i).map fun k=>1+k.wt).sum<=67108864->L out i=some (out++((ts.zip p.kids).drop i).flatMap f):=by
 intro m
 induction m with
 |zero=>
  intro i out hm hb
  rw[hL,iN (by omega),zT (by simp;omega)];simp
 |succ m ihm=>
  intro i out hm hb
  have hi:i<ts.length:=by omega
  have hi':i<p.kids.length:=by omega
  rw[zS hi']at hb
  simp only[zX,yW]at hb
  have e:(ts[i]? >>=fun x=>p.kids[i]? >>=fun y=>vA out w x y>>=fun v=>L v (i+1))=some (out++((ts.zip p.kids).drop i).flatMap f):=by
   rw[gQ hi,gQ hi']
   simp only[oE,oS]
   rw[ih i hi hi' out (by omega)]
   simp only[oS]
   have:=hf (ts[i],p.kids[i])
   simp only at this
   rw[ihm (i+1) _ (by omega) (by rw[zU];omega),zS (l:=ts.zip p.kids) (i:=i) (by simp;omega)]
   simp
  rw[hL,iP hi,iN h5,e]
  split<;>rfl
theorem Zr (h:ZA0 w t p)(h5:p.op=5):ZF w t p=[t,t]:=by unfold ZF;rw[iN (by omega),iP h5]
theorem P.YC (w:List Data)(hw:ZT w):∀(d:Nat) (t:Ty) (p:Pattern) (out:List VarType),ZAA w t->Zc w d t p->out.length+(1+p.wt)<=67108864->vA out w t p=some (out++ZN w d t p)
 |0,t,p,out,ht,hs,hb=>hs.elim
 |d+1,t,p,out,ht,hs,hb=>by
  obtain⟨ho,hl,hk⟩:=hs
  have hts:=ZA9 hw ht ho
  have hsum:=ZIG p
  have ih:∀i (h:i<(ZF w t p).length) (h':i<p.kids.length) (out:List VarType),out.length+(1+p.kids[i].wt)<=67108864->vA out w (ZF w t p)[i] p.kids[i]=some (out++(fun x:Ty×Pattern=>ZN w d x.1 x.2) ((ZF w t p)[i],p.kids[i])):=
   fun i h h' out hb=>P.YC w hw d _ _ out (hts _ (gM h)) (hk i (by omega) h h h') hb
  have hf:∀x:Ty×Pattern,((fun x:Ty×Pattern=>ZN w d x.1 x.2) x).length<=1+x.2.wt:=fun x=>ZCU w d x.1 x.2
  have full:∀n,p.kids.length<=n->((ZF w t p).zip p.kids).take n=(ZF w t p).zip p.kids:=fun n hn=>zW (by simp;omega)
  rw[vA,P.YG w hw t (ZCH ht.1) p ho]
  simp only[oE,oS]
  by_cases h2:p.op=2
  ·rw[iP h2,iP (by omega),ZDX (f:=fun x=>ZN w d x.1 x.2) (L:=F.f72 w p (ZF w t p)) hl (by omega) (fun out i=>by rw[F.f72]) hf ih _ 0 _ rfl (by simp at hsum ⊢;omega)]
   simp only[oS]
   rw[ZN,iP (.inl h2),iN (by omega),full _ (zA _)];simp
  ·rw[iN h2]
   by_cases h6:p.op=6
   ·rw[iP h6,iP (by omega),ZDX (f:=fun x=>ZN w d x.1 x.2) (L:=F.f70 w p (ZF w t p)) hl (by omega) (fun out i=>by rw[F.f70]) hf ih _ 0 _ rfl (by simp at hsum ⊢;omega)]
    simp only[oS]
    rw[ZN,iP (.inr h6),iN (by omega),full _ (zA _)];simp
   ·rw[iN h6]
    by_cases h5:p.op=5
    ·have et:=Zr ho h5
     rw[et]at hl
     have h0:0<p.kids.length:=by rw[hl];simp
     have h0':0<(ZF w t p).length:=by rw[et];simp
     have hw0:1+p.kids[0].wt<=p.wt:=by
      rw[hsum,zV]
      obtain⟨a,r,e⟩:=yS h0
      simp[e]
     have e0:=ih 0 h0' h0 out (by omega)
     rw[uC,iP h0',iP rfl,gQ h0',gQ h0]
     simp only[oE,oS]
     rw[e0]
     simp only[oS]
     rw[uC,iP (by rw[et];simp),iN (by omega),iP h5]
     simp only[oS]
     rw[ZN,iN (by omega),iP h5]
     have e1:((ZF w t p).zip p.kids).take 1=[((ZF w t p)[0],p.kids[0])]:=by
      obtain⟨a,r,e⟩:=yS h0
      obtain⟨b,r',e'⟩:=yS h0'
      simp[e,e']
     rw[e1];simp
    ·rw[ZDX (f:=fun x=>ZN w d x.1 x.2) (L:=uC w p (ZF w t p)) hl h5 (fun out i=>by rw[uC]) hf ih _ 0 _ rfl (by simp at hsum ⊢;omega)]
     simp only[oS]
     rw[ZN,iN (by omega),iN h5,full _ (zA _)];simp
def ZGG (l:List VarType):Prop:=(l.map VarType.var).Nodup
def ZHB (a b:List VarType):Prop:=a.length=b.length/\∀x,x∈a->x∈b
theorem ZFP (l:List VarType):ZGG l↔∀i j (hi:i<l.length) (hj:j<l.length),i<j->l[i].var≠l[j].var:=by
 unfold ZGG List.Nodup
 rw[List.pairwise_map,List.pairwise_iff_getElem]
theorem ZEt {l:List VarType}{n:Int}(h:ZEQ l n= -1):∀x,x∈l->x.var≠n:=by
 unfold ZEQ at h
 cases hf:ZGb (fun x:VarType=>x.var=n) 0 l with
 |none=>exact ZAp hf
 |some j=>rw[hf]at h;simp only at h;omega
theorem ZO5 {a b:VarType}(h:a.var=b.var)(h2:eq2 (a.type.data,a.type.index) (b.type.data,b.type.index)):a=b:=by
 obtain⟨v,d,i⟩:=a
 obtain⟨v',d',i'⟩:=b
 simp only[eq2]at h h2
 obtain⟨rfl,rfl⟩:=h2
 subst h;rfl
theorem P.Yb (l:List VarType):vG l 0=some (if dec (ZGG l)=true then .go ()else .ret false):=by
 rw[ZH8 (n:=l.length) (r:=false) (Q:=fun j=>∀h:j<l.length,ZEQ l l[j].var=(j:Int)) (L:=vG l) (fun k hk=>by rw[vG,iN (by omega)])
  (fun k hk hq=>by
   rw[vG,iP hk,gQ hk]
   simp only[oE,oS,P.YF]
   rw[iP (hq hk)])
  (fun k hk hq=>by
   rw[vG,iP hk,gQ hk]
   simp only[oE,oS,P.YF]
   rw[iN fun h=>hq fun _=>h]) _ 0 rfl]
 congr 2
 rw[ZJ]
 rw[ZFP]
 constructor
 ·intro h i j hi hj hij
  exact(ZEs l j hj).1 (h j (by omega) hj hj) i hi hij
 ·intro h j _ _ hj
  exact(ZEs l j hj).2 fun i hi hij=>h i j hi hj hij
theorem P.YAW (a b:List VarType)(hb:ZGG b):F.f76 a b=some (dec (ZHB a b)):=by
 unfold F.f76
 have step:∀k (hk:k<a.length),vH a b k=if dec (a[k]∈b)=true then vH a b (k+1)else some (.ret false):=by
  intro k hk
  rw[vH,iP hk,gQ hk]
  simp only[oE,oS,P.YF]
  rcases ZB8 b a[k].var with h|⟨j,hj,h1,h2,h3⟩
  ·rw[iP (by omega),iN]
   rw[ZB fun hm=>ZEt h _ hm rfl];simp
  ·rw[iN (by omega),h1,ZE0,gQ hj]
   simp only[oS]
   by_cases he:eq2 (b[j].type.data,b[j].type.index) (a[k].type.data,a[k].type.index)
   ·rw[iP (dec_of he),iP (dec_of (by rw[←ZO5 h2 he];exact gM hj))]
   ·rw[iN (by rw[ZB he];simp),iN]
    rw[ZB fun hm=> ?_];· simp
    obtain⟨i,hi,e⟩:=yD hm
    have hij:i=j:=by
     rw[ZFP]at hb
     rcases zM i j with hlt|heq|hlt
     ·exact absurd (by rw[e,h2]) (hb i j hi hj hlt)
     ·exact heq
     ·exact absurd (by rw[e,h2]) (hb j i hj hi hlt)
    subst hij
    exact he (by rw[e];exact⟨rfl,rfl⟩)
 rw[ZH8 (n:=a.length) (r:=false) (Q:=fun j=>∀h:j<a.length,a[j]∈b) (L:=vH a b) (fun k hk=>by rw[vH,iN (by omega)])
  (fun k hk hq=>by rw[step k hk,iP (dec_of (hq hk))])
  (fun k hk hq=>by rw[step k hk,iN (by rw[ZB fun h=>hq fun _=>h];simp)]) _ 0 rfl]
 simp only[oE,oS]
 by_cases h:∀j,0<=j->j<a.length->∀h:j<a.length,a[j]∈b
 ·rw[iP (dec_of h),←ZAY]
  have hx:∀x,x∈a->x∈b:=fun x hx=>by obtain⟨j,hj,e⟩:=yD hx;rw[←e];exact h j (by omega) hj hj
  show some (dec (a.length=b.length))=some (dec (ZHB a b))
  congr 1;exact ZJ ⟨fun hl=>⟨hl,hx⟩,fun hs=>hs.1⟩
 ·rw[iN (by rw[ZB h];simp),ZB fun hs=>h fun j _ hj _=>hs.2 _ (gM hj)]
theorem ZMw {a b:VarType}:eq3 (a.var,a.type.data,a.type.index) (b.var,b.type.data,b.type.index)↔a=b:=by
 obtain⟨v,d,i⟩:=a
 obtain⟨v',d',i'⟩:=b
 simp[eq3]
theorem P.YA (l:List VarType)(n:VarType):F.f155 l n=some (dec (n∈l)):=by
 unfold F.f155 F.f154
 rw[ZK4 (a:=l) (p:=fun x=>n=x) (L:=vU l n) (fun k hk=>by rw[vU,iN (by omega)])
  (fun k hk hp=>by
   rw[vU,iP hk,gQ hk]
   simp only[oE,oS]
   rw[iN (by rw[ZB fun h=>hp (ZMw.1 h)];simp)])
  (fun k hk hp=>by
   rw[vU,iP hk,gQ hk]
   simp only[oE,oS]
   rw[iP (dec_of (ZMw.2 hp))]) _ 0 rfl,zV]
 cases h:ZGb (fun x:VarType=>n=x) 0 l with
 |none=>
  simp only[oE,oS]
  rw[ZB fun hm=>ZAp h _ hm rfl];simp
 |some j=>
  obtain⟨_,h2,h3,_⟩:=ZAo h
  simp only[oE,oS]
  rw[dec_of (by rw[h3];exact gM h2)];simp
theorem P.YAC (a b:List VarType):vS a b=some (dec (ZHB a b)):=by
 unfold vS
 by_cases hl:a.length=b.length
 ·rw[iP hl]
  unfold F.f159 F.f158
  have one:∀q,F.f156 q b=some (!dec (q∈b)):=by
   intro q;unfold F.f156;rw[P.YA];rfl
  rw[ZK4 (a:=a) (p:=fun x=>¬x∈b) (L:=vT a b) (fun k hk=>by rw[vT,iN (by omega)])
   (fun k hk hp=>by
    rw[vT,iP hk,gQ hk]
    simp only[oE,oS,one]
    rw[iN (by rw[dec_of (xU hp)];simp)])
   (fun k hk hp=>by
    rw[vT,iP hk,gQ hk]
    simp only[oE,oS,one]
    rw[iP (by rw[ZB hp];simp)]) _ 0 rfl,zV]
  cases h:ZGb (fun x:VarType=>¬x∈b) 0 a with
  |none=>
   simp only[oE,oS]
   rw[dec_of ⟨hl,fun x hx=>xU (ZAp h x hx)⟩];simp
  |some j=>
   obtain⟨_,h2,h3,_⟩:=ZAo h
   simp only[oE,oS]
   rw[ZB fun hs=>h3 (hs.2 _ (gM h2))];simp
 ·rw[iN hl,ZB fun h=>hl h.1]
def ZFK (w:List Data):Nat->Ty->Pattern->Prop
 |0,_,_=>False
 |d+1,t,p=>(∀i,0<=i->i<(ZF w t p).length->∀(h:i<(ZF w t p).length) (h':i<p.kids.length),ZFK w d (ZF w t p)[i] p.kids[i])/\
   if p.op=5 then(∀(h0:0<p.kids.length) (h1:1<p.kids.length),ZHB (ZN w d t p.kids[0]) (ZN w d t p.kids[1]))else ZGG (ZN w (d+1) t p)
variable {d:Nat}
theorem ZCT (ho:ZA0 w t p)(h5:p.op=5)(h0:0<p.kids.length):ZN w (d+1) t p=ZN w d t p.kids[0]:=by
 have et:=Zr ho h5
 rw[ZN,iN (by omega),iP h5,et]
 obtain⟨a,r,e⟩:=yS h0
 simp[e]
theorem ZAc {w:List Data}:∀{d:Nat} {t:Ty} {p:Pattern},Zc w d t p->ZFK w d t p->ZGG (ZN w d t p)
 |0,t,p,hs,hl=>hs.elim
 |d+1,t,p,hs,hl=>by
  obtain⟨ho,hlen,hk⟩:=hs
  obtain⟨h1,h2⟩:=hl
  by_cases h5:p.op=5
  ·have et:=Zr ho h5
   have h0:0<p.kids.length:=by rw[hlen,et];simp
   have h0':0<(ZF w t p).length:=by rw[et];simp
   rw[ZCT ho h5 h0]
   have e0:(ZF w t p)[0]=t:=by simp[et]
   have a:=hk 0 (zA _) h0' h0' h0
   have b:=h1 0 (zA _) h0' h0' h0
   rw[e0]at a b
   exact ZAc a b
  ·rw[iN h5]at h2;exact h2
theorem P.YO (w:List Data)(hw:ZT w):∀(d:Nat) (t:Ty) (p:Pattern),ZAA w t->Zc w d t p->p.wt<=1048576->kB w t p=some (dec (ZFK w d t p))
 |0,t,p,ht,hs,hb=>hs.elim
 |d+1,t,p,ht,hs,hb=>by
  have hs':=hs
  obtain⟨ho,hl,hk⟩:=hs
  have hts:=ZA9 hw ht ho
  have hsum:=p.wt_eq
  have hkw:∀k (h:k<p.kids.length),1+p.kids[k].wt<=p.wt:=fun k h=>by have:=Zf kG (gM h);omega
  have ih:∀k (h:k<(ZF w t p).length) (h':k<p.kids.length),kB w (ZF w t p)[k] p.kids[k]=some (dec (ZFK w d (ZF w t p)[k] p.kids[k])):=
   fun k h h'=>P.YO w hw d _ _ (hts _ (gM h)) (hk k (by omega) h h h') (by have:=hkw k h';omega)
  rw[kB,P.YG w hw t (ZCH ht.1) p ho]
  simp only[oE,oS]
  rw[ZH8 (n:=(ZF w t p).length) (r:=false) (Q:=fun i=>∀(h:i<(ZF w t p).length) (h':i<p.kids.length),ZFK w d (ZF w t p)[i] p.kids[i]) (L:=uA w t p (ZF w t p))
   (fun k hk=>by rw[uA,iN (by omega)])
   (fun k hk hq=>by
    have hk':k<p.kids.length:=by omega
    rw[uA,iP hk,gQ hk,gQ hk']
    simp only[oE,oS]
    rw[ih k hk hk']
    simp only[oS]
    rw[iP (dec_of (hq hk hk'))])
   (fun k hk hq=>by
    have hk':k<p.kids.length:=by omega
    rw[uA,iP hk,gQ hk,gQ hk']
    simp only[oE,oS]
    rw[ih k hk hk']
    simp only[oS]
    rw[iN (by rw[ZB fun h=>hq fun _ _=>h];simp)]) _ 0 rfl]
  simp only[oS]
  by_cases hall:∀i,0<=i->i<(ZF w t p).length->∀(h:i<(ZF w t p).length) (h':i<p.kids.length),ZFK w d (ZF w t p)[i] p.kids[i]
  ·rw[iP (dec_of hall)]
   simp only
   by_cases h5:p.op=5
   ·have et:=Zr ho h5
    have h0:0<p.kids.length:=by rw[hl,et];simp
    have h1:1<p.kids.length:=by rw[hl,et];simp
    have h0':0<(ZF w t p).length:=by rw[et];simp
    have h1':1<(ZF w t p).length:=by rw[et];simp
    have e0:(ZF w t p)[0]=t:=by simp[et]
    have e1:(ZF w t p)[1]=t:=by simp[et]
    have a0:=hk 0 (zA _) h0' h0' h0
    have a1:=hk 1 (by omega) h1' h1' h1
    have b1:=hall 1 (by omega) h1' h1' h1
    rw[e0]at a0
    rw[e1]at a1 b1
    rw[iP h5,gQ h0,gQ h1]
    simp only[oS]
    rw[P.YC w hw d t _ [] ht a0 (by have:=hkw 0 h0;simp;omega),P.YC w hw d t _ [] ht a1 (by have:=hkw 1 h1;simp;omega)]
    simp only[oS,yE]
    rw[P.YAW _ _ (ZAc a1 b1)]
    simp only[oS]
    congr 1
    refine ZJ ⟨fun h=>⟨hall,?_⟩,fun h=> ?_⟩
    ·rw[iP h5];exact fun _ _=>h
    ·have:=h.2;rw[iP h5]at this;exact this h0 h1
   ·rw[iN h5,P.YC w hw (d+1) t p [] ht hs' (by simp;omega)]
    simp only[oS,yE]
    rw[P.Yb]
    simp only[oS]
    by_cases hn:ZGG (ZN w (d+1) t p)
    ·rw[iP (dec_of hn),dec_of ⟨hall,by rw[iN h5];exact hn⟩]
    ·rw[iN (by rw[ZB hn];simp),ZB fun h=>hn (by have:=h.2;rwa[iN h5]at this)]
  ·rw[iN (by rw[ZB hall];simp),ZB fun h=>hall h.1]
theorem ZIF {f:Ty×Pattern->List VarType}{x:VarType}:∀{ts:List Ty} {ks:List Pattern} {n:Nat},x∈(((ts.zip ks).take n).flatMap f)->∃i,∃(h:i<ts.length) (h':i<ks.length),x∈f (ts[i],ks[i])
 | [],ks,n,h=>by simp at h
 |t::ts,[],n,h=>by simp at h
 |t::ts,k::ks,0,h=>by simp at h
 |t::ts,k::ks,n+1,h=>by
  simp only[yT,xE,yB,yA]at h
  rcases h with h|h
  ·exact⟨0,by simp,by simp,by simpa using h⟩
  ·obtain⟨i,h1,h2,h3⟩:=ZIF h
   exact⟨i+1,by simpa using h1,by simpa using h2,by simpa using h3⟩
theorem ZDR {w:List Data}(hw:ZT w):∀{d:Nat} {t:Ty} {p:Pattern},ZAA w t->Zc w d t p->∀x,x∈ZN w d t p->0<=x.var/\x.var<=5/\ZAA w x.type
 |0,t,p,ht,hs=>hs.elim
 |d+1,t,p,ht,hs=>by
  obtain⟨ho,hl,hk⟩:=hs
  intro x hx
  rw[ZN,yA]at hx
  rcases hx with hx|hx
  ·split at hx
   ·next h=>
    simp at hx;subst hx
    unfold ZA0 at ho
    refine⟨?_,?_,ht⟩<;>simp only<;>omega
   ·cases hx
  ·obtain⟨i,h,h',hm⟩:=ZIF hx
   exact ZDR hw (ZA9 hw ht ho _ (gM h)) (hk i (by omega) h h h') x hm
theorem ZRh {R:Type}{vs:List VarType}{r:R}{M:(Nat->Bool)->Nat->Option (Lo R Unit)}(hv:∀x,x∈vs->0<=x.var/\x.var<=5)
  (hM:∀s i,M s i=if i<vs.length then vs[i]? >>=fun x=>if 0<=x.var/\x.var.toNat<6 then(if s x.var.toNat=true then some (.ret r)else M (ZG5 s x.var.toNat true) (i+1))else none else some (.go ())):
  ∀(m i:Nat) (s:Nat->Bool),vs.length-i=m->M s i=some (if dec (ZGG (vs.drop i)/\∀x,x∈vs.drop i->s x.var.toNat=false)=true then .go ()else .ret r):=by
 intro m
 induction m with
 |zero=>
  intro i s hm
  rw[hM,iN (by omega),zT (by omega),iP (dec_of ⟨by simp[ZGG],by simp⟩)]
 |succ m ih=>
  intro i s hm
  have hi:i<vs.length:=by omega
  have hr:=hv _ (gM hi)
  rw[hM,iP hi,gQ hi]
  simp only[oE,oS]
  rw[iP (by omega),zS hi]
  by_cases h:s vs[i].var.toNat=true
  ·rw[iP h,iN]
   rw[ZB fun hh=> ?_];· simp
   have:=hh.2 vs[i] (yH ..)
   rw[h]at this;cases this
  ·rw[iN h,ih (i+1) _ (by omega)]
   congr 2
   rw[ZJ]
   have hs:s vs[i].var.toNat=false:=by simpa using h
   constructor
   ·rintro⟨h1,h2⟩
    refine⟨?_,fun x hx=> ?_⟩
    ·unfold ZGG at h1 ⊢
     rw[zX,yU]
     refine⟨fun hm=> ?_,h1⟩
     obtain⟨y,hy,e⟩:=zZ.1 hm
     have:=h2 y hy
     rw[e]at this
     simp[ZG5]at this
    ·rcases yP.1 hx with rfl|hx
     ·exact hs
     ·have:=h2 x hx
      unfold ZG5 at this
      split at this
      ·cases this
      ·exact this
   ·rintro⟨h1,h2⟩
    unfold ZGG at h1 ⊢
    rw[zX,yU]at h1
    refine⟨h1.2,fun x hx=> ?_⟩
    unfold ZG5
    have hx':=hv x (List.mem_of_mem_drop hx)
    rw[iN fun e=>h1.1 (zZ.2 ⟨x,hx,by omega⟩)]
    exact h2 x (yC _ hx)
abbrev ZQh (w:List Data)(d:Nat)(ts:List Ty)(ks:List Pattern)(i:Nat):Prop:=∀j,i<=j->j<ts.length->∀(h:j<ts.length) (h':j<ks.length),Zc w d ts[j] ks[j]/\ZFK w d ts[j] ks[j]
def ZCQ (w:List Data)(d:Nat)(t:Ty)(p:Pattern)(count:Nat)(vs:List VarType)(b:Bool)(c:Nat):Prop:=
 (b=true↔Zc w d t p/\ZFK w d t p/\count+(1+p.wt)<=60)/\(b=true->c=count+(1+p.wt)/\vs=ZN w d t p)
theorem P.YBF (w:List Data)(d:Nat)(hd:d+1<=10)(p:Pattern)(hp:p.wt<=1048576)(ts:List Ty)(hl:ts.length=p.kids.length)(hts:∀a,a∈ts->ZAA w a)(h5:p.op≠5)
  (L:Int->List VarType->Nat->Option (Lo ((List VarType)×Bool×Int) (Int×(List VarType))))
  (hL:∀z vars i,L z vars i=if i<p.kids.length then p.kids[i]? >>=fun x=>ts[i]? >>=fun y=>xY w y x (i64.wrap (((11- (d+1):Nat):Int)+1)) z>>=fun r=>if r.2.1=true then(if p.op=5 then(if i=1 then vS vars r.1>>=fun b=>if b=true then L r.2.2 vars (i+1)else some (.ret ([],false,r.2.2))else(if vars.length+r.1.length<=67108864 then L r.2.2 (vars++r.1) (i+1)else none))else(if vars.length+r.1.length<=67108864 then L r.2.2 (vars++r.1) (i+1)else none))else some (.ret ([],false,r.2.2))else some (.go (z,vars)))
  (ih:∀(t:Ty) (x:Pattern) (count:Nat),ZAA w t->x.wt<=1048576->count<=60->∃vs b c,xY w t x ((11-d:Nat):Int) (count:Int)=some (vs,b,((c:Nat):Int))/\ZCQ w d t x count vs b c):
  ∀(m i z:Nat) (vars:List VarType),p.kids.length-i=m->z<=60->vars.length+((p.kids.drop i).map fun k=>1+k.wt).sum<=67108864->∃o,L z vars i=some o/\
   match o with
   | .ret (vs,b,c)=>b=false/\∃c':Nat,c=(c':Int)/\¬(ZQh w d ts p.kids i/\z+((p.kids.drop i).map fun k=>1+k.wt).sum<=60)
   | .go (c,vs)=>c=((z+((p.kids.drop i).map fun k=>1+k.wt).sum:Nat):Int)/\vs=vars++((ts.zip p.kids).drop i).flatMap (fun x=>ZN w d x.1 x.2)/\ZQh w d ts p.kids i/\z+((p.kids.drop i).map fun k=>1+k.wt).sum<=60:=by
 intro m
 induction m with
 |zero=>
  intro i z vars hm hz hb
  rw[hL,iN (by omega)]
  refine⟨_,rfl,?_⟩
  rw[zT (by omega),zT (by simp;omega)]
  exact⟨by simp,by simp,fun j h1 h2=>by omega,by simpa using hz⟩
 |succ m ihm=>
  intro i z vars hm hz hb
  have hi:i<p.kids.length:=by omega
  have hi':i<ts.length:=by omega
  have hkw:=Zf kG (gM hi)
  have hpw:=p.wt_eq
  rw[zS hi]at hb ⊢
  simp only[zX,yW]at hb ⊢
  rw[hL,iP hi,gQ hi,gQ hi']
  simp only[oE,oS]
  rw[ZD (by omega) (by omega),show(((11- (d+1):Nat):Int)+1)=((11-d:Nat):Int)from by omega]
  obtain⟨vs,b,c,h1,h2,h3⟩:=ih ts[i] p.kids[i] z (hts _ (gM hi')) (by omega) hz
  rw[h1]
  simp only[oS]
  cases b with
  |true=>
   rw[iP rfl,iN h5]
   obtain⟨hc,hv⟩:=h3 rfl
   obtain⟨hp1,hp2,hle⟩:=h2.1 rfl
   have hvl:=ZCU w d ts[i] p.kids[i]
   rw[←hv]at hvl
   rw[iP (by omega)]
   obtain⟨o,g1,g2⟩:=ihm (i+1) c (vars++vs) (by omega) (by omega) (by rw[zU];omega)
   refine⟨o,g1,?_⟩
   cases o with
   |ret r=>
    obtain⟨vs',b',c'⟩:=r
    obtain⟨q1,c2,q2,q3⟩:=g2
    exact⟨q1,c2,q2,fun hh=>q3 ⟨fun j a b e f=>hh.1 j (by omega) b e f,by omega⟩⟩
   |go r=>
    obtain⟨c2,vs2⟩:=r
    obtain⟨q1,q2,q3,q4⟩:=g2
    refine⟨by rw[q1];congr 1;omega,?_,fun j a b e f=> ?_,by omega⟩
    ·rw[q2,zS (l:=ts.zip p.kids) (i:=i) (by simp;omega),hv];simp
    ·by_cases hj:i=j
     ·subst hj;exact⟨hp1,hp2⟩
     ·exact q3 j (by omega) b e f
  |false=>
   rw[iN (by simp)]
   refine⟨_,rfl,rfl,c,rfl,fun hh=> ?_⟩
   have hk:=hh.1 i (zA _) hi' hi' hi
   have:=h2.2 ⟨hk.1,hk.2,by omega⟩
   cases this
theorem P.Yj (w:List Data)(hw:ZT w):∀(d:Nat) (t:Ty) (p:Pattern) (count:Nat),d<=10->ZAA w t->p.wt<=1048576->count<=60->
  ∃vs b c,xY w t p ((11-d:Nat):Int) (count:Int)=some (vs,b,((c:Nat):Int))/\ZCQ w d t p count vs b c
 |d,t,p,count,hd,ht,hp,hc=>by
  have e1:i64.wrap ((count:Int)+1)=((count+1:Nat):Int):=by rw[ZD (by omega) (by omega)];omega
  have no:∀(h:¬(Zc w d t p/\ZFK w d t p/\count+(1+p.wt)<=60)) (c:Nat),∃vs b c',(some (([]:List VarType),false,(c:Int)):Option (List VarType×Bool×Int))=some (vs,b,((c':Nat):Int))/\ZCQ w d t p count vs b c':=
   fun h c=>⟨[],false,c,rfl,⟨fun h=>(by cases h),fun hh=>absurd hh h⟩,fun h=>by cases h⟩
  rw[xY,e1]
  by_cases h60:60<((count+1:Nat):Int)
  ·rw[iP h60];exact no (fun h=>by omega) _
  rw[iN h60]
  match d,hd with
  |0,_=>
   rw[iP (by omega)]
   exact no (fun h=>h.1.elim) _
  |d+1,hd=>
   rw[iN (by omega)]
   obtain⟨ts,h1,h2⟩:=P.YAs w hw t (ZCH ht.1) p
   rw[h1]
   simp only[oE,oS]
   by_cases hs:ZA0 w t p/\p.kids.length=(ZF w t p).length
   ·rw[iP (dec_of hs)]
    obtain⟨ho,hl⟩:=hs
    obtain rfl:=h2 ho
    have hts:=ZA9 hw ht ho
    have hwt:=ZIG p
    have ihx:∀(t:Ty) (x:Pattern) (count:Nat),ZAA w t->x.wt<=1048576->count<=60->∃vs b c,xY w t x ((11-d:Nat):Int) (count:Int)=some (vs,b,((c:Nat):Int))/\ZCQ w d t x count vs b c:=
     fun t x c ht hx hc=>P.Yj w hw d t x c (by omega) ht hx hc
    have shape_of:∀{i:Nat},ZQh w d (ZF w t p) p.kids 0->Zc w (d+1) t p:=fun h=>⟨ho,hl,fun i _ hi h1 h2=>(h i (by omega) hi h1 h2).1⟩
    by_cases h5:p.op=5
    ·rw[iN (by omega),iN (by omega)]
     have et:=Zr ho h5
     have h0:0<p.kids.length:=by rw[hl,et];simp
     have h1':1<p.kids.length:=by rw[hl,et];simp
     have hl2:p.kids.length=2:=by rw[hl,et];rfl
     have e0:(ZF w t p)[0]? =some t:=by rw[et];rfl
     have e1:(ZF w t p)[1]? =some t:=by rw[et];rfl
     have hsum:p.wt=(1+p.kids[0].wt)+(1+p.kids[1].wt):=by
      have e:p.kids=[p.kids[0],p.kids[1]]:=xP (by simp[hl2]) (fun i h1 h2=>by
       have:i=0∨i=1:=by omega
       rcases this with rfl|rfl<;>rfl)
      rw[hwt,zV]
      conv=>lhs;rw[e]
      simp
     have ed:i64.wrap (((11- (d+1):Nat):Int)+1)=((11-d:Nat):Int):=by rw[ZD (by omega) (by omega)];omega
     obtain⟨v0,b0,c0,a1,a2,a3⟩:=ihx t p.kids[0] (count+1) ht (by omega) (by omega)
     have kid0:Zc w (d+1) t p->ZFK w (d+1) t p->(Zc w d t p.kids[0]/\ZFK w d t p.kids[0])/\(Zc w d t p.kids[1]/\ZFK w d t p.kids[1])/\ZHB (ZN w d t p.kids[0]) (ZN w d t p.kids[1]):=by
      rintro⟨_,_,hk⟩ ⟨q1,q2⟩
      rw[iP h5]at q2
      have x0':0<(ZF w t p).length:=by rw[et];simp
      have x1':1<(ZF w t p).length:=by rw[et];simp
      have y0:(ZF w t p)[0]=t:=by simp[et]
      have y1:(ZF w t p)[1]=t:=by simp[et]
      have k0:=hk 0 (zA _) x0' x0' h0
      have k1:=hk 1 (by omega) x1' x1' h1'
      have l0:=q1 0 (zA _) x0' x0' h0
      have l1:=q1 1 (by omega) x1' x1' h1'
      rw[y0]at k0 l0
      rw[y1]at k1 l1
      exact⟨⟨k0,l0⟩,⟨k1,l1⟩,q2 h0 h1'⟩
     rw[vC,iP h0,gQ h0,e0]
     simp only[oE,oS]
     rw[ed,a1]
     simp only[oS]
     cases b0 with
     |false=>
      rw[iN (by simp)]
      simp only[oS]
      exact no (fun h=>by
       have:=a2.2 ⟨(kid0 h.1 h.2.1).1.1,(kid0 h.1 h.2.1).1.2,by omega⟩
       cases this) _
     |true=>
      obtain⟨hc0,rfl⟩:=a3 rfl
      obtain⟨s0,l0,z0⟩:=a2.1 rfl
      have hv0:=ZCU w d t p.kids[0]
      rw[iP rfl,iP h5,iN (by omega),iP (by simp;omega),vC,iP h1',gQ h1',e1]
      simp only[oE,oS]
      obtain⟨v1,b1,c1,g1,g2,g3⟩:=ihx t p.kids[1] c0 ht (by omega) (by omega)
      rw[ed,g1]
      simp only[oS]
      cases b1 with
      |false=>
       rw[iN (by simp)]
       simp only[oS]
       exact no (fun h=>by
        have:=g2.2 ⟨(kid0 h.1 h.2.1).2.1.1,(kid0 h.1 h.2.1).2.1.2,by omega⟩
        cases this) _
      |true=>
       obtain⟨hc1,rfl⟩:=g3 rfl
       obtain⟨s1,l1,z1⟩:=g2.1 rfl
       rw[iP rfl,iP h5,iP trivial,P.YAC]
       simp only[oS,yE]
       by_cases hsv:ZHB (ZN w d t p.kids[0]) (ZN w d t p.kids[1])
       ·rw[iP (dec_of hsv),vC,iN (by omega)]
        simp only[oS]
        have kk:∀i,0<=i->i<(ZF w t p).length->∀(h:i<(ZF w t p).length) (h':i<p.kids.length),Zc w d (ZF w t p)[i] p.kids[i]/\ZFK w d (ZF w t p)[i] p.kids[i]:=by
         intro i _ _ h h'
         have ei:(ZF w t p)[i]=t:=by
          have:i=0∨i=1:=by omega
          rcases this with rfl|rfl<;>simp[et]
         rw[ei]
         have:i=0∨i=1:=by omega
         rcases this with rfl|rfl
         ·exact⟨s0,l0⟩
         ·exact⟨s1,l1⟩
        have sh:Zc w (d+1) t p:=⟨ho,hl,fun i a b c e=>(kk i a b c e).1⟩
        have li:ZFK w (d+1) t p:=⟨fun i a b c e=>(kk i a b c e).2,by rw[iP h5];exact fun _ _=>hsv⟩
        have hnd:=ZAc sh li
        have hvk:=ZDR hw ht sh
        rw[ZCT ho h5 h0]at hnd hvk
        rw[ZRh (vs:=ZN w d t p.kids[0]) (M:=vR ((c1:Int),ZN w d t p.kids[0])) (r:=([],false,(c1:Int))) (fun x hx=>⟨(hvk x hx).1,(hvk x hx).2.1⟩) (fun s i=>by rw[vR]) _ 0 _ rfl,zV,iP (dec_of ⟨hnd,fun _ _=>rfl⟩)]
        exact⟨_,true,c1,rfl,⟨fun _=>⟨sh,li,by omega⟩,fun _=>rfl⟩,fun _=>⟨by omega,(ZCT ho h5 h0).symm⟩⟩
       ·rw[iN (by rw[ZB hsv];simp)]
        simp only[oS]
        exact no (fun h=>hsv (kid0 h.1 h.2.1).2.2) _
    ·have kidx:Zc w (d+1) t p->ZFK w (d+1) t p->ZQh w d (ZF w t p) p.kids 0:=fun a b i hi hlt h h'=>⟨a.2.2 i hi hlt h h',b.1 i hi hlt h h'⟩
     have fin:∀(v00:List VarType) (hv00:v00.length<=1) (hv:v00=if p.op=2∨p.op=6 then[(⟨p.var,t⟩:VarType)]else[])
       (L:Int->List VarType->Nat->Option (Lo ((List VarType)×Bool×Int) (Int×(List VarType))))
       (hL:∀z vars i,L z vars i=if i<p.kids.length then p.kids[i]? >>=fun x=>(ZF w t p)[i]? >>=fun y=>xY w y x (i64.wrap (((11- (d+1):Nat):Int)+1)) z>>=fun r=>if r.2.1=true then(if p.op=5 then(if i=1 then vS vars r.1>>=fun b=>if b=true then L r.2.2 vars (i+1)else some (.ret ([],false,r.2.2))else(if vars.length+r.1.length<=67108864 then L r.2.2 (vars++r.1) (i+1)else none))else(if vars.length+r.1.length<=67108864 then L r.2.2 (vars++r.1) (i+1)else none))else some (.ret ([],false,r.2.2))else some (.go (z,vars)))
       (M:Int×List VarType->(Nat->Bool)->Nat->Option (Lo ((List VarType)×Bool×Int) Unit))
       (hM:∀q s i,M q s i=if i<q.2.length then q.2[i]? >>=fun x=>if 0<=x.var/\x.var.toNat<6 then(if s x.var.toNat=true then some (.ret ([],false,q.1))else M q (ZG5 s x.var.toNat true) (i+1))else none else some (.go ())),
       ∃vs b c,((L ((count+1:Nat):Int) v00 0).bind fun o=>match o with
        | .ret r0=>some r0
        | .go s=>(M s (fun _=>false) 0).bind fun o=>match o with
         | .ret r0=>some r0
         | .go _=>some (s.2,true,s.1))=some (vs,b,((c:Nat):Int))/\ZCQ w (d+1) t p count vs b c:=by
      intro v00 hv00 hv L hL M hM
      obtain⟨o,g1,g2⟩:=P.YBF w d hd p hp (ZF w t p) hl.symm hts h5 L hL ihx _ 0 (count+1) v00 rfl (by omega) (by rw[←hwt];omega)
      rw[g1]
      simp only[oS]
      rw[←hwt]at g2
      cases o with
      |ret r=>
       obtain⟨vs,b,c⟩:=r
       obtain⟨rfl,c',rfl,q3⟩:=g2
       exact⟨vs,false,c',rfl,⟨fun h=>(by cases h),fun hh=>absurd ⟨kidx hh.1 hh.2.1,by have:=hh.2.2;omega⟩ q3⟩,fun h=>by cases h⟩
      |go s=>
       obtain⟨c,vs⟩:=s
       obtain⟨rfl,q2,q3,q4⟩:=g2
       have hvs:vs=ZN w (d+1) t p:=by
        rw[q2,ZN,hv,iN h5,zW (by simp;omega)];simp
       have sh:Zc w (d+1) t p:=⟨ho,hl,fun i a b c e=>(q3 i a b c e).1⟩
       have hvk:=ZDR hw ht sh
       rw[←hvs]at hvk
       dsimp only
       rw[ZRh (vs:=vs) (M:=M (((count+1+p.wt:Nat):Int),vs)) (r:=([],false,((count+1+p.wt:Nat):Int))) (fun x hx=>⟨(hvk x hx).1,(hvk x hx).2.1⟩) (fun s i=>by rw[hM]) _ 0 _ rfl,zV]
       simp only[oS]
       by_cases hn:ZGG vs
       ·rw[iP (dec_of ⟨hn,fun _ _=>by first|rfl|trivial⟩)]
        exact⟨vs,true,count+1+p.wt,rfl,⟨fun _=>⟨sh,⟨fun i a b c e=>(q3 i a b c e).2,by rw[iN h5,←hvs];exact hn⟩,by omega⟩,fun _=>rfl⟩,fun _=>⟨by omega,hvs⟩⟩
       ·rw[iN (by rw[ZB fun h=>hn h.1];simp)]
        exact no (fun h=>hn (by have:=h.2.1.2;rw[iN h5,←hvs]at this;exact this)) _
     by_cases h2:p.op=2
     ·rw[iP h2]
      exact fin [⟨p.var,t⟩] (by simp) (by rw[iP (.inl h2)]) (F.f167 w p ((11- (d+1):Nat):Int) (ZF w t p,dec (ZA0 w t p/\p.kids.length=(ZF w t p).length))) (fun z vars i=>by rw[F.f167]) F.f163 (fun q s i=>by rw[F.f163])
     ·rw[iN h2]
      by_cases h6:p.op=6
      ·rw[iP h6]
       exact fin [⟨p.var,t⟩] (by simp) (by rw[iP (.inr h6)]) (F.f165 w p ((11- (d+1):Nat):Int) (ZF w t p,dec (ZA0 w t p/\p.kids.length=(ZF w t p).length))) (fun z vars i=>by rw[F.f165]) F.f161 (fun q s i=>by rw[F.f161])
      ·rw[iN h6]
       exact fin [] (by simp) (by rw[iN (by omega)]) (vC w p ((11- (d+1):Nat):Int) (ZF w t p,dec (ZA0 w t p/\p.kids.length=(ZF w t p).length))) (fun z vars i=>by rw[vC]) vR (fun q s i=>by rw[vR])
   ·rw[iN (by rw[ZB hs];simp)]
    exact no (fun h=>hs ⟨h.1.1,h.1.2.1⟩) _
termination_by d=>d
def ZGB (w:List Data)(t:Ty)(p:Pattern):Prop:=Zc w 10 t p/\ZFK w 10 t p/\1+p.wt<=60
theorem P.YBB (w:List Data)(hw:ZT w)(t:Ty)(ht:ZAA w t)(p:Pattern)(hp:p.wt<=1048576):F.f80 w t p=some (dec (ZGB w t p)):=by
 unfold F.f80
 have e10:uF w t p 10=some (dec (Zc w 10 t p)):=P.YH w hw 10 t p ht (by omega)
 rw[e10]
 simp only[oE,oS]
 by_cases h1:Zc w 10 t p
 ·rw[iP (dec_of h1)]
  obtain⟨c,g1,g2,g3,g4,g5⟩:=P.YBG p hp 60 (by omega)
  have g1':kD p 60=some (c:Int):=g1
  rw[g1']
  simp only[oS]
  by_cases hc:1+p.wt<=60
  ·rw[iP (by have:=g4 hc;omega),P.YO w hw 10 t p ht h1 hp]
   simp only[oS]
   congr 1;exact ZJ ⟨fun h=>⟨h1,h,hc⟩,fun h=>h.2.1⟩
  ·rw[iN (by have:=g5 (by omega);omega),ZB fun h=>hc h.2.2]
 ·rw[iN (by rw[ZB h1];simp),ZB fun h=>h1 h.1]
theorem P.Yd (w:List Data)(hw:ZT w)(t:Ty)(ht:ZAA w t)(p:Pattern)(hp:p.wt<=1048576):∃vs,F.f168 w t p=some (vs,dec (ZGB w t p))/\(ZGB w t p->vs=ZN w 10 t p):=by
 unfold F.f168
 obtain⟨vs,b,c,g1,g2,g3⟩:=P.Yj w hw 10 t p 0 (by omega) ht hp (by omega)
 have g1':xY w t p 1 0=some (vs,b,(c:Int)):=g1
 rw[g1']
 simp only[oE,oS]
 have hb:b=dec (ZGB w t p):=by
  cases b with
  |true=>rw[dec_of];obtain⟨a,b,c⟩:=g2.1 rfl;exact⟨a,b,by omega⟩
  |false=>rw[ZB];intro h;have:=g2.2 ⟨h.1,h.2.1,by have:=h.2.2;omega⟩;cases this
 subst hb
 exact⟨vs,rfl,fun h=>(g3 (dec_of h)).2⟩
def gOk (g:Guard)(vs:List VarType):Prop:=(g.op=0/\g.var=0/\g.n=0)∨((g.op=1∨g.op=2)/\0<=g.n/\g.n<=9/\(⟨g.var,⟨-1,0⟩⟩:VarType)∈vs)
theorem P.YAa (g:Guard)(vs:List VarType):F.f169 g vs=some (dec (gOk g vs)):=by
 unfold F.f169
 simp only[P.YD,P.YA,oE,oS]
 by_cases h0:g.op=0
 ·rw[iP h0];congr 1;refine ZJ ?_;unfold gOk eq3;simp only;omega
 ·rw[iN h0]
  by_cases h1:1<=g.op/\g.op<=2
  ·rw[iP (dec_of h1)]
   by_cases h2:0<=g.n/\g.n<=9
   ·rw[iP (dec_of h2)];congr 1
    refine ZJ ⟨fun h=>.inr ⟨by omega,h2.1,h2.2,h⟩,fun h=> ?_⟩
    rcases h with h|h
    ·omega
    ·exact h.2.2.2
   ·rw[iN (by rw[ZB h2];simp),ZB]
    rintro(h|h)
    ·omega
    ·exact h2 ⟨h.2.1,h.2.2.1⟩
  ·rw[iN (by rw[ZB h1];simp),ZB]
   rintro(h|h)
   ·omega
   ·omega
theorem P.YAV (w:List Data)(g:Guard)(vs:List VarType)(hn:ZGG vs)(ht:∀x,x∈vs->ZAA w x.type):F.f81 g vs=some (dec (gOk g vs)):=by
 unfold F.f81
 have key:g.op=1∨g.op=2->(if g.n<0 then some false else if 9<g.n then some false else(kC vs g.var)>>=fun v21=>if 0<=v21 then(at? vs v21)>>=fun x25=>some (decide (x25.type.data=(-1)))else some false)=some (dec (gOk g vs)):=by
  intro hop
  by_cases a1:g.n<0
  ·rw[iP a1,ZB];rintro(h|h)<;>omega
  rw[iN a1]
  by_cases a2:9<g.n
  ·rw[iP a2,ZB];rintro(h|h)<;>omega
  rw[iN a2,P.YF]
  simp only[oE,oS]
  rcases ZB8 vs g.var with h|⟨j,hj,h1,h2,h3⟩
  ·rw[iN (by omega),ZB]
   rintro(h'|h')
   ·omega
   ·exact ZEt h _ h'.2.2.2 rfl
  ·rw[iP (by omega),h1,ZE0,gQ hj]
   simp only[oS]
   rw[←ZAY];congr 1
   refine ZJ ⟨fun h=>.inr ⟨hop,by omega,by omega,?_⟩,fun h=> ?_⟩
   ·have hty:=ht _ (gM hj)
    have hi:vs[j].type.index=0:=by unfold ZAA ZBq at hty;omega
    have:(⟨g.var,⟨-1,0⟩⟩:VarType)=vs[j]:=ZO5 (by simp[h2]) ⟨by simp[h],by simp[hi]⟩
    rw[this];exact gM hj
   ·rcases h with h|h
    ·omega
    ·obtain⟨i,hi,e⟩:=yD h.2.2.2
     have hij:i=j:=by
      rw[ZFP]at hn
      rcases zM i j with hlt|heq|hlt
      ·exact absurd (by rw[e,h2]) (hn i j hi hj hlt)
      ·exact heq
      ·exact absurd (by rw[e,h2]) (hn j i hj hi hlt)
     subst hij
     rw[e]
 by_cases h0:g.op=0
 ·rw[iP h0]
  by_cases h1:g.var=0
  ·rw[iP h1,←ZAY];congr 1;refine ZJ ⟨fun h=>.inl ⟨h0,h1,h⟩,fun h=> ?_⟩
   rcases h with h|h
   ·exact h.2.2
   ·omega
  ·rw[iN h1,ZB];rintro(h|h)<;>omega
 ·rw[iN h0]
  by_cases h1:g.op=1
  ·rw[iP h1];exact key (.inl h1)
  ·rw[iN h1]
   by_cases h2:g.op=2
   ·rw[iP h2];exact key (.inr h2)
   ·rw[iN h2,ZB];rintro(h|h)<;>omega
def ZLG (w:List Data)(t:Ty)(c:Clause):Prop:=ZGB w t c.pat/\gOk c.guard (ZN w 10 t c.pat)
theorem P.YBA (w:List Data)(hw:ZT w)(t:Ty)(ht:ZAA w t)(c:Clause)(hp:c.pat.wt<=1048576):F.f82 w t c=some (dec (ZLG w t c)):=by
 unfold F.f82
 rw[P.YBB w hw t ht _ hp]
 simp only[oE,oS]
 by_cases h:ZGB w t c.pat
 ·rw[iP (dec_of h),P.YC w hw 10 t c.pat [] ht h.1 (by simp;omega)]
  simp only[oS,yE]
  rw[P.YAV w _ _ (ZAc h.1 h.2.1) (fun x hx=>(ZDR hw ht h.1 x hx).2.2)]
  simp only[oS]
  congr 1;exact ZJ ⟨fun g=>⟨h,g⟩,fun g=>g.2⟩
 ·rw[iN (by rw[ZB h];simp),ZB fun g=>h g.1]
theorem P.YAG (w:List Data)(hw:ZT w)(t:Ty)(ht:ZAA w t)(c:Clause)(hp:c.pat.wt<=1048576):F.f170 w t c=some (dec (ZLG w t c)):=by
 unfold F.f170
 obtain⟨vs,h1,h2⟩:=P.Yd w hw t ht c.pat hp
 rw[h1]
 simp only[oE,oS]
 by_cases h:ZGB w t c.pat
 ·rw[iP (dec_of h),P.YAa,h2 h]
  simp only[oS]
  congr 1;exact ZJ ⟨fun g=>⟨h,g⟩,fun g=>g.2⟩
 ·rw[iN (by rw[ZB h];simp),ZB fun g=>h g.1]
def ZRi (v:Int):Nat->Pattern->Prop
 |0,_=>False
 |d+1,p=>(∃i,∃h:i<p.kids.length,ZRi v d p.kids[i])∨((p.op=2∨p.op=6)/\p.var=v)
theorem ZIh (h5:p.op≠5){i:Nat}(h:i<(ZF w t p).length)(h':i<p.kids.length){x:VarType}(hx:x∈ZN w d (ZF w t p)[i] p.kids[i]):x∈ZN w (d+1) t p:=by
 rw[ZN,iN h5,zW (by simp;omega),yA]
 refine .inr (yQ.2 ⟨((ZF w t p)[i],p.kids[i]),?_,hx⟩)
 have:((ZF w t p)[i],p.kids[i])=((ZF w t p).zip p.kids)[i]'(by simp;omega):=by simp
 rw[this];exact gM _
def hv (d:Nat)(p:Pattern):Prop:=∃v,ZRi v d p
theorem ZCX (h:l.length=2):l=[l[0]'(by omega),l[1]'(by omega)]:=by
 match l,h with
 | [x,y],_=>rfl
def ZO2 (w:List Data)(t:Ty)(l:List Clause):Prop:=ZAh w t/\l.length<=8/\∀c,c∈l->ZLG w t c
theorem P.YW (w:List Data)(hw:ZAi w)(t:Ty)(l:List Clause)(hp:∀c,c∈l->c.pat.wt<=1048576):F.f84 w t l=some (dec (ZO2 w t l)):=by
 unfold F.f84
 rw[P.Yr w t hw]
 simp only[oE,oS]
 by_cases h1:ZAh w t
 ·rw[iP (dec_of h1)]
  by_cases h2:8<l.length
  ·rw[iP h2,ZB fun h=>by have:=h.2.1;omega]
  ·rw[iN h2]
   have hl:∀k,k<=l.length->kA w t l (l.length-k)=some (if dec (∀c,c∈l.drop (l.length-k)->ZLG w t c)=true then .go ()else .ret false):=by
    intro k
    induction k with
    |zero=>intro _;rw[kA,iN (by omega),iP (dec_of fun c hc=>by simp at hc)]
    |succ k ih=>
     intro hk
     have hi:l.length- (k+1)<l.length:=by omega
     rw[kA,iP hi,gQ hi]
     simp only[oE,oS]
     rw[P.YBA w h1.1 t h1.2 _ (hp _ (gM hi))]
     simp only[oS]
     have e1:l.length- (k+1)+1=l.length-k:=by omega
     have e2:l.drop (l.length- (k+1))=l[l.length- (k+1)]::l.drop (l.length-k):=by rw[zS hi,e1]
     by_cases hc:ZLG w t l[l.length- (k+1)]
     ·rw[iP (dec_of hc),e1,ih (by omega),e2]
      rw[ZJ (q:=∀c,c∈l[l.length- (k+1)]::l.drop (l.length-k)->ZLG w t c) ⟨fun h c hc'=>by
       rcases yP.1 hc' with rfl|hc'
       ·exact hc
       ·exact h c hc',fun h c hc'=>h c (yC _ hc')⟩]
     ·rw[iN (by rw[ZB hc];simp),e2,iN (by rw[ZB fun h=>hc (h _ (yH ..))];simp)]
   have:=hl l.length (zA _)
   rw[zO,zV]at this
   rw[this]
   simp only[oS]
   by_cases h3:∀c,c∈l->ZLG w t c
   ·rw[iP (dec_of h3)];simp only;rw[dec_of ⟨h1,by omega,h3⟩]
   ·rw[iN (by rw[ZB h3];simp)];simp only;rw[ZB fun h=>h3 h.2.2]
 ·rw[iN (by rw[ZB h1];simp),ZB fun h=>h1 h.1]
theorem P.YZ (w:List Data)(hw:ZAi w)(t:Ty)(l:List Clause)(hp:∀c,c∈l->c.pat.wt<=1048576):F.f175 w t l=some (dec (ZO2 w t l)):=by
 unfold F.f175
 rw[P.Yv w t hw]
 simp only[oE,oS]
 by_cases h1:ZAh w t
 ·rw[iP (dec_of h1)]
  by_cases h2:l.length<=8
  ·rw[iP h2]
   unfold F.f174 F.f173
   have one:∀c,c∈l->F.f171 c w t=some (dec (¬ZLG w t c)):=by
    intro c hc
    unfold F.f171
    rw[P.YAG w h1.1 t h1.2 c (hp c hc)]
    simp only[oE,oS]
    by_cases a:ZLG w t c
    ·rw[dec_of a,ZB (by simp[a])];rfl
    ·rw[ZB a,dec_of a];rfl
   rw[ZK4 (a:=l) (p:=fun c=>¬ZLG w t c) (L:=vQ l w t) (fun k hk=>by rw[vQ,iN (by omega)])
    (fun k hk hp=>by rw[vQ,iP hk,gQ hk];simp only[oE,oS];rw[one _ (gM hk)];simp only[oS];rw[iN (by rw[ZB hp];simp)])
    (fun k hk hp=>by rw[vQ,iP hk,gQ hk];simp only[oE,oS];rw[one _ (gM hk)];simp only[oS];rw[iP (dec_of hp)]) _ 0 rfl,zV]
   cases hf:ZGb (fun c=>¬ZLG w t c) 0 l with
   |none=>
    have:=ZAp hf
    simp only[oE,oS]
    rw[dec_of ⟨h1,h2,fun c hc=>xU fun h=>this c hc h⟩];rfl
   |some j=>
    obtain⟨_,h3,h4,_⟩:=ZAo hf
    simp only[oE,oS]
    rw[ZB fun h=>h4 (h.2.2 _ (gM h3))];simp
  ·rw[iN h2,ZB fun h=>h2 h.2.1]
 ·rw[iN (by rw[ZB h1];simp),ZB fun h=>h1 h.1]
def Tree.nodes :Tree->Nat
 |⟨_,_,_,_,branches,els⟩=>1+(branches.attach.map fun⟨b,_⟩=>Tree.nodes b.tree).sum+(els.attach.map fun⟨k,_⟩=>Tree.nodes k).sum
termination_by t=>SizeOf.sizeOf t
decreasing_by
 ·rename_i h
  have:=xL h
  cases b
  simp at this ⊢
  omega
 ·rename_i h
  have:=xL h
  simp
  omega
theorem P.YB (l:List Int)(h:l.length<=67108864):uJ l=some l:=by unfold uJ;rw[iP h]
def ZKE :Nat->Tree->Prop
 |0,_=>False
 |n+1,x=>(0<=x.op/\x.op<=2/\x.els.length<=1/\x.branches.length<=10)/\(∀b,b∈x.branches->ZKE n b.tree)/\∀y,y∈x.els->ZKE n y
def right (x:Tree):Prop:=ZKE x.nodes x
def ZFp (w:List Data):Nat->Ty->Pattern->Prop
 |0,_,_=>False
 |d+1,t,p=>ZA0 w t p/\p.op≠5/\p.kids.length=(ZF w t p).length/\∀i (h:i<(ZF w t p).length) (h':i<p.kids.length),ZFp w d (ZF w t p)[i] p.kids[i]
theorem ZDd {w:List Data}:∀{d:Nat} {t:Ty} {p:Pattern},ZFp w d t p->ZFp w (d+1) t p
 |0,_,_,h=>h.elim
 |d+1,t,p,⟨h1,h2,h3,h4⟩=>⟨h1,h2,h3,fun i h h'=>ZDd (h4 i h h')⟩
theorem ZJ5 :∀{a b:List Pattern},a.length=b.length->(∀i (h:i<a.length) (h':i<b.length),a[i].wt<=b[i].wt)->wtL kG a<=wtL kG b
 | [],[],_,_=>zA _
 | [],_::_,h,_=>by simp at h
 |_::_,[],h,_=>by simp at h
 |x::a,y::b,h,hh=>by
  have h0:=hh 0 (by simp) (by simp)
  have:=ZJ5 (a:=a) (b:=b) (by simpa using h) fun i hi hi'=>by have:=hh (i+1) (by simpa using hi) (by simpa using hi');simpa using this
  simp only[Zx,xA]at h0 ⊢
  omega
theorem P.YBN (p:Pattern)(l:List (List Pattern)):∀(m i:Nat) (out:List Pattern),l.length-i=m->out.length+m<=67108864->uZ p l out i=some (out++(l.drop i).map fun x=>⟨p.op,p.ctor,p.n,p.m,p.var,x⟩)
 |0,i,out,hm,hb=>by rw[uZ,iN (by omega),zT (by omega)];simp
 |m+1,i,out,hm,hb=>by
  have hi:i<l.length:=by omega
  rw[uZ,iP hi,gQ hi]
  simp only[oE,oS]
  rw[iP (by omega),P.YBN p l m (i+1) _ (by omega) (by simp;omega),zS hi,zX]
  simp[←List.map_drop]
def ZAm :List Nat->Nat
 | []=>1
 |a::r=>a*ZAm r
def Pattern.alts :Pattern->Nat
 |⟨op,_,_,_,_,kids⟩=>if op=5 then(kids.map fun k=>Pattern.alts k).sum else ZAm (kids.map fun k=>Pattern.alts k)
theorem ZFk (p:Pattern):p.alts=if p.op=5 then(p.kids.map Pattern.alts).sum else ZAm (p.kids.map Pattern.alts):=by
 cases p;rw[Pattern.alts]
theorem ZN1 (a b:Nat):min (min a 401+min b 401) 401=min (a+b) 401:=by omega
theorem ZN0 (a b:Nat):min (min a 401*min b 401) 401=min (a*b) 401:=by
 by_cases ha:a<=401
 ·by_cases hb:b<=401
  ·rw[zF ha,zF hb]
  ·rw[zF ha,zH (by omega:401<=b)]
   rcases zL a with rfl|h
   ·simp
   ·have h1:1*401<=a*401:=zC _ h
    have h2:1*b<=a*b:=zC _ h
    omega
 ·rw[zH (by omega:401<=a)]
  rcases zL b with rfl|h
  ·simp
  ·have h0:1<=min b 401:=by omega
   have h1:401*1<=401*min b 401:=zD _ h0
   have h2:a*1<=a*b:=zD _ h
   omega
theorem P.YAy (p:Pattern):F.f176 p=some ((min p.alts 401:Nat):Int):=by
 induction p using kH with
 |_ p ih=>
  have e:=ZFk p
  rw[F.f176]
  by_cases h5:p.op=5
  ·rw[iP h5]at e ⊢
   have key:∀(m i n:Nat),p.kids.length-i=m->vP p i ((min n 401:Nat):Int)=some ((min (n+((p.kids.drop i).map Pattern.alts).sum) 401:Nat):Int):=by
    intro m
    induction m with
    |zero=>intro i n hm;rw[vP,iN (by omega),zT (by omega)];simp
    |succ m ihm=>
     intro i n hm
     have hi:i<p.kids.length:=by omega
     rw[vP,iP hi,gQ hi]
     simp only[oE,oS]
     rw[iP h5,ih _ (gM hi)]
     simp only[oS]
     have hw:i64.wrap (((min n 401:Nat):Int)+((min p.kids[i].alts 401:Nat):Int))=((min n 401+min p.kids[i].alts 401:Nat):Int):=by rw[ZD (by omega) (by omega)];omega
     have hr:(if 401<((min n 401+min p.kids[i].alts 401:Nat):Int)then 401 else((min n 401+min p.kids[i].alts 401:Nat):Int))=((min (n+p.kids[i].alts) 401:Nat):Int):=by
      rw[←ZN1];split<;>omega
     rw[hw,hr,ihm (i+1) _ (by omega),zS hi,zX,yW,zJ]
   have k0:=key _ 0 0 rfl
   rw[zV,zE,←e]at k0
   rw[show vP p 0 0=some ((min p.alts 401:Nat):Int)from k0]
   rfl
  ·rw[iN h5]at e ⊢
   have key:∀(m i n:Nat),p.kids.length-i=m->vO p i ((min n 401:Nat):Int)=some ((min (n*ZAm ((p.kids.drop i).map Pattern.alts)) 401:Nat):Int):=by
    intro m
    induction m with
    |zero=>intro i n hm;rw[vO,iN (by omega),zT (by omega)];simp[ZAm]
    |succ m ihm=>
     intro i n hm
     have hi:i<p.kids.length:=by omega
     rw[vO,iP hi,gQ hi]
     simp only[oE,oS]
     rw[iN h5,ih _ (gM hi)]
     simp only[oS]
     have hb:min n 401*min p.kids[i].alts 401<=401*401:=zN (by omega) (by omega)
     have hw:i64.wrap (((min n 401:Nat):Int)*((min p.kids[i].alts 401:Nat):Int))=((min n 401*min p.kids[i].alts 401:Nat):Int):=by
      rw[←Int.natCast_mul,ZD (by omega) (by omega)]
     have hr:(if 401<((min n 401*min p.kids[i].alts 401:Nat):Int)then 401 else((min n 401*min p.kids[i].alts 401:Nat):Int))=((min (n*p.kids[i].alts) 401:Nat):Int):=by
      rw[←ZN0]
      generalize min n 401*min p.kids[i].alts 401=z
      split<;>omega
     rw[hw,hr,ihm (i+1) _ (by omega),zS hi,zX,ZAm,zI]
   have k0:=key _ 0 1 rfl
   rw[zV,zG,←e]at k0
   rw[show vO p 0 1=some ((min p.alts 401:Nat):Int)from k0]
   rfl
theorem ZCR :∀{l:List Nat},(∀x,x∈l->1<=x)->1<=ZAm l
 | [],_=>zA _
 |a::r,h=>by
  have h1:=h a (by simp)
  have h2:=ZCR (l:=r) fun x hx=>h x (yC _ hx)
  exact zN h1 h2
theorem ZFj {w:List Data}:∀{d:Nat} {t:Ty} {p:Pattern},Zc w d t p->1<=p.alts
 |0,_,_,h=>h.elim
 |d+1,t,p,⟨ho,hl,hk⟩=>by
  have hks:∀k,k∈p.kids->1<=k.alts:=fun k hm=>by
   obtain⟨i,hi,rfl⟩:=yD hm
   exact ZFj (hk i (zB _) (by omega) (by omega) hi)
  rw[ZFk]
  split
  ·next h5=>
   have e5:=Zr ho h5
   have h2:p.kids.length=2:=by rw[hl,e5];rfl
   have q0:=hks _ (gM (show 0<p.kids.length by omega))
   have e9:(([p.kids[0]'(by omega),p.kids[1]'(by omega)]:List Pattern).map Pattern.alts).sum=(p.kids[0]'(by omega)).alts+(p.kids[1]'(by omega)).alts:=by simp
   rw[←ZCX h2]at e9
   omega
  ·exact ZCR fun x hx=>by
    obtain⟨k,hk2,rfl⟩:=zZ.1 hx
    exact hks k hk2
theorem ZEg {l:List Nat}(h:∀x,x∈l->1<=x)(i:Nat):ZAm (l.take i)<=ZAm l:=by
 induction l generalizing i with
 |nil=>simp[ZAm]
 |cons a r ih=>
  have hr:∀x,x∈r->1<=x:=fun x hx=>h x (yC _ hx)
  cases i with
  |zero=>exact ZCR h
  |succ i=>exact zD _ (ih hr i)
theorem ZJG (l:List Nat)(a:Nat):ZAm (l++[a])=ZAm l*a:=by
 induction l with
 |nil=>simp[ZAm]
 |cons b r ih=>simp only[yZ,ZAm,ih,zI]
theorem ZKW {l:List Nat}(h:∀x,x∈l->1<=x){a:Nat}(ha:a∈l):a<=ZAm l:=by
 induction l with
 |nil=>cases ha
 |cons b r ih=>
  have hr:∀x,x∈r->1<=x:=fun x hx=>h x (yC _ hx)
  have h1:=h b (by simp)
  have h2:=ZCR hr
  rcases yP.1 ha with rfl|ha
  ·have:=zD a h2;rw[Nat.mul_one]at this;exact this
  ·have h3:=ih hr ha
   have h4:=zC (ZAm r) h1
   rw[zG]at h4
   exact Nat.le_trans h3 h4
theorem P.YAg (p:Pattern)(list:List Pattern)(i:Nat)(v:List Pattern)(i17:Nat)(q:Pattern)(hq:q.kids.length<=1048576):∀(m j:Nat) (more:List Pattern),v.length-j=m->more.length+m<=67108864->
  uM p list i v i17 q more j=some (more++(v.drop j).map fun x=>⟨q.op,q.ctor,q.n,q.m,q.var,q.kids++[x]⟩)
 |0,j,more,hm,hb=>by rw[uM,iN (by omega),zT (by omega)];simp
 |m+1,j,more,hm,hb=>by
  have hj:j<v.length:=by omega
  rw[uM,iP hj,gQ hj]
  simp only[oE,oS]
  unfold F.f179
  rw[iP (by omega)]
  simp only[oS]
  rw[iP (by omega),iP (by omega),P.YAg p list i v i17 q hq m (j+1) _ (by omega) (by simp;omega),zS hj,zX]
  simp
def Zp {β:Type}(op:Int)(path:List Int):Nat->List (List Int->List β)->List β
 |_,[]=>[]
 |i,f::r=>f (if op=4 then path++[(i:Int)]else path)++Zp op path (i+1) r
def Pattern.tst :Pattern->List Int->List Step
 |⟨op,ctor,n,m,_,kids⟩=>fun path=>(if op=3 then[(⟨1,path,-1,n,m,0,[],0⟩:Step)]else if op=4 then[⟨1,path,ctor,0,0,0,[],0⟩]else[])++Zp op path 0 (kids.map fun k=>Pattern.tst k)
def Pattern.bnd :Pattern->List Int->List PathBind
 |⟨op,_,_,_,var,kids⟩=>fun path=>(if op=2∨op=6 then[(⟨var,path⟩:PathBind)]else[])++Zp op path 0 (kids.map fun k=>Pattern.bnd k)
theorem ZFr (p:Pattern)(path:List Int):p.tst path=(if p.op=3 then[(⟨1,path,-1,p.n,p.m,0,[],0⟩:Step)]else if p.op=4 then[⟨1,path,p.ctor,0,0,0,[],0⟩]else[])++Zp p.op path 0 (p.kids.map Pattern.tst):=by
 cases p;rw[Pattern.tst]
theorem ZEB (p:Pattern)(path:List Int):p.bnd path=(if p.op=2∨p.op=6 then[(⟨p.var,path⟩:PathBind)]else[])++Zp p.op path 0 (p.kids.map Pattern.bnd):=by
 cases p;rw[Pattern.bnd]
theorem ZCu {β:Type}(op:Int)(g:Pattern->List Int->List β)(path:List Int):∀(l:List Pattern) (h:∀k,k∈l->∀path,(g k path).length<=1+k.wt) (i:Nat),(Zp op path i (l.map g)).length<=wtL kG l
 | [],h,i=>by simp[Zp]
 |k::r,h,i=>by
  have h1:=h k (yH ..) (if op=4 then path++[(i:Int)]else path)
  have h2:=ZCu op g path r (fun k hk=>h k (yC _ hk)) (i+1)
  rw[zX,Zp,zU,Zx]
  omega
theorem ZDY (p:Pattern):∀path,(p.tst path).length<=1+p.wt:=by
 induction p using kH with
 |_ p ih=>
  intro path
  have h1:=ZCu p.op Pattern.tst path p.kids ih 0
  rw[ZFr,zU,p.wt_eq]
  grind
theorem ZEA (p:Pattern):∀path,(p.bnd path).length<=1+p.wt:=by
 induction p using kH with
 |_ p ih=>
  intro path
  have h1:=ZCu p.op Pattern.bnd path p.kids ih 0
  rw[ZEB,zU,p.wt_eq]
  grind
theorem ZEX {p:Pattern}{path:List Int}{L:List Step->List PathBind->Nat->Option (List Step×List PathBind)}
  (hL:∀o b i,L o b i=if i<p.kids.length then(p.kids[i]?)>>=fun x=>if p.op=4 then(uJ path)>>=fun v=>if v.length+1<=67108864 then(xZ x (v++[(i:Int)]) o b)>>=fun v15=>L v15.1 v15.2 (i+1)else none
   else(xZ x path o b)>>=fun v18=>L v18.1 v18.2 (i+1)else some (o,b))
  (ih:∀k,k∈p.kids->∀(path:List Int) o b,path.length+k.wt<=67108863->o.length+(1+k.wt)<=67108864->b.length+(1+k.wt)<=67108864->xZ k path o b=some (o++k.tst path,b++k.bnd path)) (hp:path.length+p.wt<=67108863):
  ∀(m i:Nat) (o:List Step) (b:List PathBind),p.kids.length-i=m->o.length+wtL kG (p.kids.drop i)<=67108864->b.length+wtL kG (p.kids.drop i)<=67108864->
   L o b i=some (o++Zp p.op path i ((p.kids.drop i).map Pattern.tst),b++Zp p.op path i ((p.kids.drop i).map Pattern.bnd))
 |0,i,o,b,hm,h1,h2=>by rw[hL,iN (by omega),zT (by omega)];simp[Zp]
 |m+1,i,o,b,hm,h1,h2=>by
  have hi:i<p.kids.length:=by omega
  have hk:1+p.kids[i].wt<=p.wt:=by rw[p.wt_eq];exact Zf kG (gM hi)
  have ed:p.kids.drop i=p.kids[i]::p.kids.drop (i+1):=zS hi
  rw[ed,Zx]at h1 h2
  have e:L o b i=(xZ p.kids[i] (if p.op=4 then path++[(i:Int)]else path) o b)>>=fun v15=>L v15.1 v15.2 (i+1):=by
   rw[hL,iP hi,gQ hi]
   simp only[oE,oS]
   by_cases h4:p.op=4
   ·rw[iP h4,iP h4,P.YB path (by omega)]
    grind
   ·rw[iN h4,iN h4]
  have hpl:(if p.op=4 then path++[(i:Int)]else path).length<=path.length+1:=by split<;>simp
  rw[e,ih _ (gM hi) _ o b (by omega) (by omega) (by omega)]
  simp only[oE,oS]
  have t1:=ZDY p.kids[i] (if p.op=4 then path++[(i:Int)]else path)
  have t2:=ZEA p.kids[i] (if p.op=4 then path++[(i:Int)]else path)
  rw[ZEX hL ih hp m (i+1) _ _ (by omega) (by rw[zU];omega) (by rw[zU];omega),ed]
  simp only[zX,Zp,zY]
theorem P.YAr (p:Pattern):∀(path:List Int) (o:List Step) (b:List PathBind),path.length+p.wt<=67108863->o.length+(1+p.wt)<=67108864->b.length+(1+p.wt)<=67108864->xZ p path o b=some (o++p.tst path,b++p.bnd path):=by
 induction p using kH with
 |_ p ih=>
  intro path o b h1 h2 h3
  have hw:=p.wt_eq
  have key:=fun(L:List Step->List PathBind->Nat->Option (List Step×List PathBind)) hL o b q1 q2=>ZEX (p:=p) (path:=path) (L:=L) hL ih h1 _ 0 o b rfl q1 q2
  simp only[zV]at key
  rw[xZ,P.YB path (by omega),ZFr,ZEB]
  simp only[oE,oS]
  by_cases c2:p.op=2
  ·rw[iP c2,iP (by omega),key (F.f188 p path) (fun o b i=>by rw[F.f188]) _ _ (by omega) (by simp;omega)]
   simp[c2]
  ·rw[iN c2]
   by_cases c6:p.op=6
   ·rw[iP c6,iP (by omega),key (F.f189 p path) (fun o b i=>by rw[F.f189]) _ _ (by omega) (by simp;omega)]
    simp[c6]
   ·rw[iN c6]
    by_cases c3:p.op=3
    ·rw[iP c3,iP (by omega),key (F.f190 p path) (fun o b i=>by rw[F.f190]) _ _ (by simp;omega) (by omega)]
     simp[c3]
    ·rw[iN c3]
     by_cases c4:p.op=4
     ·rw[iP c4,iP (by omega),key (F.f191 p path) (fun o b i=>by rw[F.f191]) _ _ (by simp;omega) (by omega)]
      simp[c4]
     ·rw[iN c4,key (F.f192 p path) (fun o b i=>by rw[F.f192]) _ _ (by omega) (by omega)]
      simp[c2,c3,c4,c6]
theorem ZDw (path:List Int)(i:Int)(h:path.length+1<=67108864):uX path i=some (path++[i]):=by
 unfold uX
 grind
theorem ZIf {p:Pattern}{path:List Int}(c4:p.op=4)(ih:∀k,k∈p.kids->∀(path:List Int) o,path.length+k.wt<=67108863->o.length+(1+k.wt)<=67108864->vZ o k path=some (o++k.tst path))(hp:path.length+p.wt<=67108863):
  ∀(m i:Nat) (o:List Step),p.kids.length-i=m->o.length+wtL kG (p.kids.drop i)<=67108864->uW p path o i=some (o++Zp p.op path i ((p.kids.drop i).map Pattern.tst))
 |0,i,o,hm,h1=>by rw[uW,iN (by omega),zT (by omega)];simp[Zp]
 |m+1,i,o,hm,h1=>by
  have hi:i<p.kids.length:=by omega
  have hk:1+p.kids[i].wt<=p.wt:=by rw[p.wt_eq];exact Zf kG (gM hi)
  have ed:p.kids.drop i=p.kids[i]::p.kids.drop (i+1):=zS hi
  rw[ed,Zx]at h1
  rw[uW,iP hi,gQ hi]
  simp only[oE,oS]
  rw[ZDw path i (by omega)]
  simp only[oS]
  rw[ih _ (gM hi) _ o (by simp;omega) (by omega)]
  simp only[oS]
  have t1:=ZDY p.kids[i] (path++[(i:Int)])
  rw[ZIf c4 ih hp m (i+1) _ (by omega) (by rw[zU];omega),ed]
  simp only[zX,Zp,zY,iP c4]
theorem ZLl (h:ZFp w (d+1) t p)(h4:p.op≠4)(h6:p.op≠6):p.kids=[]:=by
 obtain⟨_,h5,hl,_⟩:=h
 unfold ZF at hl
 grind
theorem P.YA6 (w:List Data):∀(d:Nat) (t:Ty) (p:Pattern),ZFp w d t p->∀(path:List Int) (o:List Step),path.length+p.wt<=67108863->o.length+(1+p.wt)<=67108864->vZ o p path=some (o++p.tst path)
 |0,_,_,h,_,_,_,_=>h.elim
 |d+1,t,p,hs,path,o,q1,q2=>by
  have nil:=ZLl hs
  obtain⟨h1,h5,hl,hk⟩:=hs
  have hw:=p.wt_eq
  have ih:∀k,k∈p.kids->∀(path:List Int) o,path.length+k.wt<=67108863->o.length+(1+k.wt)<=67108864->vZ o k path=some (o++k.tst path):=fun k hk' path o r1 r2=>by
   obtain⟨i,hi,rfl⟩:=xD.1 hk'
   exact P.YA6 w d _ _ (hk i (by omega) hi) path o r1 r2
  rw[vZ,ZFr]
  by_cases c6:p.op=6
  ·have et:ZF w t p=[t]:=by unfold ZF;rw[iN (by omega),iN (by omega),iP c6]
   rw[et]at hl
   obtain⟨k,ek⟩:=List.length_eq_one_iff.1 hl
   have hwk:p.wt=1+k.wt:=by rw[hw,ek];simp[wtL]
   rw[iP c6,ek]
   simp only[List.getElem?_cons_zero,oE,oS]
   rw[ih k (by simp[ek]) path o (by omega) (by omega)]
   simp[c6,Zp]
  ·rw[iN c6]
   by_cases c3:p.op=3
   ·rw[iP c3,iP (by omega),iP (by omega),nil (by omega) c6]
    simp[c3,Zp]
   ·rw[iN c3]
    by_cases c4:p.op=4
    ·have key:=ZIf c4 ih q1 _ 0 (o++[(⟨1,path,p.ctor,0,0,0,[],0⟩:Step)]) rfl (by rw[zV];simp;omega)
     grind
    ·rw[iN c4,nil c4 c6]
     simp[c3,c4,Zp]
theorem ZIg {p:Pattern}{path:List Int}{L:List PathBind->Nat->Option (List PathBind)}
  (hL:∀o i,L o i=if i<p.kids.length then if p.op=4 then(uX path (i:Int))>>=fun v=>(p.kids[i]?)>>=fun x=>(vE o x v)>>=fun v15=>L v15 (i+1)
   else(p.kids[i]?)>>=fun x18=>(vE o x18 path)>>=fun v20=>L v20 (i+1)else some o)
  (ih:∀k,k∈p.kids->∀(path:List Int) o,path.length+k.wt<=67108863->o.length+(1+k.wt)<=67108864->vE o k path=some (o++k.bnd path)) (hp:path.length+p.wt<=67108863):
  ∀(m i:Nat) (o:List PathBind),p.kids.length-i=m->o.length+wtL kG (p.kids.drop i)<=67108864->L o i=some (o++Zp p.op path i ((p.kids.drop i).map Pattern.bnd))
 |0,i,o,hm,h1=>by rw[hL,iN (by omega),zT (by omega)];simp[Zp]
 |m+1,i,o,hm,h1=>by
  have hi:i<p.kids.length:=by omega
  have hk:1+p.kids[i].wt<=p.wt:=by rw[p.wt_eq];exact Zf kG (gM hi)
  have ed:p.kids.drop i=p.kids[i]::p.kids.drop (i+1):=zS hi
  rw[ed,Zx]at h1
  have e:L o i=(vE o p.kids[i] (if p.op=4 then path++[(i:Int)]else path))>>=fun v15=>L v15 (i+1):=by
   rw[hL,iP hi,gQ hi]
   by_cases h4:p.op=4
   ·rw[iP h4,iP h4,ZDw path i (by omega)]
    grind
   ·grind
  have hpl:(if p.op=4 then path++[(i:Int)]else path).length<=path.length+1:=by split<;>simp
  rw[e,ih _ (gM hi) _ o (by omega) (by omega)]
  simp only[oE,oS]
  have t2:=ZEA p.kids[i] (if p.op=4 then path++[(i:Int)]else path)
  rw[ZIg hL ih hp m (i+1) _ (by omega) (by rw[zU];omega),ed]
  simp only[zX,Zp,zY]
theorem P.YBa (p:Pattern):∀(path:List Int) (o:List PathBind),path.length+p.wt<=67108863->o.length+(1+p.wt)<=67108864->vE o p path=some (o++p.bnd path):=by
 induction p using kH with
 |_ p ih=>
  intro path o h1 h2
  have hw:=p.wt_eq
  have key:=fun(L:List PathBind->Nat->Option (List PathBind)) hL o q1=>ZIg (p:=p) (path:=path) (L:=L) hL ih h1 _ 0 o rfl q1
  simp only[zV]at key
  rw[vE,ZEB]
  by_cases c2:p.op=2
  ·rw[iP c2,iP (by omega),iP (by omega),key (F.f98 p path) (fun o i=>by rw[F.f98]) _ (by simp;omega)]
   simp[c2]
  ·rw[iN c2]
   by_cases c6:p.op=6
   ·rw[iP c6,iP (by omega),iP (by omega),key (F.f96 p path) (fun o i=>by rw[F.f96]) _ (by simp;omega)]
    simp[c6]
   ·rw[iN c6,key (F.f97 p path) (fun o i=>by rw[F.f97]) _ (by omega)]
    simp[c2,c6]
theorem ZEn {w:List Data}{d:Nat}(op:Int)(path:List Int):∀(ts:List Ty) (ks:List Pattern) (j:Nat),ts.length=ks.length->(∀i (h:i<ts.length) (h':i<ks.length),∀path,(ks[i].bnd path).map PathBind.var=(ZN w d ts[i] ks[i]).map VarType.var)->
  (Zp op path j (ks.map Pattern.bnd)).map PathBind.var=((ts.zip ks).flatMap fun x=>ZN w d x.1 x.2).map VarType.var
 | [],[],j,_,_=>rfl
 | [],_::_,_,h,_=>by simp at h
 |_::_,[],_,h,_=>by simp at h
 |t::ts,k::ks,j,hl,h=>by
  have h0:=h 0 (by simp) (by simp) (if op=4 then path++[(j:Int)]else path)
  have h1:=ZEn op path ts ks (j+1) (by simpa using hl) fun i hi hi' path=>by have:=h (i+1) (by simpa using hi) (by simpa using hi') path;simpa using this
  rw[zX,Zp,yI,h1,yT,yB,yI]
  congr 1
theorem ZFh (w:List Data):∀(d:Nat) (t:Ty) (q:Pattern),ZFp w d t q->∀path,(q.bnd path).map PathBind.var=(ZN w d t q).map VarType.var
 |0,_,_,h,_=>h.elim
 |d+1,t,q,⟨h1,h5,hl,hk⟩,path=>by
  rw[ZEB,ZN,iN h5,zW (by simp;omega),yI,yI,ZEn (w:=w) (d:=d) q.op path (ZF w t q) q.kids 0 hl.symm fun i hi hi' path=>ZFh w d _ _ (hk i hi hi') path]
  grind
def ZAx (list v:List Pattern):List Pattern:=list.flatMap fun q=>v.map fun x=>⟨q.op,q.ctor,q.n,q.m,q.var,q.kids++[x]⟩
def Pattern.splits :Pattern->List Pattern
 |⟨op,ctor,n,m,var,kids⟩=>if op=5 then(kids.map fun k=>Pattern.splits k).flatten else(kids.map fun k=>Pattern.splits k).foldl ZAx [⟨op,ctor,n,m,var,[]⟩]
theorem ZBR (p:Pattern):p.splits=if p.op=5 then(p.kids.map Pattern.splits).flatten else(p.kids.map Pattern.splits).foldl ZAx [⟨p.op,p.ctor,p.n,p.m,p.var,[]⟩]:=by
 cases p;rw[Pattern.splits]
theorem ZE3 (list v:List Pattern):(ZAx list v).length=list.length*v.length:=by
 unfold ZAx
 induction list with
 |nil=>simp
 |cons q r ih=>rw[yB,zU,ih,yJ,yG,zK,zG,zR]
theorem ZGY :∀(vs:List (List Pattern)) (list:List Pattern),(vs.foldl ZAx list).length=list.length*ZAm (vs.map xT)
 | [],list=>by simp[ZAm]
 |v::vs,list=>by rw[yL,ZGY vs,ZE3,zX,ZAm,zI]
theorem ZAP (p:Pattern):p.splits.length=p.alts:=by
 induction p using kH with
 |_ p ih=>
  have e:(p.kids.map Pattern.splits).map xT=p.kids.map Pattern.alts:=by simp_all
  rw[ZBR,ZFk]
  by_cases h5:p.op=5
  ·grind
  ·rw[iN h5,iN h5,ZGY,e];simp
theorem ZD2 {G:Nat->Pattern->Prop}{p:Pattern}:∀(vs:List (List Pattern)) (i:Nat) (list:List Pattern) (hv:∀k (h:k<vs.length) x,x∈vs[k]->G (i+k) x)
  (hl:∀q,q∈list->q=⟨p.op,p.ctor,p.n,p.m,p.var,q.kids⟩/\q.kids.length=i/\∀k (h:k<q.kids.length),G k q.kids[k]) (q:Pattern) (hq:q∈vs.foldl ZAx list),
  q=⟨p.op,p.ctor,p.n,p.m,p.var,q.kids⟩/\q.kids.length=i+vs.length/\∀k (h:k<q.kids.length),G k q.kids[k]
 | [],i,list,hv,hl,q,hq=>hl q hq
 |v::vs,i,list,hv,hl,q,hq=>by
  rw[yL]at hq
  have:=ZD2 vs (i+1) (ZAx list v) (fun k h x hx=>by have:=hv (k+1) (by simpa using h) x (by simpa using hx);rw[show i+(k+1)=i+1+k by omega]at this;exact this) (fun q hq=>by
   obtain⟨q0,h0,hq⟩:=yQ.1 hq
   obtain⟨x,hx,rfl⟩:=zZ.1 hq
   obtain⟨e1,e2,e3⟩:=hl q0 h0
   have f1:q0.op=p.op:=by rw[e1]
   have f2:q0.ctor=p.ctor:=by rw[e1]
   have f3:q0.n=p.n:=by rw[e1]
   have f4:q0.m=p.m:=by rw[e1]
   have f5:q0.var=p.var:=by rw[e1]
   refine⟨?_,by simp[e2],fun k hk=> ?_⟩
   ·show(⟨q0.op,q0.ctor,q0.n,q0.m,q0.var,q0.kids++[x]⟩:Pattern)=⟨p.op,p.ctor,p.n,p.m,p.var,q0.kids++[x]⟩
    rw[f1,f2,f3,f4,f5]
   ·by_cases hk':k<q0.kids.length
    ·grind
    ·have:k=i:=by simp at hk;omega
     subst this
     show G k (q0.kids++[x])[k]
     rw[List.getElem_append_right (by omega)]
     have:=hv 0 (by simp) x (by simpa using hx)
     simpa[e2]using this) q hq
  grind
theorem P.YAK (p:Pattern)(list:List Pattern)(i:Nat)(v:List Pattern)(hq:∀q,q∈list->q.kids.length<=1048576)(hb:list.length*v.length<=60000000)(hll:list.length<=1048576):
  ∀(m k:Nat) (more:List Pattern),list.length-k=m->k<=list.length->more.length=k*v.length->uL p list i v more k=some (more++ZAx (list.drop k) v)
 |0,k,more,hm,hk,ho=>by
  rw[uL,iN (by omega),zT (by omega)]
  simp[ZAx]
 |m+1,k,more,hm,hk,ho=>by
  have hkl:k<list.length:=by omega
  have hmul:(k+1)*v.length<=list.length*v.length:=zC _ hkl
  rw[zK,zG]at hmul
  rw[uL,iP hkl,gQ hkl]
  simp only[oE,oS]
  rw[P.YAg p list i v k list[k] (hq _ (gM hkl)) _ 0 more rfl (by omega)]
  simp only[oS]
  rw[iP (by omega),P.YAK p list i v hq hb hll m (k+1) _ (by omega) (by omega) (by rw[zU,yJ,zV,ho,zK,zG]),zS hkl,zV]
  simp only[ZAx,yB,zY]
theorem P.YAT {w:List Data}:∀(d:Nat) (t:Ty) (p:Pattern),Zc w d t p->p.wt<=1048576->p.alts<=400->F.f182 p=some p.splits
 |0,_,_,h,_,_=>h.elim
 |d+1,t,p,⟨ho,hl,hk⟩,hw,ha=>by
  have hwk:∀i (h:i<p.kids.length),1+p.kids[i].wt<=p.wt:=fun i h=>by rw[p.wt_eq];exact Zf kG (gM h)
  have hkl:p.kids.length<=p.wt:=by rw[p.wt_eq];exact ZAN kG p.kids
  have hsh:∀i (h:i<p.kids.length),∃u,Zc w d u p.kids[i]:=fun i h=>⟨_,hk i (zB _) (by omega) (by omega) h⟩
  have hpos:∀x,x∈p.kids.map Pattern.alts->1<=x:=fun x hx=>by
   obtain⟨k,hk2,rfl⟩:=zZ.1 hx
   obtain⟨i,hi,rfl⟩:=yD hk2
   obtain⟨u,hu⟩:=hsh i hi
   exact ZFj hu
  have e:=ZFk p
  rw[F.f182,ZBR]
  by_cases h5:p.op=5
  ·rw[iP h5]at e ⊢
   rw[iP h5]
   have e5:=Zr ho h5
   have h2:p.kids.length=2:=by rw[hl,e5];rfl
   have e2:p.kids=[p.kids[0]'(by omega),p.kids[1]'(by omega)]:=ZCX h2
   have es:p.alts=(p.kids[0]'(by omega)).alts+(p.kids[1]'(by omega)).alts:=by grind
   obtain⟨u0,s0⟩:=hsh 0 (by omega)
   obtain⟨u1,s1⟩:=hsh 1 (by omega)
   have w0:=hwk 0 (by omega)
   have w1:=hwk 1 (by omega)
   have ea:=P.YAT d u0 _ s0 (by omega) (by omega)
   have eb:=P.YAT d u1 _ s1 (by omega) (by omega)
   have la:=ZAP (p.kids[0]'(by omega))
   have lb:=ZAP (p.kids[1]'(by omega))
   have es2:(p.kids.map Pattern.splits).flatten=(p.kids[0]'(by omega)).splits++(p.kids[1]'(by omega)).splits:=by grind
   rw[gQ (by omega),gQ (by omega)]
   simp only[oE,oS]
   grind
  ·rw[iN h5]at e ⊢
   rw[iN h5]
   have key:∀(m i:Nat) (list:List Pattern),p.kids.length-i=m->i<=p.kids.length->list.length=ZAm ((p.kids.map Pattern.alts).take i)->(∀q,q∈list->q.kids.length=i)->
     uK p list i=some (((p.kids.map Pattern.splits).drop i).foldl ZAx list):=by
    intro m
    induction m with
    |zero=>
     intro i list hm hi hlen hq
     rw[uK,iN (by omega),zT (by simp;omega)]
     rfl
    |succ m ihm=>
     intro i list hm hi hlen hq
     have hik:i<p.kids.length:=by omega
     obtain⟨u,hu⟩:=hsh i hik
     have hm1:p.kids[i].alts<=ZAm (p.kids.map Pattern.alts):=ZKW hpos (zZ.2 ⟨_,gM hik,rfl⟩)
     have hm2:=ZEg hpos i
     have hwi:=hwk i hik
     have ev:=P.YAT d u _ hu (by omega) (by omega)
     have lv:=ZAP p.kids[i]
     have hts:(p.kids.map Pattern.alts).take (i+1)=(p.kids.map Pattern.alts).take i++[p.kids[i].alts]:=by
      rw[yV (by simpa using hik)];simp
     have hprod:list.length*p.kids[i].splits.length=ZAm ((p.kids.map Pattern.alts).take (i+1)):=by rw[hts,ZJG,hlen,lv]
     have hm3:=ZEg hpos (i+1)
     have el:=P.YAK p list i p.kids[i].splits (fun q h=>by rw[hq q h];omega) (by rw[hprod];omega) (by omega) _ 0 [] rfl (zB _) (by simp)
     rw[yE,zV]at el
     rw[uK,iP hik,gQ hik]
     simp only[oE,oS]
     rw[ev]
     simp only[oS]
     rw[el]
     simp only[oS]
     rw[iP (by omega),ihm (i+1) _ (by omega) (by omega) (by rw[ZE3,hprod]) fun q h=>by
      obtain⟨q0,h0,h⟩:=yQ.1 h
      obtain⟨x,_,rfl⟩:=zZ.1 h
      simp[hq q0 h0]]
     rw[zS (show i<(p.kids.map Pattern.splits).length by simpa using hik),yL,yR]
   have k0:=key _ 0 [⟨p.op,p.ctor,p.n,p.m,p.var,[]⟩] rfl (zB _) (by simp[ZAm]) (fun q h=>by rw[yO.1 h];rfl)
   grind
theorem ZIE {f:Ty×Pattern->List VarType}:∀(ts:List Ty) (qs ks:List Pattern),qs.length=ts.length->ks.length=ts.length->(∀i (h:i<ts.length) (h1:i<qs.length) (h2:i<ks.length),((f (ts[i],qs[i])).map VarType.var).Perm ((f (ts[i],ks[i])).map VarType.var))->
  (((ts.zip qs).flatMap f).map VarType.var).Perm (((ts.zip ks).flatMap f).map VarType.var)
 | [],_,_,_,_,_=>by simp
 |t::ts,[],_,h,_,_=>by simp at h
 |t::ts,_::_,[],_,h,_=>by simp at h
 |t::ts,q::qs,k::ks,h1,h2,h=>by
  have h0:=h 0 (by simp) (by simp) (by simp)
  have hr:=ZIE ts qs ks (by simpa using h1) (by simpa using h2) fun i a b c=>by have:=h (i+1) (by simpa using a) (by simpa using b) (by simpa using c);simpa using this
  rw[yT,yT,yB,yB,yI,yI]
  grind
theorem ZEa {a b:List VarType}(ha:ZGG a)(h:ZHB a b):(a.map VarType.var).Perm (b.map VarType.var):=by
 obtain⟨hl,hs⟩:=h
 have sub:∀l l':List VarType,l.length=l'.length->l.Nodup->(∀x,x∈l->x∈l')->l.Perm l':=by
  intro l
  induction l with
  |nil=>intro l' h _ _;rw[xG (l:=l') (by simpa using h.symm)]
  |cons x r ih=>
   intro l' h hn hs
   obtain⟨s,t,rfl⟩:=xM (hs x (yH ..))
   rw[yU]at hn
   refine((ih (s++t) (by simp at h ⊢;omega) hn.2 fun y hy=> ?_).cons x).trans xO.symm
   grind
 have hn:a.Nodup:=by
  unfold ZGG at ha
  exact List.Pairwise.of_map VarType.var (fun a b h e=>h (congrArg _ e)) ha
 grind
theorem ZMv {f g:Ty×Pattern->List VarType}:∀(ts:List Ty) (ks:List Pattern),ks.length=ts.length->(∀i (h:i<ts.length) (h2:i<ks.length),f (ts[i],ks[i])=g (ts[i],ks[i]))->(ts.zip ks).flatMap f=(ts.zip ks).flatMap g
 | [],_,_,_=>by simp
 |t::ts,[],h,_=>by simp at h
 |t::ts,k::ks,h2,h=>by
  have h0:=h 0 (by simp) (by simp)
  have hr:=ZMv ts ks (by simpa using h2) fun i a c=>by have:=h (i+1) (by simpa using a) (by simpa using c);simpa using this
  simp_all
theorem ZA8 {w:List Data}:∀(d:Nat) (t:Ty) (q:Pattern),ZFp w d t q->ZN w (d+1) t q=ZN w d t q
 |0,_,_,h=>h.elim
 |d+1,t,q,⟨h1,h5,hl,hk⟩=>by
  rw[ZN,ZN,iN h5,zW (by simp;omega)]
  congr 1
  exact ZMv _ _ hl fun i h h2=>ZA8 d _ _ (hk i h h2)
theorem ZAV {w:List Data}:∀(d:Nat) (t:Ty) (p:Pattern),Zc w d t p->ZFK w d t p->∀q,q∈p.splits->ZFp w d t q/\((ZN w d t q).map VarType.var).Perm ((ZN w d t p).map VarType.var)/\q.wt<=p.wt
 |0,_,_,h,_,_,_=>h.elim
 |d+1,t,p,⟨ho,hl,hk⟩,⟨hlk,hlin⟩,q,hq=>by
  have hwk:∀i (h:i<p.kids.length),1+p.kids[i].wt<=p.wt:=fun i h=>by rw[p.wt_eq];exact Zf kG (gM h)
  have ih:∀i (h:i<(ZF w t p).length) (h':i<p.kids.length) q,q∈p.kids[i].splits->ZFp w d (ZF w t p)[i] q/\((ZN w d (ZF w t p)[i] q).map VarType.var).Perm ((ZN w d (ZF w t p)[i] p.kids[i]).map VarType.var)/\q.wt<=p.kids[i].wt:=
   fun i h h' q hq=>ZAV d _ _ (hk i (zB _) h h h') (hlk i (zB _) h h h') q hq
  rw[ZBR]at hq
  by_cases h5:p.op=5
  ·rw[iP h5]at hq hlin
   have et:=Zr ho h5
   have h2:p.kids.length=2:=by rw[hl,et];rfl
   have ev:=ZCT (d:=d) ho h5 (by omega)
   have es2:(p.kids.map Pattern.splits).flatten=(p.kids[0]'(by omega)).splits++(p.kids[1]'(by omega)).splits:=by
    have e9:(([p.kids[0]'(by omega),p.kids[1]'(by omega)]:List Pattern).map Pattern.splits).flatten=(p.kids[0]'(by omega)).splits++(p.kids[1]'(by omega)).splits:=by simp
    rw[←ZCX h2]at e9;exact e9
   rw[es2]at hq
   have hall:∀x,x∈ZF w t p->x=t:=by rw[et];simp
   have t0:∀i (h:i<(ZF w t p).length),(ZF w t p)[i]=t:=fun i h=>hall _ (gM h)
   have i0:=ih 0 (by omega) (by omega)
   have i1:=ih 1 (by omega) (by omega)
   have s0:=hk 0 (zB _) (by omega) (by omega) (by omega)
   have l0:=hlk 0 (zB _) (by omega) (by omega) (by omega)
   have s1:=hk 1 (zB _) (by omega) (by omega) (by omega)
   have l1:=hlk 1 (zB _) (by omega) (by omega) (by omega)
   rw[t0]at i0 i1 s0 l0 s1 l1
   have w0:=hwk 0 (by omega)
   have w1:=hwk 1 (by omega)
   rcases yA.1 hq with hq|hq
   ·obtain⟨a1,a2,a3⟩:=i0 q hq
    exact⟨ZDd a1,by rw[ZA8 d t q a1,ev];exact a2,by omega⟩
   ·obtain⟨a1,a2,a3⟩:=i1 q hq
    refine⟨ZDd a1,?_,by omega⟩
    rw[ZA8 d t q a1,ev]
    exact a2.trans (ZEa (ZAc s0 l0) (hlin (by omega) (by omega))).symm
  ·rw[iN h5]at hq
   obtain⟨e1,e2,e3⟩:=ZD2 (G:=fun k x=>∀h:k<p.kids.length,x∈p.kids[k].splits) (p:=p) _ 0 _ (fun k h x hx h'=>by
    have e:(0+k)=k:=zE k
    simp only[yR]at hx
    simpa only[e]using hx) (fun q hq=>by rw[yO.1 hq];exact⟨rfl,rfl,fun k h=>absurd h (by simp)⟩) q hq
   rw[yJ,zE]at e2
   have eo:q.op=p.op:=by rw[e1]
   have ec:q.ctor=p.ctor:=by rw[e1]
   have en:q.n=p.n:=by rw[e1]
   have em:q.m=p.m:=by rw[e1]
   have ew:q.var=p.var:=by rw[e1]
   have ety:ZF w t q=ZF w t p:=by unfold ZF;rw[eo,ec]
   have eow:ZA0 w t q:=by unfold ZA0 at ho ⊢;rw[eo,ec,en,em,ew];exact ho
   have ihq:∀i (h:i<(ZF w t p).length) (h1:i<q.kids.length) (h':i<p.kids.length),ZFp w d (ZF w t p)[i] q.kids[i]/\((ZN w d (ZF w t p)[i] q.kids[i]).map VarType.var).Perm ((ZN w d (ZF w t p)[i] p.kids[i]).map VarType.var)/\q.kids[i].wt<=p.kids[i].wt:=
    fun i h h1 h'=>ih i h h' _ (e3 i h1 h')
   refine⟨⟨eow,by omega,by rw[ety];omega,fun i h h'=> ?_⟩,?_,?_⟩
   ·grind
   ·have vp:ZN w (d+1) t p=(if p.op=2∨p.op=6 then[⟨p.var,t⟩]else[])++((ZF w t p).zip p.kids).flatMap fun x=>ZN w d x.1 x.2:=by
     rw[ZN,iN h5,zW (by rw[xB];omega)]
    have vq:ZN w (d+1) t q=(if p.op=2∨p.op=6 then[⟨p.var,t⟩]else[])++((ZF w t p).zip q.kids).flatMap fun x=>ZN w d x.1 x.2:=by
     rw[ZN,iN (show ¬q.op=5 by omega),zW (by rw[xB];omega),ety,eo,ew]
    rw[vp,vq,yI,yI]
    exact(ZIE _ _ _ (by omega) hl fun i h h1 h2=>(ihq i h h1 h2).2.1).append_left _
   ·rw[q.wt_eq,p.wt_eq]
    exact ZJ5 (by omega) fun i h h'=>(ihq i (by omega) h h').2.2
theorem ZFw (h1:Zc w d t p)(h2:ZFK w d t p){q:Pattern}(hq:q∈p.splits)(path:List Int):((q.bnd path).map PathBind.var).Nodup:=by
 obtain⟨s1,s2,_⟩:=ZAV d t p h1 h2 q hq
 rw[ZFh w d t q s1 path]
 exact s2.nodup_iff.2 (ZAc h1 h2)
/-! The reference cuts a pattern's choices off at 401. -/
theorem ZBM (n:Nat)(a b:List α):((a.take n)++b).take n=(a++b).take n:=by
 rw[yM,yM,xH,Nat.min_self]
 grind
theorem P.YA1 {lists:List (List Pattern)}{i:Nat}(hi:i<lists.length){out:List (List Pattern)}{k:Nat}(hk:k<out.length)(hR:out[k].length<=1048576)(hx:lists[i].length<=401):
  ∀(m j:Nat) (next:List (List Pattern)),lists[i].length-j=m->next.length<=401->F.f85 lists out i k next j=some ((next++(lists[i].drop j).map fun x=>out[k]++[x]).take 401)
 |m,j,next,hm,hn=>by
  rw[F.f85,gQ hi]
  simp only[oE,oS]
  by_cases hj:j<lists[i].length
  ·rw[iP hj]
   by_cases h4:next.length<=400
   ·rw[iP h4,gQ hk]
    simp only[oS]
    rw[iP (by omega),gQ hj]
    simp only[oS]
    rw[iP (by omega),iP (by omega),iP (by omega)]
    match m,hm with
    |0,hm=>omega
    |m+1,hm=>
     rw[P.YA1 hi hk hR hx m (j+1) _ (by omega) (by simp;omega),zS hj,zX,zY]
     rfl
   ·grind
  ·rw[iN hj,zT (by omega),xF,xC,zW (by omega)]
def addT (out:List (List Pattern))(v:List Pattern):List (List Pattern):=out.flatMap fun x=>v.map fun y=>x++[y]
theorem P.YA2 {lists:List (List Pattern)}{i:Nat}(hi:i<lists.length){out:List (List Pattern)}(ho:out.length<=401)(hR:∀x,x∈out->x.length<=1048576)(hx:lists[i].length<=401):
  ∀(m k:Nat) (next:List (List Pattern)),out.length-k=m->next.length<=401->F.f86 lists out i next k=some ((next++addT (out.drop k) lists[i]).take 401)
 |m,k,next,hm,hn=>by
  rw[F.f86]
  by_cases hk:k<out.length
  ·rw[iP hk]
   by_cases h4:next.length<=400
   ·rw[iP h4,P.YA1 hi hk (hR _ (gM hk)) hx _ 0 next rfl hn]
    simp only[oE,oS]
    rw[iP (by omega)]
    match m,hm with
    |0,hm=>omega
    |m+1,hm=>
     rw[P.YA2 hi ho hR hx m (k+1) _ (by omega) (by rw[yN];omega),ZBM,zV,zS hk]
     simp only[addT,yB,zY]
   ·grind
  ·rw[iN hk,zT (by omega)]
   simp only[addT,List.flatMap_nil,xC]
   rw[zW (by omega)]
theorem ZFt {f:α->List β}(hf:∀x,f x≠[])(n:Nat):∀l:List α,((l.take n).flatMap f).take n=(l.flatMap f).take n:=by
 have key:∀(l:List α) (n m:Nat),m<=n->((l.take n).flatMap f).take m=(l.flatMap f).take m:=by
  intro l
  induction l with
  |nil=>intro n m _;simp
  |cons x r ih=>
   intro n m hm
   cases n with
   |zero=>grind
   |succ n=>
    rw[xE,yB,yB,yM,yM,ih n (m- (f x).length) (by have:=List.length_pos_iff.2 (hf x);omega)]
 grind
theorem ZEY {α β γ:Type}(g:α->β->γ)(n:Nat)(v:List β):∀(l:List α) (m:Nat),m<=n->(l.flatMap fun x=>(v.take n).map (g x)).take m=(l.flatMap fun x=>v.map (g x)).take m
 | [],m,_=>by simp
 |x::r,m,hm=>by
  rw[yB,yB,yM,yM,yJ,yJ,yN,←xR,←xR,xH,zF hm]
  by_cases h:v.length<=n
  ·rw[zH h,ZEY g n v r _ (by omega)]
  ·rw[show m-min n v.length=0 by omega,show m-v.length=0 by omega]
   simp
theorem ZLQ {v:List Pattern}(hv:v≠[])(out:List (List Pattern)):(addT (out.take 401) (v.take 401)).take 401=(addT out v).take 401:=by
 unfold addT
 rw[ZEY (fun(x:List Pattern) y=>x++[y]) 401 v _ 401 (zA _),ZFt (fun x h=>hv (List.map_eq_nil_iff.1 h))]
theorem P.YA3 {Ls:List (List Pattern)}(hb:Ls.length<=1048576)(hne:∀L,L∈Ls->L≠[]):
  ∀(m i:Nat) (out:List (List Pattern)),Ls.length-i=m->(∀x,x∈out->x.length=i)->i<=Ls.length->F.f87 (Ls.map fun L=>L.take 401) (out.take 401) i=some (((Ls.drop i).foldl addT out).take 401)
 |m,i,out,hm,hR,hi=>by
  rw[F.f87]
  by_cases h:i<Ls.length
  ·have h':i<(Ls.map fun L=>L.take 401).length:=by simpa using h
   have ei:(Ls.map fun L=>L.take 401)[i]=Ls[i].take 401:=yR ..
   rw[iP h',P.YA2 h' (by rw[yN];omega) (fun x hx=>by rw[hR x (List.mem_of_mem_take hx)];omega) (by rw[ei,yN];omega) _ 0 [] rfl (by simp)]
   simp only[oE,oS,yE,zV]
   rw[iP (by omega),ei,ZLQ (hne _ (gM h))]
   match m,hm with
   |0,hm=>omega
   |m+1,hm=>
    rw[P.YA3 hb hne m (i+1) _ (by omega) (fun x hx=>by
     obtain⟨y,hy,hx⟩:=yQ.1 hx
     obtain⟨z,_,rfl⟩:=zZ.1 hx
     simp[hR y hy]) (by omega),zS h,yL]
  ·grind
theorem ZEq (mk:List Pattern->Pattern)(hmk:∀q,mk q=⟨(mk q).op,(mk q).ctor,(mk q).n,(mk q).m,(mk q).var,q⟩)(hmk2:∀a b,(⟨(mk a).op,(mk a).ctor,(mk a).n,(mk a).m,(mk a).var,b⟩:Pattern)=mk b)(hk:∀a,(mk a).kids=a):
  ∀(Ls:List (List Pattern)) (out:List (List Pattern)),Ls.foldl ZAx (out.map mk)=(Ls.foldl addT out).map mk
 | [],out=>rfl
 |L::Ls,out=>by
  have e:ZAx (out.map mk) L=(addT out L).map mk:=by
   unfold ZAx addT
   rw[List.flatMap_map,List.map_flatMap]
   refine congrArg (fun f=>out.flatMap f) (funext fun x=> ?_)
   simp_all
  rw[yL,yL,e,ZEq mk hmk hmk2 hk Ls]
theorem P.YAL (p:Pattern)(h:∀i (h:i<p.kids.length),F.f90 p.kids[i]=some (p.kids[i].splits.take 401))(hk:p.kids.length<=67108863):
  ∀(m i:Nat) (out:List (List Pattern)),p.kids.length-i=m->out.length=i->uY p out i=some (out++(p.kids.drop i).map fun k=>k.splits.take 401)
 |0,i,out,hm,ho=>by rw[uY,iN (by omega),zT (by omega)];simp
 |m+1,i,out,hm,ho=>by
  have hi':i<p.kids.length:=by omega
  rw[uY,iP hi',gQ hi']
  simp only[oE,oS]
  rw[h i hi']
  simp only[oS]
  rw[iP (by omega),P.YAL p h hk m (i+1) _ (by omega) (by simp[ho]),zS hi',zX,zY]
  rfl
end Go.Vl
set_option maxRecDepth 100000
namespace Go.Vl
open Go Go.RowKit
open F renaming f126->kI,f226->kJ,f90->kK,f225->kL,f206->kM,f118->kN,f218->kO,f215->kP,f197->kQ,f195->kR,f194->kS,f184->kT,f125->kU,f123->kV,f117->kW,f114->kX,f107->kY,f105->kZ
open Go.IntKind (i64)
theorem P.Yt (w:List Data):∀(d:Nat) (t:Ty) (p:Pattern),Zc w d t p->p.wt<=1048576->kK p=some (p.splits.take 401)
 |0,_,_,h,_=>h.elim
 |d+1,t,p,⟨h1,h2,h3⟩,hw=>by
  have hwk:∀i (h:i<p.kids.length),1+p.kids[i].wt<=p.wt:=fun i h=>by rw[p.wt_eq];exact Zf Pattern.wt (gM h)
  have hkl:p.kids.length<=p.wt:=by rw[p.wt_eq];exact ZAN Pattern.wt p.kids
  have hsh:∀i (h:i<p.kids.length),∃u,Zc w d u p.kids[i]:=fun i h=>⟨_,h3 i (zB _) (by omega) (by omega) h⟩
  have ih:∀i (h':i<p.kids.length),kK p.kids[i]=some (p.kids[i].splits.take 401):=fun i h'=>by
   obtain⟨u,hu⟩:=hsh i h'
   exact P.Yt w d _ _ hu (by have:=hwk i h';omega)
  rw[kK,ZBR]
  by_cases h5:p.op=5
  ·have ht:ZF w t p=[t,t]:=Zr h1 h5
   have k2:p.kids.length=2:=by rw[h2,ht];rfl
   have es2:(p.kids.map Pattern.splits).flatten=(p.kids[0]'(by omega)).splits++(p.kids[1]'(by omega)).splits:=by
    have e9:(([p.kids[0]'(by omega),p.kids[1]'(by omega)]:List Pattern).map Pattern.splits).flatten=(p.kids[0]'(by omega)).splits++(p.kids[1]'(by omega)).splits:=by simp
    rw[←ZCX k2]at e9;exact e9
   rw[iP h5,iP h5,es2,gQ (by omega),gQ (by omega)]
   simp only[oE,oS]
   rw[ih 0 (by omega),ih 1 (by omega)]
   simp only[oS]
   generalize(p.kids[0]'(by omega)).splits=a
   generalize(p.kids[1]'(by omega)).splits=b
   have e:((a.take 401)++(b.take 401)).take 401=(a++b).take 401:=by
    rw[ZBM,yM,yM,xH]
    grind
   have l1:(a.take 401).length<=401:=by rw[yN];omega
   have l2:(b.take 401).length<=401:=by rw[yN];omega
   rw[iP (by omega)]
   by_cases hc:401<(a.take 401++b.take 401).length
   ·grind
   ·have e2:(a.take 401++b.take 401).take 401=a.take 401++b.take 401:=zW (by omega)
    rw[iN hc,←e,e2]
  ·have key:=P.YAL p ih (by omega) _ 0 [] rfl rfl
   rw[zV,yE]at key
   have hne:∀L,L∈p.kids.map Pattern.splits->L≠[]:=fun L hL hn=>by
    obtain⟨k,hk,rfl⟩:=zZ.1 hL
    obtain⟨i,hi,rfl⟩:=xD.1 hk
    obtain⟨u,hu⟩:=hsh i hi
    have l1:=ZAP p.kids[i]
    have l2:=ZFj hu
    grind
   have t1:=P.YA3 (Ls:=p.kids.map Pattern.splits) (by simp;omega) hne _ 0 [[]] rfl (by simp) (zB _)
   rw[xS,zV]at t1
   rw[iN h5,iN h5,key]
   simp only[oE,oS]
   unfold F.f88
   rw[show F.f87 (p.kids.map fun k=>k.splits.take 401) [[]] 0=some (((p.kids.map Pattern.splits).foldl addT [[]]).take 401)from t1]
   simp only[oE,oS]
   rw[P.YBN p _ _ 0 [] rfl (by rw[yN,yF];omega),zV,yE]
   have e:=ZEq (fun ks=>⟨p.op,p.ctor,p.n,p.m,p.var,ks⟩) (fun q=>rfl) (fun a b=>rfl) (fun a=>rfl) (p.kids.map Pattern.splits) [[]]
   simp_all
/-! The code of clauses. -/
theorem ZDQ {α:Type}{f:α->α}{L:List α->Nat->Option (List α)}{n:Nat}(hL:∀out k,out.length=n->L out k=if h:k<out.length then L (out.set k (f out[k])) (k+1)else some out):
  ∀(m k:Nat) (out:List α),out.length=n->out.length-k=m->k<=out.length->L out k=some (out.take k++(out.drop k).map f)
 |0,k,out,hn,hm,hk=>by
  rw[hL out k hn,dif_neg (by omega),zT (by omega),zW (by omega)]
  simp
 |m+1,k,out,hn,hm,hk=>by
  have hk':k<out.length:=by omega
  rw[hL out k hn,dif_pos hk',ZDQ hL m (k+1) _ (by simpa using hn) (by simp;omega) (by simp;omega)]
  have e1:(out.set k (f out[k])).take (k+1)=out.take k++[f out[k]]:=by
   rw[yV (by simpa using hk'),List.take_set_of_le (zA _)]
   simp
  have e2:(out.set k (f out[k])).drop (k+1)=out.drop (k+1):=List.drop_set_of_lt (by omega)
  rw[e1,e2,zS hk',zX]
  simp
def ZNH (i:Nat)(q:Pattern)(e:Int):Step:=⟨2,[],0,0,0,(i:Int),sortI (fun x=>x.var) (q.bnd []),e⟩
def toS (e:Int)(s:Step):Step:=⟨s.op,s.path,s.ctor,s.n,s.m,s.clause,s.binds,e⟩
def Zk (g:Nat->Int)(i:Nat):Nat->List Pattern->List Step
 |_,[]=>[]
 |n,q::r=>((q.tst []).map (toS ((n+(q.tst []).length+1:Nat):Int))++[ZNH i q (g (n+(q.tst []).length+1))])++Zk g i (n+(q.tst []).length+1) r
theorem ZBj (g g':Nat->Int)(i:Nat):∀(qs:List Pattern) (n:Nat),(Zk g i n qs).length=(Zk g' i n qs).length
 | [],n=>rfl
 |q::r,n=>by simp only[Zk,zU,ZBj g g' i r];simp
theorem ZGN {β:Type}{R:β->Prop}(op:Int)(g:Pattern->List Int->List β)(path:List Int):∀(l:List Pattern) (h:∀k,k∈l->∀path s,s∈g k path->R s) (i:Nat) (s:β),s∈Zp op path i (l.map g)->R s
 | [],h,i,s,hs=>by simp[Zp]at hs
 |k::r,h,i,s,hs=>by
  rw[zX,Zp,yA]at hs
  rcases hs with hs|hs
  ·grind
  ·exact ZGN op g path r (fun k hk=>h k (yC _ hk)) (i+1) s hs
theorem ZO7 (p:Pattern):∀path s,s∈p.tst path->s.op=1:=by
 induction p using Pattern.ind with
 |_ p ih=>
  intro path s hs
  rw[ZFr,yA]at hs
  rcases hs with hs|hs
  ·grind
  ·exact ZGN p.op Pattern.tst path p.kids ih 0 s hs
theorem P.Yx (v4:List (List Pattern)×Bool)(out:List Step)(i:Nat)(x:List Pattern)(hx:∀q,q∈x->q.wt<=900/\((q.bnd []).map PathBind.var).Nodup)(hxl:x.length<=1000):
  ∀(m j:Nat) (o:List Step),x.length-j=m->o.length+m*1000<=67108000->kR v4 out i x o j=some (o++Zk (fun _=>0) i o.length (x.drop j))
 |0,j,o,hm,hb=>by
  rw[kR,iN (by omega),zT (by omega)]
  simp[Zk]
 |m+1,j,o,hm,hb=>by
  have hj:j<x.length:=by omega
  obtain⟨w1,n1⟩:=hx _ (gM hj)
  have t1:=ZDY x[j] []
  have b1:=ZEA x[j] []
  rw[kR,iP hj,gQ hj]
  simp only[oE,oS]
  rw[P.YAr x[j] [] o [] (by simp;omega) (by omega) (by simp;omega)]
  simp only[oS,yE]
  unfold F.f193
  rw[iP ⟨n1,by omega⟩]
  simp only[oS]
  have hl:(o++x[j].tst []).length=o.length+(x[j].tst []).length:=zU
  have key:=ZDQ (f:=toS ((o.length+(x[j].tst []).length+1:Nat):Int)) (n:=o.length+(x[j].tst []).length) (L:=fun a k=>kS v4 out i x j (sortI (fun x=>x.var) (x[j].bnd [])) a k)
   (fun a k ha=>by
    show kS v4 out i x j _ a k=_
    rw[kS]
    by_cases hk:k<a.length
    ·rw[iP hk,dif_pos hk,iP (by omega),gQ hk]
     simp only[oE,oS]
     rw[ha]
     rfl
    ·rw[iN hk,dif_neg hk]) _ o.length (o++x[j].tst []) hl rfl (by omega)
  rw[key,xI,yX]
  simp only[oS]
  rw[iP (by simp;omega),iP (by omega),P.Yx v4 out i x hx hxl m (j+1) _ (by omega) (by simp;omega),zS hj]
  have el:(o++(x[j].tst []).map (toS ((o.length+(x[j].tst []).length+1:Nat):Int))++[(⟨2,[],0,0,0,(i:Int),sortI (fun x=>x.var) (x[j].bnd []),0⟩:Step)]).length=o.length+(x[j].tst []).length+1:=by simp;omega
  rw[el,Zk]
  simp only[ZNH,zY]
theorem ZEk {α:Type}:∀l l':List α,l.Nodup->l'.Nodup->(∀x,x∈l↔x∈l')->l.Perm l'
 | [],l',_,_,h=>by
  cases l' with
  |nil=>exact .refl _
  |cons a r=>exact absurd ((h a).2 (yH ..)) (by simp)
 |x::r,l',hn,hn',h=>by
  obtain⟨s,t,rfl⟩:=xM ((h x).1 (yH ..))
  rw[yU]at hn
  have hp:(s++x::t).Perm (x::(s++t)):=xO
  have hn2:=hp.nodup_iff.1 hn'
  rw[yU]at hn2
  refine((ZEk r (s++t) hn.2 hn2.2 fun y=> ?_).cons x).trans hp.symm
  grind
def ZD9 (l:List PathBind)(n m:Nat):List PathBind:=(List.range' n m).flatMap fun(k:Nat)=>l.filter fun b=>decide (b.var=(k:Int))
variable {l:List PathBind}
theorem ZGq {n m:Nat}{x:PathBind}:x∈ZD9 l n m↔x∈l/\(n:Int)<=x.var/\x.var<(n+m:Nat):=by
 unfold ZD9
 simp only[yQ,xQ,decide_eq_true_eq,List.mem_range'_1]
 constructor
 ·grind
 ·rintro⟨hx,h1,h2⟩
  exact⟨x.var.toNat,by omega,hx,by omega⟩
theorem ZMV (h:(l.map PathBind.var).Nodup)(n:Int):(l.filter fun b=>decide (b.var=n)).Pairwise fun x y=>x.var<y.var:=by
 induction l with
 |nil=>simp
 |cons b r ih=>
  rw[zX,yU]at h
  by_cases e:b.var=n
  all_goals simp_all
theorem ZFg {l:List PathBind}(h:(l.map PathBind.var).Nodup):∀m n,(ZD9 l n m).Pairwise fun x y=>x.var<y.var
 |0,n=>by simp[ZD9]
 |m+1,n=>by
  have ih:=ZFg h m (n+1)
  have e:ZD9 l n (m+1)=(l.filter fun b=>decide (b.var=(n:Int)))++ZD9 l (n+1) m:=by
   unfold ZD9;rw[xN,yB]
  rw[e,List.pairwise_append]
  refine⟨ZMV h _,ih,fun a ha b hb=> ?_⟩
  have h1:=(xQ.1 ha).2
  have h2:=(ZGq.1 hb).2.1
  grind
theorem ZJn (h:(l.map PathBind.var).Nodup)(hv:∀b,b∈l->0<=b.var/\b.var<=5):ZD9 l 0 6=sortI (fun x=>x.var) l:=by
 have nd:∀l:List PathBind,l.Pairwise (fun x y=>x.var<y.var)->l.Nodup:=fun l h=>h.imp fun{a b} hab e=>by subst e;omega
 refine ZHX (key:=fun x=>x.var) _ _ (ZEk _ _ (nd _ (ZFg h 6 0)) (nd _ (ZDO l h)) fun x=> ?_) (ZFg h 6 0) (ZDO l h)
 rw[ZGq,ZCJ]
 grind
theorem P.YBo (list:List PathBind)(n:Nat)(hp:∀b,b∈list->b.path.length<=67108864):∀(m i:Nat) (out:List PathBind),list.length-i=m->out.length+m<=67108864->F.f99 list n out i=some (out++(list.drop i).filter fun b=>decide (b.var=(n:Int)))
 |0,i,out,hm,hb=>by rw[F.f99,iN (by omega),zT (by omega)];simp
 |m+1,i,out,hm,hb=>by
  have hi:i<list.length:=by omega
  rw[F.f99,iP hi,gQ hi,zS hi,List.filter_cons]
  simp only[oE,oS]
  by_cases e:list[i].var=(n:Int)
  ·rw[iP e,iP (hp _ (gM hi)),iP (by omega),iP (by simpa using e),P.YBo list n hp m (i+1) _ (by omega) (by simp;omega),←e,zY]
   rfl
  ·rw[iN e,iN (by simpa using e),P.YBo list n hp m (i+1) _ (by omega) (by omega)]
theorem P.YBw (list:List PathBind)(hp:∀b,b∈list->b.path.length<=67108864)(hl:list.length<=1048576):∀(m n:Nat) (out:List PathBind),6-n=m->n<=6->out.length+m*1048576<=67108864->F.f100 list out n=some (out++ZD9 list n m)
 |0,n,out,hm,hn,hb=>by rw[F.f100,iN (by omega)];simp[ZD9]
 |m+1,n,out,hm,hn,hb=>by
  have hf:(list.filter fun b=>decide (b.var=(n:Int))).length<=list.length:=List.length_filter_le ..
  rw[F.f100,iP (by omega),P.YBo list n hp _ 0 out rfl (by omega)]
  simp only[oE,oS,zV]
  rw[iP (by omega),P.YBw list hp hl m (n+1) _ (by omega) (by omega) (by rw[zU];omega)]
  unfold ZD9
  rw[xN,yB,zY]
theorem P.YAq (list:List PathBind)(hp:∀b,b∈list->b.path.length<=67108864)(hl:list.length<=1048576)(h:(list.map PathBind.var).Nodup)(hv:∀b,b∈list->0<=b.var/\b.var<=5):F.f101 list=some (sortI (fun x=>x.var) list):=by
 unfold F.f101
 rw[P.YBw list hp hl 6 0 [] rfl (by omega) (by simp),ZJn h hv]
 rfl
theorem ZDy {β:Type}(op:Int)(g:Pattern->List Int->List β)(path:List Int):∀(l:List Pattern) (i:Nat) (s:β),s∈Zp op path i (l.map g)->∃k,k∈l/\∃path',path'.length<=path.length+1/\s∈g k path'
 | [],i,s,hs=>by simp[Zp]at hs
 |k::r,i,s,hs=>by
  rw[zX,Zp,yA]at hs
  rcases hs with hs|hs
  ·grind
  ·obtain⟨k',h1,h2⟩:=ZDy op g path r (i+1) s hs
   grind
theorem ZMi (p:Pattern):∀path b,b∈p.bnd path->b.path.length<=path.length+p.wt:=by
 induction p using Pattern.ind with
 |_ p ih=>
  intro path b hb
  rw[ZEB,yA]at hb
  rcases hb with hb|hb
  ·grind
  ·obtain⟨k,hk,path',hp,hb⟩:=ZDy p.op Pattern.bnd path p.kids 0 b hb
   have h1:=ih k hk path' b hb
   have h2:1+k.wt<=p.wt:=by rw[p.wt_eq];exact Zf Pattern.wt hk
   omega
theorem ZLK {w:List Data}:∀(d:Nat) (t:Ty) (p:Pattern),ZFp w d t p->∀path b,b∈p.bnd path->0<=b.var/\b.var<=5
 |0,_,_,h,_,_,_=>h.elim
 |d+1,t,p,⟨h1,h5,hl,hk⟩,path,b,hb=>by
  rw[ZEB,yA]at hb
  rcases hb with hb|hb
  ·split at hb
   ·next h26=>
    rw[yO.1 hb]
    show 0<=p.var/\p.var<=5
    unfold ZA0 at h1
    omega
   ·cases hb
  ·obtain⟨k,hm,path',hp,hb⟩:=ZDy p.op Pattern.bnd path p.kids 0 b hb
   obtain⟨i,hi,rfl⟩:=xD.1 hm
   exact ZLK d _ _ (hk i (by omega) hi) path' b hb
theorem P.YBO (w:List Data)(list:List Clause)(out:List Step)(i:Nat)(x:List Pattern)(hx:∀q,q∈x->q.wt<=900/\((q.bnd []).map PathBind.var).Nodup/\∃d t,ZFp w d t q)(hxl:x.length<=1000):
  ∀(m j:Nat) (o:List Step),x.length-j=m->o.length+m*1000<=67108000->F.f103 list out i x o j=some (o++Zk (fun n=>(n:Int)) i o.length (x.drop j))
 |0,j,o,hm,hb=>by
  rw[F.f103,iN (by omega),zT (by omega)]
  simp[Zk]
 |m+1,j,o,hm,hb=>by
  have hj:j<x.length:=by omega
  obtain⟨w1,n1,d,t,s1⟩:=hx _ (gM hj)
  have t1:=ZDY x[j] []
  have b1:=ZEA x[j] []
  rw[F.f103,iP hj,gQ hj]
  simp only[oE,oS]
  rw[P.YA6 w d t x[j] s1 [] o (by simp;omega) (by omega)]
  simp only[oS]
  rw[P.YBa x[j] [] [] (by simp;omega) (by simp;omega),yE]
  simp only[oS]
  rw[P.YAq _ (fun b hb=>by have:=ZMi x[j] [] b hb;simp at this;omega) (by omega) n1 (ZLK d t x[j] s1 [])]
  simp only[oS]
  have hl:(o++x[j].tst []++[(⟨2,[],0,0,0,(i:Int),sortI (fun x=>x.var) (x[j].bnd []),0⟩:Step)]).length=o.length+(x[j].tst []).length+1:=by simp;omega
  have key:=ZDQ (f:=toS ((o.length+(x[j].tst []).length+1:Nat):Int)) (n:=o.length+(x[j].tst []).length+1) (L:=fun a k=>F.f102 list out i x j a k)
   (fun a k ha=>by
    show F.f102 list out i x j a k=_
    rw[F.f102]
    by_cases hk:k<a.length
    ·rw[iP hk,dif_pos hk,gQ hk]
     simp only[oE,oS]
     rw[ha]
     rfl
    ·rw[iN hk,dif_neg hk]) _ o.length _ hl rfl (by omega)
  rw[iP (by rw[zU];omega),key,zY,xI,yX]
  simp only[oS]
  rw[iP (by omega),P.YBO w list out i x hx hxl m (j+1) _ (by omega) (by simp;omega),zS hj]
  have el:(o++(x[j].tst []++[(⟨2,[],0,0,0,(i:Int),sortI (fun x=>x.var) (x[j].bnd []),0⟩:Step)]).map (toS ((o.length+(x[j].tst []).length+1:Nat):Int))).length=o.length+(x[j].tst []).length+1:=by simp;omega
  rw[el,Zk,yI]
  simp only[ZNH,zY]
  rfl
def ZON (e:Int)(s:Step):Step:=if s.op=2 then toS e s else s
theorem ZEi (g:Nat->Int)(e:Int)(i:Nat):∀(qs:List Pattern) (n:Nat),(Zk g i n qs).map (ZON e)=Zk (fun _=>e) i n qs
 | [],n=>rfl
 |q::r,n=>by
  simp only[Zk,yI,ZEi g e i r,xS,zX,xF]
  congr 2
  refine List.map_congr_left fun s hs=> ?_
  have:=ZO7 q [] s hs
  show ZON e (toS _ s)=toS _ s
  unfold ZON
  rw[iN (by show ¬s.op=2;omega)]
theorem ZGC (g:Nat->Int)(i:Nat):∀(qs:List Pattern) (n:Nat),(∀q,q∈qs->q.wt<=900)->(Zk g i n qs).length<=qs.length*1000
 | [],n,_=>by simp[Zk]
 |q::r,n,h=>by
  have h1:=ZGC g i r (n+(q.tst []).length+1) fun q hq=>h q (yC _ hq)
  have h2:=ZDY q []
  have h3:=h q (yH ..)
  simp only[Zk,zU,yJ,yG,yF]at h1 ⊢
  omega
def clS (i:Nat)(o:List Step)(x:List Pattern):List Step:=o++Zk (fun _=>((o.length+(Zk (fun _=>0) i o.length x).length:Nat):Int)) i o.length x
def ZBY :Nat->List Step->List (List Pattern)->List Step
 |_,o,[]=>o
 |i,o,x::r=>ZBY (i+1) (clS i o x) r
def ZIX (q:Pattern):Prop:=q.wt<=900/\((q.bnd []).map PathBind.var).Nodup
theorem ZIn {L:List Step->Nat->Option (List Step)}(hL:∀o k,L o k=if k<o.length then(o[k]?)>>=fun x=>if x.op=2 then L (o.set k (⟨x.op,x.path,x.ctor,x.n,x.m,x.clause,x.binds,(o.length:Int)⟩:Step)) (k+1)else L o (k+1)else some o)
  (o:List Step) (k:Nat) (hk:k<=o.length):L o k=some (o.take k++(o.drop k).map (ZON (o.length:Int))):=by
 refine ZDQ (f:=ZON (o.length:Int)) (n:=o.length) (L:=L) (fun a k ha=> ?_) _ k o rfl rfl hk
 rw[hL]
 by_cases h:k<a.length
 ·rw[iP h,dif_pos h,gQ h]
  simp only[oE,oS]
  unfold ZON
  by_cases h2:a[k].op=2
  ·rw[iP h2,iP h2,ha];rfl
  ·rw[iN h2,iN h2,List.set_getElem_self]
 ·rw[iN h,dif_neg h]
theorem ZLF (g:Nat->Int)(i:Nat)(o:List Step)(x:List Pattern):(o++Zk g i o.length x).take o.length++((o++Zk g i o.length x).drop o.length).map (ZON ((o++Zk g i o.length x).length:Int))=clS i o x:=by
 rw[xI,yX,ZEi,zU,ZBj g (fun _=>0)]
 rfl
theorem ZH1 {i:Nat}{o:List Step}{x:List Pattern}(h:∀q,q∈x->q.wt<=900):(clS i o x).length<=o.length+x.length*1000:=by
 unfold clS
 rw[zU]
 have:=ZGC (fun _=>((o.length+(Zk (fun _=>0) i o.length x).length:Nat):Int)) i x o.length h
 omega
theorem P.YAP (vs:List (List Pattern))(b:Bool)(hv:∀x,x∈vs->x.length<=40/\∀q,q∈x->ZIX q)(hl:vs.length<=1000):∀(m i:Nat) (o:List Step),vs.length-i=m->o.length+m*40000<=67000000->kQ (vs,b) o i=some (ZBY i o (vs.drop i))
 |0,i,o,hm,hb=>by
  rw[kQ,iN (by show ¬i<vs.length;omega),zT (by omega)]
  rfl
 |m+1,i,o,hm,hb=>by
  have hi:i<vs.length:=by omega
  obtain⟨h40,hq⟩:=hv _ (gM hi)
  have hw:∀q,q∈vs[i]->q.wt<=900:=fun q h=>(hq q h).1
  have cl:=ZH1 (i:=i) (o:=o) hw
  rw[kQ,iP (show i<vs.length from hi),show(vs,b).1[i]? =some vs[i]from gQ hi]
  simp only[oE,oS]
  rw[P.Yx (vs,b) o i vs[i] hq (by omega) _ 0 o rfl (by omega),zV]
  simp only[oS]
  rw[ZIn (L:=F.f196 (vs,b) i) (fun o k=>by rw[F.f196]) _ _ (by rw[zU];omega),ZLF]
  simp only[oS]
  rw[iP (by omega),P.YAP vs b hv hl m (i+1) _ (by omega) (by omega),zS hi]
  rfl
theorem P.YAN (w:List Data)(list:List Clause)(hv:∀c,c∈list->kK c.pat=some c.pat.splits/\c.pat.splits.length<=40/\∀q,q∈c.pat.splits->ZIX q/\∃d t,ZFp w d t q)(hl:list.length<=1000):
  ∀(m i:Nat) (o:List Step),list.length-i=m->o.length+m*40000<=67000000->kZ list o i=some (ZBY i o ((list.map fun c=>c.pat.splits).drop i))
 |0,i,o,hm,hb=>by
  rw[kZ,iN (by omega),zT (by simp;omega)]
  rfl
 |m+1,i,o,hm,hb=>by
  have hi:i<list.length:=by omega
  obtain⟨e,h40,hq⟩:=hv _ (gM hi)
  have hw:∀q,q∈list[i].pat.splits->q.wt<=900:=fun q h=>(hq q h).1.1
  have cl:=ZH1 (i:=i) (o:=o) hw
  rw[kZ,iP hi,gQ hi]
  simp only[oE,oS]
  rw[e]
  simp only[oS]
  rw[P.YBO w list o i _ (fun q h=>⟨(hq q h).1.1,(hq q h).1.2,(hq q h).2⟩) (by omega) _ 0 o rfl (by omega),zV]
  simp only[oS]
  rw[ZIn (L:=F.f104 list i) (fun o k=>by rw[F.f104]) _ _ (by rw[zU];omega),ZLF]
  simp only[oS]
  rw[iP (by omega),P.YAN w list hv hl m (i+1) _ (by omega) (by omega),zS (show i<(list.map fun c=>c.pat.splits).length by simpa using hi),yR]
  rfl
theorem P.YT (l:List Clause)(hv:∀c,c∈l->c.pat.alts<=40->F.f182 c.pat=some c.pat.splits)(hl:l.length<=1000):
  ∀(m i:Nat) (out:List (List Pattern)),l.length-i=m->out.length=i->kT l out i=some (if ∀c,c∈l.drop i->c.pat.alts<=40 then .go (out++(l.drop i).map fun c=>c.pat.splits)else .ret ([],false))
 |0,i,out,hm,ho=>by
  rw[kT,iN (by omega),zT (by omega),iP (by simp)]
  simp
 |m+1,i,out,hm,ho=>by
  have hi:i<l.length:=by omega
  rw[kT,iP hi,gQ hi,zS hi]
  simp only[oE,oS]
  rw[P.YAy]
  simp only[oS]
  by_cases h:l[i].pat.alts<=40
  ·rw[iN (by omega),hv _ (gM hi) h]
   simp only[oS]
   rw[iP (by omega),P.YT l hv hl m (i+1) _ (by omega) (by simp[ho])]
   grind
  ·grind
theorem P.YN (l:List Clause)(hv:∀c,c∈l->kK c.pat=some (c.pat.splits.take 401)):
  ∀(m i:Nat),l.length-i=m->kY l i=some (if ∀c,c∈l.drop i->c.pat.alts<=40 then .go ()else .ret ([],false))
 |0,i,hm=>by rw[kY,iN (by omega),zT (by omega),iP (by simp)]
 |m+1,i,hm=>by
  have hi:i<l.length:=by omega
  rw[kY,iP hi,gQ hi,zS hi]
  simp only[oE,oS]
  rw[hv _ (gM hi)]
  simp only[oS]
  have hl:(l[i].pat.splits.take 401).length=min 401 l[i].pat.alts:=by rw[yN,ZAP]
  by_cases h:l[i].pat.alts<=40
  ·rw[iN (by omega),P.YN l hv m (i+1) (by omega)]
   grind
  ·grind
theorem ZD5 :∀(vs:List (List Pattern)) (i:Nat) (o:List Step),(∀x,x∈vs->x.length<=40/\∀q,q∈x->q.wt<=900)->(ZBY i o vs).length<=o.length+vs.length*40000
 | [],i,o,_=>by simp[ZBY]
 |x::r,i,o,h=>by
  obtain⟨h1,h2⟩:=h x (yH ..)
  have h3:=ZH1 (i:=i) (o:=o) h2
  have h4:=ZD5 r (i+1) (clS i o x) fun y hy=>h y (yC _ hy)
  rw[ZBY,yG]
  omega
def ZFW :Step:=⟨3,[],0,0,0,0,[],0⟩
theorem P.YAd (w:List Data)(hw:ZAi w)(t:Ty)(l:List Clause)(hp:∀c,c∈l->c.pat.wt<=1048576)(hpat:ZO2 w t l->∀c,c∈l->ZGB w t c.pat):∃r b,F.f198 w t l=some (r,b)/\F.f108 w t l=some (r,b)/\
  (b=true->ZO2 w t l/\(∀c,c∈l->c.pat.alts<=40)/\r=ZBY 0 [] (l.map fun c=>c.pat.splits)++[ZFW]):=by
 unfold F.f198 F.f108
 rw[P.YZ w hw t l hp,P.YW w hw t l hp]
 simp only[oE,oS]
 by_cases hc:ZO2 w t l
 ·have hpc:=hpat hc
  have hl8:l.length<=8:=hc.2.1
  rw[dec_of hc,iP rfl,iP rfl]
  have h1:∀c,c∈l->kK c.pat=some (c.pat.splits.take 401):=fun c h=>P.Yt w 10 t c.pat (hpc c h).1 (hp c h)
  unfold F.f185
  rw[P.YT l (fun c h ha=>P.YAT 10 t c.pat (hpc c h).1 (hp c h) (by omega)) (by omega) _ 0 [] rfl rfl,P.YN l h1 _ 0 rfl,zV,yE]
  by_cases ha:∀c,c∈l->c.pat.alts<=40
  ·rw[iP ha,iP ha]
   simp only[oE,oS]
   have hq:∀c,c∈l->∀q,q∈c.pat.splits->ZIX q/\∃d u,ZFp w d u q:=fun c h q hq=>by
    obtain⟨s1,s2,s3⟩:=ZAV 10 t c.pat (hpc c h).1 (hpc c h).2.1 q hq
    have:=(hpc c h).2.2
    exact⟨⟨by omega,ZFw (hpc c h).1 (hpc c h).2.1 hq []⟩,10,t,s1⟩
   have hlen:∀c,c∈l->c.pat.splits.length<=40:=fun c h=>by rw[ZAP];exact ha c h
   have hvs:∀x,x∈l.map (fun c=>c.pat.splits)->x.length<=40/\∀q,q∈x->ZIX q:=fun x hx=>by
    grind
   have e1:=P.YAP (l.map fun c=>c.pat.splits) true hvs (by simp;omega) _ 0 [] rfl (by simp;omega)
   have e2:=P.YAN w l (fun c h=>⟨by rw[h1 c h,zW (by have:=hlen c h;omega)],hlen c h,hq c h⟩) (by omega) _ 0 [] rfl (by simp;omega)
   have cl:=ZD5 (l.map fun c=>c.pat.splits) 0 [] fun x hx=>⟨(hvs x hx).1,fun q hq=>((hvs x hx).2 q hq).1⟩
   rw[yJ,yF]at cl
   unfold F.f106
   rw[iP True.intro,e1,e2,zV]
   simp only[oE,oS]
   rw[iP (by omega),iP (by omega)]
   exact⟨_,_,rfl,rfl,fun _=>⟨hc,ha,rfl⟩⟩
  ·rw[iN ha,iN ha]
   simp_all
 ·simp_all
variable {w:List Data}{v:Value}
theorem ZNa {e:Nat}{t:Ty}(h:pv w false e t v)(ht:t.data≠-1):v.ctor∈ZZ w t/\v.kids.length=(ZR w t v.ctor).length/\∀i (h:i<(ZR w t v.ctor).length) (h':i<v.kids.length),∃e',pv w false e' (ZR w t v.ctor)[i] v.kids[i]:=by
 cases e with
 |zero=>exact h.elim
 |succ e=>
  rcases h with h|⟨_,h|h⟩
  ·simp at h
  ·exact absurd h.1 ht
  ·exact⟨h.2.2.1,h.2.2.2.1,fun i h1 h2=>⟨e,h.2.2.2.2 i (zB _) h1 h1 h2⟩⟩
theorem P.YAD (v:Value)(hv:v.wt<=67108864):kO v=some v:=by
 induction v using Value.ind with
 |_ v ih=>
  have hw:=v.wt_eq
  rw[kO,ZFi (a:=v.kids) (g:=id) (f:=kO) (L:=F.f219 v) (fun out i=>by rw[F.f219]) (fun x hx=>ih x hx (by have:=Zf Value.wt hx;omega)) _ 0 [] rfl (by have:=ZAN Value.wt v.kids;simp;omega)]
  simp
  cases v;rfl
def vAt :List Int->Value->Option Value
 | [],v=>some v
 |i::r,v=>(at? v.kids i).bind fun u=>vAt r u
theorem ZIL (i:Int):∀(p:List Int) (v:Value),vAt (p++[i]) v=(vAt p v).bind fun u=>at? u.kids i
 | [],v=>by simp[vAt]
 |j::r,v=>by
  rw[yZ,vAt,vAt]
  cases at? v.kids j with
  |none=>rfl
  |some u=>exact ZIL i r u
variable {α:Type}
theorem ZLO {xs:List α}{i:Int}{x:α}(h:at? xs i=some x):x∈xs:=by
 obtain⟨_,h⟩:=ZV h
 exact List.mem_of_getElem? h
theorem ZMx :∀(p:List Int) (v u:Value),vAt p v=some u->u.wt<=v.wt
 | [],v,u,h=>by cases h;exact zA _
 |i::r,v,u,h=>by
  rw[vAt]at h
  cases e:at? v.kids i with
  |none=>rw[e]at h;cases h
  |some x=>
   rw[e]at h
   have:=ZMx r x u h
   have h2:=Zf Value.wt (ZLO e)
   rw[Value.wt_eq v]
   omega
theorem P.YBY (path:List Int):∀(m i:Nat) (v:Value),path.length-i=m->kP path v.ctor v.n v.kids i=(vAt (path.drop i) v).map fun u=>(u.ctor,u.n,u.kids):=by
 intro m
 induction m with
 |zero=>
  intro i v hm
  rw[kP,iN (by omega),zT (by omega)];rfl
 |succ m ih=>
  intro i v hm
  have hi:i<path.length:=by omega
  rw[kP,iP hi,gQ hi,zS hi,vAt]
  simp only[oE,oS]
  cases at? v.kids path[i]with
  |none=>rfl
  |some x=>exact ih (i+1) x (by omega)
theorem P.YAO (v:Value)(path:List Int):F.f216 v path=vAt path v:=by
 unfold F.f216
 rw[P.YBY path _ 0 v rfl,zV]
 cases vAt path v with
 |none=>rfl
 |some u=>cases u;rfl
theorem P.YBb (path:List Int):∀(m i:Nat) (v:Value),path.length-i=m->kX path v.ctor v.n v.kids i=(vAt (path.drop i) v).map fun u=>(u.ctor,u.n,u.kids):=by
 intro m
 induction m with
 |zero=>
  intro i v hm
  rw[kX,iN (by omega),zT (by omega)];rfl
 |succ m ih=>
  intro i v hm
  have hi:i<path.length:=by omega
  rw[kX,iP hi,gQ hi,zS hi,vAt]
  simp only[oE,oS]
  cases at? v.kids path[i]with
  |none=>rfl
  |some x=>exact ih (i+1) x (by omega)
theorem P.YAM (v:Value)(path:List Int):F.f115 v path=vAt path v:=by
 unfold F.f115
 rw[P.YBb path _ 0 v rfl,zV]
 cases vAt path v with
 |none=>rfl
 |some u=>cases u;rfl
def ZJJ (s:Step)(u:Value):Prop:=u.ctor=s.ctor/\(s.ctor= -1->s.n<=u.n/\u.n<=s.m)
theorem P.YAb (s:Step)(u:Value):F.f217 s.ctor s.n s.m u=some (dec (ZJJ s u)):=by
 unfold F.f217 ZJJ
 by_cases h:s.ctor=u.ctor
 ·rw[iP h]
  by_cases h2:s.ctor= -1
  ·rw[iP h2,P.YD]
   simp only[oE,oS]
   congr 1
   exact ZJ ⟨fun q=>⟨h.symm,fun _=>q⟩,fun q=>q.2 h2⟩
  ·rw[iN h2,dec_of ⟨h.symm,fun q=>absurd q h2⟩]
 ·rw[iN h,ZB fun q=>h q.1.symm]
theorem P.Yz (s:Step)(u:Value):F.f116 s u=some (dec (ZJJ s u)):=by
 unfold F.f116 ZJJ
 by_cases h:u.ctor=s.ctor
 ·rw[iP h]
  by_cases h2:s.ctor= -1
  ·rw[iP h2]
   by_cases h3:s.n<=u.n
   ·rw[iP h3,←ZAY];congr 1
    exact ZJ ⟨fun q=>⟨h,fun _=>⟨h3,q⟩⟩,fun q=>(q.2 h2).2⟩
   ·rw[iN h3,ZB fun q=>h3 (q.2 h2).1]
  ·rw[iN h2,dec_of ⟨h,fun q=>absurd q h2⟩]
 ·rw[iN h,ZB fun q=>h q.1]
def ZEC (v:Value)(b:PathBind):Bind:=⟨b.var,(vAt b.path v).getD v⟩
def ZQ5 (v:Value)(b:PathBind):Prop:=∃u,vAt b.path v=some u
theorem ZJo {L:Nat->List Bind->Option (List Bind)}(hb:∀b,b∈l->ZQ5 v b)(hl:l.length<=67108864)(hL:∀i out,L i out=if i<l.length then(l[i]?)>>=fun x=>(vAt x.path v)>>=fun u=>if out.length+1<=67108864 then L (i+1) (out++[(⟨x.var,u⟩:Bind)])else none else some out):
  ∀(m i:Nat) (out:List Bind),l.length-i=m->out=(l.take i).map (ZEC v)->i<=l.length->L i out=some (l.map (ZEC v)):=by
 intro m
 induction m with
 |zero=>
  intro i out hm ho hi
  rw[hL,iN (by omega),ho,zW (by omega)]
 |succ m ih=>
  intro i out hm ho hi
  have hi:i<l.length:=by omega
  obtain⟨u,hu⟩:=hb _ (gM hi)
  rw[hL,iP hi,gQ hi]
  simp only[oE,oS]
  rw[hu]
  simp only[oS]
  rw[iP (by rw[ho];simp;omega)]
  refine ih (i+1) _ (by omega) ?_ (by omega)
  rw[ho,yV hi,yI]
  simp[ZEC,hu]
theorem P.Yu (l:List PathBind)(v:Value)(hb:∀b,b∈l->ZQ5 v b)(hl:l.length<=67108864)(hv:v.wt<=67108864):F.f221 l v=some (l.map (ZEC v)):=by
 unfold F.f221
 rw[ZJo (L:=fun i out=>F.f220 l v i out) hb hl (fun i out=> ?_) _ 0 [] rfl rfl (by omega)]
 ·rfl
 ·rw[F.f220]
  split
  ·next hi=>
   obtain⟨u,hu⟩:=hb _ (gM hi)
   rw[gQ hi]
   simp only[oE,oS]
   rw[P.YAO,hu]
   simp only[oS]
   rw[P.YAD u (by have:=ZMx _ _ _ hu;omega)]
   simp only[oS]
  ·rfl
theorem ZIo {C a r:List α}{n:Nat}(h:C.drop n=a++r):C.drop (n+a.length)=r:=by
 rw[←List.drop_drop,h,yX]
theorem ZFZ {C r:List α}{x:α}{n:Nat}(h:C.drop n=x::r):C[n]? =some x:=by
 have:(C.drop n)[0]? =some x:=by rw[h];rfl
 rw[List.getElem?_drop]at this
 exact this
theorem ZGk :∀(vs:List (List Pattern)) (i:Nat) (o:List Step),∃r,ZBY i o vs=o++r
 | [],i,o=>⟨[],(xC o).symm⟩
 |x::r,i,o=>by
  obtain⟨a,ha⟩:=ZGk r (i+1) (clS i o x)
  rw[ZBY,ha];unfold clS
  exact⟨_,zY ..⟩
theorem P.YAY (w:List Data)(t:Ty)(v:Value)(ht:ZAh w t)(hv:v.wt<=1048576):F.f202 w t v=some (dec (pv w false 10 t v/\1+v.wt<=60)):=by
 unfold F.f202
 obtain⟨b,c,h1,h2,_⟩:=P.YAH w ht.1 false 10 t v 0 (by omega) (ZCH ht.2.1) (by omega)
 have h1':F.f199 w t v 1 false 0=some (b,(c:Int)):=h1
 rw[h1']
 simp only[oE,oS]
 congr 1
 cases b with
 |true=>rw[dec_of ⟨(h2.1 rfl).1,by have:=(h2.1 rfl).2;omega⟩]
 |false=>rw[ZB fun hh=>by have:=h2.2 ⟨hh.1,by have:=hh.2;omega⟩;cases this]
theorem P.YBC (w:List Data)(t:Ty)(v:Value)(ht:ZAh w t)(hv:v.wt<=1048576):F.f113 w t v=some (dec (pv w false 10 t v/\1+v.wt<=60)):=by
 unfold F.f113
 have e:F.f109 w t v 10=some (dec (pv w false 10 t v)):=P.YK w ht.1 10 t v (ZCH ht.2.1) (by omega)
 rw[e]
 simp only[oE,oS]
 by_cases hp:pv w false 10 t v
 ·rw[iP (dec_of hp)]
  obtain⟨c,h1,h2,h3,h4,h5⟩:=P.YAp v hv 60 (by omega)
  have h1':F.f111 v 60=some (c:Int):=h1
  rw[h1']
  simp only[oS]
  rw[←ZAY];congr 1
  refine ZJ ⟨fun hc=>⟨hp,?_⟩,fun hh=> ?_⟩
  ·apply xU
   intro hn
   have:=h5 (by omega);omega
  ·have:=h4 hh.2;have:=hh.2;omega
 ·rw[iN (by rw[ZB hp];simp),ZB fun hh=>hp hh.1]
noncomputable def ZC5 (l:List (List Int))(p:List Int):List (List Int):=if p∈l then l else l++[p]
theorem ZMm (l:List (List Int))(p:List Int):(ZC5 l p).length<=l.length+1:=by
 unfold ZC5;split<;>simp
theorem ZMl {l:List (List Int)}{p q:List Int}:q∈ZC5 l p↔q∈l∨q=p:=by
 unfold ZC5
 split
 ·next h=>exact⟨.inl,fun hq=>hq.elim id fun e=>e▸h⟩
 ·simp
theorem ZD3 (ps:List (List Int)):∀l:List (List Int),(ps.foldl ZC5 l).length<=l.length+ps.length:=by
 induction ps with
 |nil=>intro l;simp
 |cons p r ih=>intro l;have h1:=ih (ZC5 l p);have h2:=ZMm l p;simp only[yL,yG];omega
theorem ZEr (ps:List (List Int))(p:List Int)(l:List (List Int)):(ps++[p]).foldl ZC5 l=ZC5 (ps.foldl ZC5 l) p:=by
 rw[List.foldl_append];rfl
theorem ZGZ {q:List Int}:∀(ps:List (List Int)) (l:List (List Int)),q∈ps.foldl ZC5 l↔q∈l∨q∈ps
 | [],l=>by simp
 |p::r,l=>by rw[yL,ZGZ r,ZMl,yP,or_assoc]
theorem ZIH {α:Type}(f:α->Nat){x:α}:∀{l:List α},x∈l->1+f x<=wtL f l
 |a::s,h=>by
  rw[Zx]
  rcases yP.1 h with rfl|h
  ·omega
  ·have:=ZIH f h;omega
theorem ZG4 :∀(p:List Int) (v u:Value),vAt p v=some u->p.length<=v.wt
 | [],v,u,_=>zB _
 |i::r,v,u,h=>by
  rw[vAt]at h
  cases e:at? v.kids i with
  |none=>rw[e]at h;cases h
  |some x=>
   rw[e]at h
   have h1:=ZG4 r x u h
   have h2:=ZAN Value.wt v.kids
   have h3:=ZLO e
   have h4:=ZIH Value.wt h3
   rw[Value.wt_eq v,yG];omega
theorem P.YY (l:List (List Int))(p:List Int)(hl:l.length<=67108863)(hp:p.length<=67108864):F.f209 l p=some (ZC5 l p):=by
 have hc:F.f208 l p=some (dec (p∈l)):=by
  unfold F.f208 F.f207
  have one:∀q,F.f205 q p=some (dec (q=p)):=by
   intro q;unfold F.f205;rw[P.Yc];rfl
  rw[ZK4 (a:=l) (p:=fun q=>q=p) (L:=kM l p) (fun k hk=>by rw[kM,iN (by omega)])
   (fun k hk hp=>by rw[kM,iP hk,gQ hk];simp only[oE,oS];rw[one];simp only[oS];rw[iN (by rw[ZB hp];simp)])
   (fun k hk hp=>by rw[kM,iP hk,gQ hk];simp only[oE,oS];rw[one];simp only[oS];rw[iP (dec_of hp)]) _ 0 rfl,zV]
  cases hf:ZGb (fun q=>q=p) 0 l with
  |none=>
   have:=ZAp hf
   simp only[oE,oS]
   rw[ZB fun h=>this p h rfl];rfl
  |some j=>
   obtain⟨_,h2,h3,_⟩:=ZAo hf
   simp only[oE,oS]
   rw[dec_of (h3▸gM h2)];simp
 unfold F.f209 ZC5
 rw[hc]
 simp only[oE,oS]
 by_cases h:p∈l
 ·rw[iP (dec_of h),iP h]
 ·rw[iN (by rw[ZB h];decide),iN h,P.YB _ hp]
  simp only[oS]
  rw[iP (by omega)]
theorem ZIY {l:List VarType}(h:ZGG l){x y:VarType}(hx:x∈l)(hy:y∈l)(e:x.var=y.var):x=y:=by
 induction l with
 |nil=>cases hx
 |cons a r ih=>
  unfold ZGG at h ih
  rw[zX,yU]at h
  rcases yP.1 hx with h1|h1<;>rcases yP.1 hy with h2|h2
  ·rw[h1,h2]
  ·exact absurd (zZ.2 ⟨y,h2,by rw[←e,h1]⟩) h.1
  ·exact absurd (zZ.2 ⟨x,h1,by rw[e,h2]⟩) h.1
  ·exact ih h.2 h1 h2
theorem ZJ4 {f:Ty×Pattern->List VarType}{x:VarType}:∀(ts:List Ty) (qs ks:List Pattern),qs.length=ts.length->ks.length=ts.length->(∀i (h:i<ts.length) (h1:i<qs.length) (h2:i<ks.length),x∈f (ts[i],qs[i])->x∈f (ts[i],ks[i]))->
  x∈(ts.zip qs).flatMap f->x∈(ts.zip ks).flatMap f
 | [],_,_,_,_,_=>by simp
 |t::ts,[],_,h,_,_=>by simp at h
 |t::ts,_::_,[],_,h,_=>by simp at h
 |t::ts,q::qs,k::ks,h,h1,hi=>by
  simp only[yT,yB,yA]
  rintro(hx|hx)
  ·exact .inl (hi 0 (by simp) (by simp) (by simp) hx)
  ·exact .inr (ZJ4 ts qs ks (by simpa using h) (by simpa using h1) (fun i a b c hx=>hi (i+1) (by simpa using a) (by simpa using b) (by simpa using c) hx) hx)
theorem ZDb {w:List Data}{x:VarType}:∀(d:Nat) (t:Ty) (p:Pattern),Zc w d t p->ZFK w d t p->∀q,q∈p.splits->x∈ZN w d t q->x∈ZN w d t p
 |0,_,_,h,_,_,_,_=>h.elim
 |d+1,t,p,⟨ho,hl,hk⟩,⟨hlk,hlin⟩,q,hq,hx=>by
  have hs:=(ZAV (d+1) t p ⟨ho,hl,hk⟩ ⟨hlk,hlin⟩ q hq).1
  have ih:∀i (h:i<(ZF w t p).length) (h':i<p.kids.length) q,q∈p.kids[i].splits->x∈ZN w d (ZF w t p)[i] q->x∈ZN w d (ZF w t p)[i] p.kids[i]:=
   fun i h h' q hq=>ZDb d _ _ (hk i (zB _) h h h') (hlk i (zB _) h h h') q hq
  rw[ZBR]at hq
  by_cases h5:p.op=5
  ·rw[iP h5]at hq hlin
   have et:=Zr ho h5
   have h2:p.kids.length=2:=by rw[hl,et];rfl
   have es2:(p.kids.map Pattern.splits).flatten=(p.kids[0]'(by omega)).splits++(p.kids[1]'(by omega)).splits:=by
    have e9:(([p.kids[0]'(by omega),p.kids[1]'(by omega)]:List Pattern).map Pattern.splits).flatten=(p.kids[0]'(by omega)).splits++(p.kids[1]'(by omega)).splits:=by simp
    rw[←ZCX h2]at e9;exact e9
   rw[es2]at hq
   have hall:∀x,x∈ZF w t p->x=t:=by rw[et];simp
   have t0:∀i (h:i<(ZF w t p).length),(ZF w t p)[i]=t:=fun i h=>hall _ (gM h)
   have i0:=ih 0 (by omega) (by omega)
   have i1:=ih 1 (by omega) (by omega)
   have s0:=hk 0 (zB _) (by omega) (by omega) (by omega)
   have l0:=hlk 0 (zB _) (by omega) (by omega) (by omega)
   have s1:=hk 1 (zB _) (by omega) (by omega) (by omega)
   have l1:=hlk 1 (zB _) (by omega) (by omega) (by omega)
   rw[t0]at i0 i1 s0 l0 s1 l1
   rw[ZCT (d:=d) ho h5 (by omega)]
   rcases yA.1 hq with hq|hq
   ·rw[ZA8 d t q (ZAV d t _ s0 l0 q hq).1]at hx
    exact i0 q hq hx
   ·rw[ZA8 d t q (ZAV d t _ s1 l1 q hq).1]at hx
    have h1:=i1 q hq hx
    have hv:=hlin (by omega) (by omega)
    obtain⟨y,hy,e⟩:=zZ.1 ((ZEa (ZAc s0 l0) hv).symm.mem_iff.1 (zZ.2 ⟨x,h1,rfl⟩))
    rw[←ZIY (ZAc s1 l1) (hv.2 y hy) h1 e]
    exact hy
  ·rw[iN h5]at hq
   obtain⟨e1,e2,e3⟩:=ZD2 (G:=fun k x=>∀h:k<p.kids.length,x∈p.kids[k].splits) (p:=p) _ 0 _ (fun k h x hx h'=>by
    have e:(0+k)=k:=zE k
    simp only[yR]at hx
    simpa only[e]using hx) (fun q hq=>by rw[yO.1 hq];exact⟨rfl,rfl,fun k h=>absurd h (by simp)⟩) q hq
   rw[yJ,zE]at e2
   have eo:q.op=p.op:=by rw[e1]
   have ec:q.ctor=p.ctor:=by rw[e1]
   have ew:q.var=p.var:=by rw[e1]
   have ety:ZF w t q=ZF w t p:=by unfold ZF;rw[eo,ec]
   rw[ZN,iN h5,zW (by rw[xB];omega),yA]
   rw[ZN,iN (show ¬q.op=5 by omega),zW (by rw[xB];omega),ety,eo,ew,yA]at hx
   exact hx.imp id (ZJ4 _ _ _ (by omega) hl fun i h h1 h2 hx=>ih i h h2 _ (e3 i h1 h2) hx)
def okVr (w:List Data)(v:Value)(vs:List VarType)(b:PathBind):Prop:=∃u,vAt b.path v=some u/\∃τ d',(⟨b.var,τ⟩:VarType)∈vs/\pv w false d' τ u
theorem okVr.mono {a c:List VarType}{b:PathBind}(h:okVr w v a b)(hs:∀x,x∈a->x∈c):okVr w v c b:=
 let⟨u,h1,τ,d',h2,h3⟩:=h;⟨u,h1,τ,d',hs _ h2,h3⟩
inductive RunT (C:List Step)(v:Value)(N:Nat)(T:Step->Prop):Nat->Prop
 |fail (k:Nat) (s:Step) (h:C[k]? =some s) (h3:s.op=3):RunT C v N T k
 |take (k j c:Nat) (s:Step) (h:C[k]? =some s) (h2:s.op=2) (hT:T s) (hb:∀b,b∈s.binds->ZQ5 v b) (hl:s.binds.length<=1048576) (hc:s.clause=(c:Int)) (hn:c<N) (ht:s.to=(j:Int)) (hk:k<j) (r:RunT C v N T j):RunT C v N T k
 |test (k j:Nat) (s:Step) (u:Value) (h:C[k]? =some s) (h1:s.op=1) (hu:vAt s.path v=some u) (ht:s.to=(j:Int)) (hk:k<j) (hp:ZJJ s u->RunT C v N T (k+1)) (r:RunT C v N T j):RunT C v N T k
theorem ZDx {C:List Step}{R:Nat->Prop}{K:PathBind->Prop}{e:Nat}(op:Int)(path:List Int)(rest:List Step):∀(ks:List Pattern) (i n:Nat),
  (∀j (h:j<ks.length) (m:Nat) (rest:List Step),C.drop m=(ks[j].tst (if op=4 then path++[((i+j:Nat):Int)]else path)).map (toS (e:Int))++rest->m+(ks[j].tst (if op=4 then path++[((i+j:Nat):Int)]else path)).length<e->
   ((∀b,b∈ks[j].bnd (if op=4 then path++[((i+j:Nat):Int)]else path)->K b)->R (m+(ks[j].tst (if op=4 then path++[((i+j:Nat):Int)]else path)).length))->R m)->
  C.drop n=(Zp op path i (ks.map Pattern.tst)).map (toS (e:Int))++rest->n+(Zp op path i (ks.map Pattern.tst)).length<e->
  ((∀b,b∈Zp op path i (ks.map Pattern.bnd)->K b)->R (n+(Zp op path i (ks.map Pattern.tst)).length))->R n
 | [],i,n,hs,hd,hl,hk=>by
  have:=hk (fun b hb=>by simp[Zp]at hb)
  simpa[Zp]using this
 |q::r,i,n,hs,hd,hl,hk=>by
  simp only[zX,Zp,yI,zY,zU]at hd hl hk
  have h0:=hs 0 (by simp) n _ hd (by simp only[xA,zQ];omega)
  simp only[xA,zQ]at h0
  refine h0 fun hb=> ?_
  have hd2:=ZIo hd
  rw[yJ]at hd2
  refine ZDx (K:=K) op path rest r (i+1) _ (fun j hj m rest2 a1 a2 a3=> ?_) hd2 (by omega) fun hb2=> ?_
  ·have:=hs (j+1) (by simp;omega) m rest2
   simp only[xK,show i+(j+1)=i+1+j by omega]at this
   exact this a1 a2 a3
  ·rw[zJ]
   exact hk fun b hb3=>(yA.1 hb3).elim (hb b) (hb2 b)
theorem ZFB {w:List Data}{C:List Step}{v:Value}{N e:Nat}{T:Step->Prop}(hE:RunT C v N T e):∀(d:Nat) (t:Ty) (q:Pattern) (path:List Int) (u:Value) (d':Nat),ZFp w d t q->vAt path v=some u->pv w false d' t u->
  ∀(n:Nat) (rest:List Step),C.drop n=(q.tst path).map (toS (e:Int))++rest->n+(q.tst path).length<e->
  ((∀b,b∈q.bnd path->okVr w v (ZN w d t q) b)->RunT C v N T (n+(q.tst path).length))->RunT C v N T n
 |0,t,q,path,u,d',h,_,_=>h.elim
 |d+1,t,q,path,u,d',⟨ho,h5,hlen,hkid⟩,hu,hp=>by
  intro n rest hd hl hk
  rw[ZFr]at hd hl hk
  rw[ZEB]at hk
  have hop:q.op=1∨q.op=2∨q.op=3∨q.op=4∨q.op=6:=by unfold ZA0 at ho;omega
  by_cases h4:q.op=4
  ·have hc:q.ctor∈ZZ w t:=by
    unfold ZA0 at ho
    rcases ho with h|h|h|h|h|h
    all_goals first|exact h.2.2.2.2|(exfalso;omega)
   obtain⟨hdt,hc0,_⟩:=Zj hc
   obtain⟨c1,c2,c3⟩:=ZNa hp hdt
   have hty:ZF w t q=ZR w t q.ctor:=by unfold ZF;rw[iP h4]
   rw[iN (by omega),iP h4]at hd hl hk
   rw[iN (by omega),yE]at hk
   simp only[yI,zX,xF,yZ,yE,zU,yG,yF]at hd hl hk
   have hg:=ZFZ hd
   refine .test n e _ u hg rfl hu rfl (by omega) (fun hps=> ?_) hE
   have hcu:u.ctor=q.ctor:=hps.1
   rw[hcu]at c2 c3
   have hd2:C.drop (n+1)=(Zp q.op path 0 (q.kids.map Pattern.tst)).map (toS (e:Int))++rest:=by
    rw[←List.drop_drop,hd];rfl
   refine ZDx (R:=RunT C v N T) (K:=okVr w v (ZN w (d+1) t q)) q.op path rest q.kids 0 (n+1) (fun j hj m rest2 a1 a2 a3=> ?_) hd2 (by omega) fun hb=> ?_
   ·have hj':j<(ZF w t q).length:=by omega
    have hja:j<(ZR w t q.ctor).length:=by rw[←hty];exact hj'
    have hju:j<u.kids.length:=by omega
    obtain⟨e',hpj⟩:=c3 j hja hju
    have hsj:=hkid j hj' hj
    rw[iP h4]at a1 a2 a3
    rw[zE]at a1 a2 a3
    refine ZFB hE d _ q.kids[j] (path++[(j:Int)]) u.kids[j] e' hsj ?_ ?_ m rest2 a1 a2 fun hb=>a3 fun b hb2=>(hb b hb2).mono fun x hx=>ZIh h5 hj' hj hx
    ·rw[ZIL,hu];show at? u.kids (j:Int)=_;rw[ZCe hju]
    ·simp only[hty];exact hpj
   ·have:=hk hb
    rw[zJ,zR 1]
    exact this
  ·by_cases h3:q.op=3
   ·have hk0:q.kids=[]:=by
     have:ZF w t q=[]:=by unfold ZF;rw[iN h4,iN h5,iN (by omega)]
     rw[this]at hlen;exact xG hlen
    rw[iP h3,hk0]at hd hl hk
    rw[iN (by omega)]at hk
    simp only[xF,Zp,xC,zX,yZ,yE,yG,yF]at hd hl hk
    have hg:=ZFZ hd
    refine .test n e _ u hg rfl hu rfl (by omega) (fun _=> ?_) hE
    exact hk fun b hb=>by cases hb
   ·rw[iN h3,iN h4,yE]at hd hl hk
    have hsame:∀j:Nat,(if q.op=4 then path++[((0+j:Nat):Int)]else path)=path:=fun j=>iN h4
    refine ZDx (R:=RunT C v N T) (K:=okVr w v (ZN w (d+1) t q)) q.op path rest q.kids 0 n (fun j hj m rest2 a1 a2 a3=> ?_) hd hl fun hb=>hk fun b hb2=> ?_
    ·rw[hsame]at a1 a2 a3
     have hj':j<(ZF w t q).length:=by omega
     have h6:q.op=6:=by
      rcases hop with h|h|h|h|h
      ·exfalso;have:ZF w t q=[]:=by unfold ZF;rw[iN h4,iN h5,iN (by omega)]
       rw[this]at hj';simp at hj'
      ·exfalso;have:ZF w t q=[]:=by unfold ZF;rw[iN h4,iN h5,iN (by omega)]
       rw[this]at hj';simp at hj'
      ·exact absurd h h3
      ·exact absurd h h4
      ·exact h
     have hty:ZF w t q=[t]:=by unfold ZF;rw[iN h4,iN h5,iP h6]
     have hsj:=hkid j hj' hj
     have hkv:∀x,x∈ZN w d (ZF w t q)[j] q.kids[j]->x∈ZN w (d+1) t q:=fun x hx=>ZIh h5 hj' hj hx
     have e1:(ZF w t q)[j]=t:=by
      have:j=0:=by rw[hty]at hj';simpa using hj'
      subst this;simp[hty]
     rw[e1]at hsj hkv
     exact ZFB hE d t q.kids[j] path u d' hsj hu hp m rest2 a1 a2 fun hb=>a3 fun b hb2=>(hb b hb2).mono hkv
    ·rcases yA.1 hb2 with hb2|hb2
     ·split at hb2
      ·next h26=>
       rw[yO.1 hb2]
       exact⟨u,hu,t,d',by rw[ZN,iP h26];simp,hp⟩
      ·cases hb2
     ·exact hb b hb2
theorem ZEh {w:List Data}{C:List Step}{v:Value}{N:Nat}{t:Ty}{d':Nat}{T:Step->Prop}(hv:pv w false d' t v)(c e:Nat)(hc:c<N)(hE:RunT C v N T e):∀(qs:List Pattern) (n:Nat) (rest:List Step),(∀q,q∈qs->q.wt<=900/\ZFp w 10 t q)->
  (∀q,q∈qs->∀s:Step,s.clause=(c:Int)->(∀b,b∈s.binds↔b∈q.bnd [])->(∀b,b∈q.bnd []->okVr w v (ZN w 10 t q) b)->T s)->
  C.drop n=Zk (fun _=>(e:Int)) c n qs++rest->n+(Zk (fun _=>(e:Int)) c n qs).length=e->RunT C v N T n
 | [],n,rest,_,_,hd,hl=>by
  simp only[Zk,yF]at hl
  rw[show n=e by omega];exact hE
 |q::r,n,rest,hq,hT,hd,hl=>by
  obtain⟨hw,hs⟩:=hq q (yH ..)
  simp only[Zk,zU,yJ,yG,yF,zY]at hd hl
  have hd2:=ZIo hd
  rw[yJ]at hd2
  have hd3:C.drop (n+(q.tst []).length+1)=Zk (fun _=>(e:Int)) c (n+(q.tst []).length+1) r++rest:=by
   rw[←List.drop_drop,hd2];rfl
  have ih:=ZEh hv c e hc hE r (n+(q.tst []).length+1) rest (fun x hx=>hq x (yC _ hx)) (fun x hx=>hT x (yC _ hx)) hd3 (by omega)
  have hg:=ZFZ hd2
  refine ZFB ih 10 t q [] v d' hs rfl hv n _ hd (by show n+(q.tst []).length<n+(q.tst []).length+1;omega) fun hb=> ?_
  refine .take _ e c _ hg rfl (hT q (yH ..) _ rfl (fun b=>ZCJ) hb) (fun b hb2=>let⟨u,hu,_⟩:=hb b (ZCJ.1 hb2);⟨u,hu⟩) ?_ rfl hc rfl (by omega) hE
  have:=ZEA q []
  show(sortI (fun x=>x.var) (q.bnd [])).length<=_
  rw[ZDc];omega
theorem ZEy {w:List Data}{v:Value}{N:Nat}{t:Ty}{d':Nat}{T:Step->Prop}(hv:pv w false d' t v):∀(vs:List (List Pattern)) (i:Nat) (o:List Step),(∀x,x∈vs->∀q,q∈x->q.wt<=900/\ZFp w 10 t q)->
  (∀k (h:k<vs.length),∀q,q∈vs[k]->∀s:Step,s.clause=((i+k:Nat):Int)->(∀b,b∈s.binds↔b∈q.bnd [])->(∀b,b∈q.bnd []->okVr w v (ZN w 10 t q) b)->T s)->i+vs.length<=N->
  RunT (ZBY i o vs++[ZFW]) v N T o.length
 | [],i,o,h,hT,hn=>by
  refine .fail _ ZFW ?_ rfl
  rw[ZBY,List.getElem?_append_right (zA _),zO];rfl
 |x::r,i,o,h,hT,hn=>by
  rw[yG]at hn
  have ih:=ZEy (N:=N) hv r (i+1) (clS i o x) (fun y hy=>h y (yC _ hy)) (fun k hk q hq s hs=>hT (k+1) (by simp;omega) q hq s (by rw[hs];omega)) (by omega)
  obtain⟨a,ha⟩:=ZGk r (i+1) (clS i o x)
  rw[ZBY]
  have hE:(clS i o x).length=o.length+(Zk (fun _=>0) i o.length x).length:=by unfold clS;rw[zU,ZBj _ (fun _=>0)]
  rw[hE]at ih
  refine ZEh hv i _ (by omega) ih x o.length (a++[ZFW]) (h x (yH ..)) (hT 0 (by simp)) ?_ (by rw[ZBj _ (fun _=>0)])
  rw[ha];unfold clS
  rw[zY,zY,yX]
def gT (l:List Clause)(v:Value)(s:Step):Prop:=∀c (h:c<l.length),s.clause=(c:Int)->l[c].guard.op=0∨((∃b,b∈s.binds/\b.var=l[c].guard.var)/\∀b,b∈s.binds->b.var=l[c].guard.var->∃u,vAt b.path v=some u/\u.ctor= -1)
theorem ZQ1 :∀{e:Nat} {t:Ty} {v:Value},pv w false e t v->t.data= -1->v.ctor= -1
 |e+1,t,v,h,ht=>by
  unfold pv at h
  rcases h with h|⟨_,h|h⟩
  ·simp at h
  ·exact h.2.1
  ·exact absurd ht h.1
theorem ZLE {t:Ty}{l:List Clause}(hc:ZO2 w t l)(ha:∀c,c∈l->c.pat.alts<=40)(hv:pv w false 10 t v):
  RunT (ZBY 0 [] (l.map fun c=>c.pat.splits)++[ZFW]) v l.length (gT l v) 0/\(ZBY 0 [] (l.map fun c=>c.pat.splits)++[ZFW]).length<=60000000:=by
 have hq:∀c,c∈l->∀q,q∈c.pat.splits->q.wt<=900/\ZFp w 10 t q:=fun c h q hq=>by
  obtain⟨s1,s2,s3⟩:=ZAV 10 t c.pat (hc.2.2 c h).1.1 (hc.2.2 c h).1.2.1 q hq
  have:=(hc.2.2 c h).1.2.2
  exact⟨by omega,s1⟩
 have hl8:l.length<=8:=hc.2.1
 refine⟨ZEy hv _ 0 [] (fun x hx=> ?_) (fun k hk q hqk s hs hb hok c hcl hsc=> ?_) (by simp),?_⟩
 ·obtain⟨c,h,rfl⟩:=zZ.1 hx
  exact hq c h
 ·have:c=k:=by rw[hs]at hsc;omega
  subst this
  rw[yR]at hqk
  have hm:=gM hcl
  obtain⟨hp,hgd⟩:=hc.2.2 _ hm
  obtain⟨s1,s2,_⟩:=ZAV 10 t _ hp.1 hp.2.1 q hqk
  rcases hgd with h0|⟨_,_,_,hx⟩
  ·exact .inl h0.1
  ·refine .inr ⟨?_,fun b hbm hbv=> ?_⟩
   ·have h1:=s2.symm.mem_iff.1 (zZ.2 ⟨_,hx,rfl⟩)
    rw[←ZFh w 10 t q s1 []]at h1
    obtain⟨b,hb1,hb2⟩:=zZ.1 h1
    exact⟨b,(hb b).2 hb1,hb2⟩
   ·obtain⟨u,hu,τ,d',hτ,hpu⟩:=hok b ((hb b).1 hbm)
    have h1:=ZDb 10 t _ hp.1 hp.2.1 q hqk hτ
    have h2:=ZIY (ZAc hp.1 hp.2.1) h1 hx hbv
    have h3:τ=⟨-1,0⟩:=congrArg VarType.type h2
    exact⟨u,hu,ZQ1 hpu (by rw[h3])⟩
 ·have cl:=ZD5 (l.map fun c=>c.pat.splits) 0 [] fun x hx=>by
   obtain⟨c,h,rfl⟩:=zZ.1 hx
   exact⟨by rw[ZAP];exact ha c h,fun q hq'=>(hq c h q hq').1⟩
  rw[yJ,yF]at cl
  rw[zU,List.length_singleton];omega
theorem P.YBh (g:Guard)(v:Value)(l:List PathBind)(h0:g.op≠0):∀(m i:Nat),l.length-i=m->(∃b,b∈l.drop i/\b.var=g.var)->
  ∃j,∃h:j<l.length,l[j].var=g.var/\F.f211 l g.var i=some (.ret (j:Int))/\kW g l i=some (.ret (l[j].path,true))/\F.f223 (l.map (ZEC v)) g i=some (.ret (j:Int)):=by
 intro m
 induction m with
 |zero=>
  rintro i hm ⟨b,hb,_⟩
  rw[zT (by omega)]at hb;cases hb
 |succ m ih=>
  rintro i hm ⟨b,hb,hbv⟩
  have hi:i<l.length:=by omega
  rw[F.f211,kW,F.f223,iP hi,iP hi,iN h0,iP (show i<(l.map (ZEC v)).length by simpa using hi),gQ hi,List.getElem?_map,gQ hi]
  simp only[oE,oS,Option.map_some,F.f210,F.f222,decide_eq_true_eq,ZEC]
  by_cases hv:l[i].var=g.var
  ·rw[iP hv,iP hv,iP hv]
   exact⟨i,hi,hv,rfl,rfl,rfl⟩
  ·rw[iN hv,iN hv,iN hv]
   rw[zS hi]at hb
   exact ih (i+1) (by omega) ⟨b,(yP.1 hb).resolve_left fun e=>hv (e▸hbv),hbv⟩
theorem P.YAz (g:Guard)(v:Value)(l:List PathBind)(h0:g.op≠0)(hb:∃b,b∈l/\b.var=g.var)(hu:∀b,b∈l->b.var=g.var->∃u,vAt b.path v=some u/\u.ctor= -1):
  ∃p u q,vAt p v=some u/\F.f213 l g.var=some p/\kN g l=some (p,true)/\kL g (l.map (ZEC v))=some q/\kU g u.n=some q:=by
 obtain⟨j,hj,hjv,e1,e2,e3⟩:=P.YBh g v l h0 _ 0 rfl (by simpa using hb)
 obtain⟨u,hu1,hu2⟩:=hu _ (gM hj) hjv
 obtain⟨q,hq⟩:∃q,kU g u.n=some q:=by
  unfold kU
  split
  ·split<;>exact⟨_,rfl⟩
  ·split<;>exact⟨_,rfl⟩
 refine⟨l[j].path,u,q,hu1,?_,?_,?_,hq⟩
 ·unfold F.f213 F.f212
  rw[e1]
  simp only[oE,oS]
  rw[ZCe hj];rfl
 ·unfold kN
  rw[e2];rfl
 ·unfold kL F.f224
  rw[iN h0,e3]
  simp only[oE,oS]
  have hj2:j<(l.map (ZEC v)).length:=by simpa using hj
  rw[iN (by omega),ZCe hj2,yR]
  simp only[oS,ZEC,hu1,Option.getD_some]
  rw[iP hu2,←hq];rfl
theorem P.YBZ (ps:List (List Int))(hl:ps.length<=60000000)(hp:∀p,p∈ps->p.length<=1048576):∀(m i:Nat) (out:List (List Int)),ps.length-i=m->out.length<=i->kV ps out i=some ((ps.drop i).foldl ZC5 out):=by
 intro m
 induction m with
 |zero=>
  intro i out hm ho
  rw[kV,iN (by omega),zT (by omega)];rfl
 |succ m ih=>
  intro i out hm ho
  have hi:i<ps.length:=by omega
  rw[kV,iP hi,gQ hi,zS hi,yL]
  simp only[oE,oS]
  rw[P.YAX]
  simp only[oS]
  unfold ZC5
  by_cases h:ps[i]∈out
  ·rw[iP (dec_of h),iP h]
   exact ih (i+1) out (by omega) (by omega)
  ·have:=hp _ (gM hi)
   rw[iN (by rw[ZB h];decide),iN h,iP (by omega),iP (by omega)]
   exact ih (i+1) _ (by omega) (by simp;omega)
theorem P.YI (ps:List (List Int))(hl:ps.length<=60000000)(hp:∀p,p∈ps->p.length<=1048576):F.f124 ps=some (ps.foldl ZC5 []):=by
 unfold F.f124
 rw[P.YBZ ps hl hp _ 0 [] rfl (zA _)];rfl
theorem ZHj {C:List Step}{l:List Clause}(hC:C.length<=60000000)(hv:v.wt<=1048576){k:Nat}(h:RunT C v l.length (gT l v) k):∀(n:Nat) (used:List (List Int)),n<=k->used.length<=k->(∀p,p∈used->p.length<=1048576)->
  ∃(c:Int) (bs:List Bind) (z:Int) (ps:List (List Int)),kJ C l v l (used.foldl ZC5 []) n (k:Int)=some (c,bs,z,ps.foldl ZC5 [])/\ps.length<=60000000/\(∀p,p∈ps->p.length<=1048576)/\
   ((kI l v (C,true) used (k:Int)=some (.ret (ps.foldl ZC5 [])))∨kI l v (C,true) used (k:Int)=some (.go ps)):=by
 induction h with
 |fail k s h h3=>
  intro n used hn hp hpl
  have hkl:k<C.length:=(yY.1 h).1
  rw[kJ,kI,ZE0,h]
  simp only[oE,oS]
  rw[iP h3,iP h3]
  exact⟨_,_,_,used,rfl,by omega,hpl,.inr rfl⟩
 |take k j c s h h2 hT hb hl hc hn ht hk r ih=>
  intro n used hn2 hp hpl
  have hkl:k<C.length:=(yY.1 h).1
  have hfl:=ZD3 used []
  rw[kJ,kI,ZE0,h]
  simp only[oE,oS,F.f214]
  rw[iN (show ¬s.op=3 by omega),iN (show ¬s.op=1 by omega),iN (show ¬s.op=3 by omega),iN (show ¬s.op=1 by omega),hc,ZCe hn]
  simp only[oS]
  by_cases h0:(l[c]).guard.op=0
  ·have q1:kL (l[c]).guard (s.binds.map (ZEC v))=some true:=by unfold kL;rw[iP h0]
   have q2:kN (l[c]).guard s.binds=some ([],false):=by
    unfold kN
    rw[kW,iP h0,ite_self];rfl
   rw[iP h0,q2]
   simp only[oS]
   rw[iN (show ¬s.op=1 by omega),P.Yu _ v hb (by omega) (by omega)]
   simp only[oS]
   rw[q1,P.YI used (by omega) hpl]
   exact⟨_,_,_,used,rfl,by omega,hpl,.inl rfl⟩
  ·obtain⟨b1,b2⟩:=(hT c hn hc).resolve_left h0
   obtain⟨p,u,q,g1,g2,g3,g4,g5⟩:=P.YAz _ v _ h0 b1 b2
   have hsl:=ZG4 _ _ _ g1
   have hpl':∀x,x∈used++[p]->x.length<=1048576:=fun x hx=>(yA.1 hx).elim (hpl x) fun h=>by rw[yO.1 h];omega
   have hul:(used++[p]).length<=k+1:=by simp;omega
   rw[iN h0,g2,g3]
   simp only[oS]
   rw[P.YY _ _ (by simp at hfl;omega) (by omega)]
   simp only[oS]
   rw[iN (show ¬s.op=1 by omega),P.Yu _ v hb (by omega) (by omega),iP trivial,iP (show used.length+1<=67108864 by omega),P.YAM,g1]
   simp only[oS]
   rw[g4,g5,←ZEr]
   simp only[oS]
   cases q with
   |true=>
    rw[iP rfl,iP rfl,P.YI _ (by omega) hpl']
    exact⟨_,_,_,used++[p],rfl,by omega,hpl',.inl rfl⟩
   |false=>
    rw[iN (by decide),iN (by decide),ht]
    exact ih n (used++[p]) (by omega) (by omega) hpl'
 |test k j s u h h1 hu ht hk hps r ih1 ih2=>
  intro n used hn hp hpl
  have hkl:k<C.length:=(yY.1 h).1
  have hsl:=ZG4 _ _ _ hu
  have hfl:=ZD3 used []
  rw[kJ,kI,ZE0,h]
  simp only[oE,oS,F.f214]
  rw[iN (show ¬s.op=3 by omega),iP h1,P.YY _ _ (by simp at hfl;omega) (by omega)]
  simp only[oS]
  rw[iP h1,iN (show ¬s.op=3 by omega),iP h1,iP (show n+1<=9223372036854775807 by omega),iP (show used.length+1<=67108864 by omega),P.YAO,P.YAM,hu]
  simp only[oS]
  rw[P.YAb,P.Yz]
  simp only[oS]
  have hpl':∀x,x∈used++[s.path]->x.length<=1048576:=fun x hx=>(yA.1 hx).elim (hpl x) fun h=>by rw[yO.1 h];omega
  have hul:(used++[s.path]).length<=k+1:=by simp;omega
  rw[←ZEr]
  by_cases hq:ZJJ s u
  ·rw[dec_of hq,iP rfl,iP rfl,ZD (by omega) (by omega)]
   exact ih1 hq (n+1) (used++[s.path]) (by omega) (by omega) hpl'
  ·rw[ZB hq,iN (by decide),iN (by decide),ht]
   exact ih2 (n+1) (used++[s.path]) (by omega) (by omega) hpl'
theorem P.Ye (w:List Data)(hw:ZAi w)(t:Ty)(l:List Clause)(v:Value)(hp:∀c,c∈l->c.pat.wt<=1048576)(hv:v.wt<=1048576):
  ∃r:List (List Int),F.f228 w t l v=some r/\F.f127 w t l v=some r/\∃ps:List (List Int),r=ps.foldl ZC5 []/\ps.length<=60000000/\(∀p,p∈ps->p.length<=1048576):=by
 obtain⟨C,b,e1,e2,e3⟩:=P.YAd w hw t l hp fun hc c h=>(hc.2.2 c h).1
 unfold F.f228 F.f127
 rw[e1,e2]
 simp only[oE,oS]
 have none:∃r:List (List Int),some ([]:List (List Int))=some r/\some ([]:List (List Int))=some r/\∃ps:List (List Int),r=ps.foldl ZC5 []/\ps.length<=60000000/\(∀p,p∈ps->p.length<=1048576):=⟨_,rfl,rfl,[],rfl,by simp,fun p h=>by cases h⟩
 cases b with
 |false=>rw[iN (by decide),iN (by decide)];exact none
 |true=>
  obtain⟨hc,ha,rfl⟩:=e3 rfl
  rw[iP rfl,iP rfl,P.YAY w t v hc.1 hv,P.YBC w t v hc.1 hv]
  simp only[oS]
  by_cases hg:pv w false 10 t v/\1+v.wt<=60
  ·rw[iP (dec_of hg),iP (dec_of hg)]
   obtain⟨h1,h2⟩:=ZLE hc ha hg.1
   obtain⟨c,bs,z,ps,q1,q2,q3,q4⟩:=ZHj h2 hv h1 0 [] (zB _) (zB _) (fun p hp=>by cases hp)
   unfold F.f227
   have q1:kJ (ZBY 0 [] (l.map fun c=>c.pat.splits)++[ZFW]) l v l [] 0 0=some (c,bs,z,ps.foldl ZC5 []):=q1
   rw[q1]
   rcases q4 with q4|q4
   ·have q4:kI l v (ZBY 0 [] (l.map fun c=>c.pat.splits)++[ZFW],true) [] 0=some (.ret (ps.foldl ZC5 [])):=q4
    rw[q4]
    exact⟨_,rfl,rfl,ps,rfl,q2,q3⟩
   ·have q4:kI l v (ZBY 0 [] (l.map fun c=>c.pat.splits)++[ZFW],true) [] 0=some (.go ps):=q4
    rw[q4]
    simp only[oE,oS]
    rw[P.YI ps q2 q3]
    exact⟨_,rfl,rfl,ps,rfl,q2,q3⟩
  ·rw[iN (by rw[ZB hg];decide),iN (by rw[ZB hg];decide)]
   exact none
end Go.Vl
