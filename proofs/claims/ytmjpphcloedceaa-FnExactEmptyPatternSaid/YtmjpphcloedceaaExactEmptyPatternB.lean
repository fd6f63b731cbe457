/- Part. -/
import Derived.Test.YtmjpphcloedceaaExactEmptyPatternP
set_option linter.all false
set_option maxRecDepth 100000
open Option.some renaming inj->zA
open Nat renaming le_refl->zB,zero_le->zC,le_trans->zD,lt_trans->zE
open List renaming drop_eq_getElem_cons->zF,drop_eq_nil_of_le->zG,drop_zero->zH,mem_take_iff_getElem->zI,getElem_of_mem->zJ,exists_cons_of_length_pos->zK,mem_map->zL,length_nil->zM,length_cons->zN,take_of_length_le->zO,getElem?_eq_none->zP,mem_cons_of_mem->zQ,mem_cons_self->zR,length_append->zS,map_cons->zT,mem_append->zU,foldl_cons->zV,mem_cons->zW,nil_append->zX,getD_eq_getElem?_getD->zY,sum_cons->zZ,sizeOf_lt_of_mem->yA,take_succ_cons->yB,zip_cons_cons->yC,flatMap_cons->yD,ext_getElem?->yE,mem_flatMap->yF,nodup_cons->yG
open Classical renaming byContradiction->yH
open Bool renaming false_eq_true->yI
namespace Go.Vl
open Go Go.RowKit
open F renaming f88->yJ,f87->yK,f132->yL,f114->yM,f54->yN,f127->yO,f124->yP,f116->yQ,f48->yR,f79->yS,f62->yT,f60->yU,f33->yV,f31->yW,f30->yX,f29->yY,f27->yZ,f24->xA,f122->xB,f112->xC,f110->xD,f107->xE,f103->xF,f94->xG,f76->xH,f69->xI,f64->xJ,f58->xK,f56->xL,f53->xM,f51->xN,f50->xO,f41->xP,f131->xQ,f126->xR,f125->xS,f121->xT,f100->xU,f99->xV,f96->xW,f83->xX,f75->xY,f73->xZ,f72->vA,f71->vB,f63->vC,f52->vD,f39->vE,f34->vF
open Pattern renaming wt->vG,ind->vH
open Go.IntKind (i64)
variable {α β:Type}{f:α->Option β}
theorem oS {a:α}:(some a).bind f=f a:=rfl
theorem oE :(bind:Option α->(α->Option β)->Option β)=Option.bind:=rfl
theorem gQ {l:List α}{i:Nat}(h:i<l.length):l[i]? =some l[i]:=List.getElem?_eq_getElem h
theorem gM {l:List α}{n:Nat}(h:n<l.length):l[n]∈l:=List.getElem_mem h
theorem ZKm {a:α}:(some a>>=f)=f a:=rfl
theorem ZO9 {c:Prop}[Decidable c]{a b r:Option α}(h1:c->a=r)(h2:¬c->b=r):(if c then a else b)=r:=by
 by_cases h:c
 ·rw[iP h];exact h1 h
 ·rw[iN h];exact h2 h
noncomputable def ZFn {α:Type}(p:α->Prop):Nat->List α->Option Nat
 |_,[]=>none
 |k,x::r=>if dec (p x)=true then some k else ZFn p (k+1) r
theorem ZA8 {α:Type}{p:α->Prop}:∀{l:List α} {k j:Nat},ZFn p k l=some j->k<=j/\∃h:j-k<l.length,p l[j-k]/\∀i (hi:i<l.length),i<j-k->¬p l[i]
 |x::r,k,j,h=>by
  simp only[ZFn]at h
  split at h
  ·next hp=>
   obtain rfl:=zA h
   refine⟨zB _,by simp,?_,fun i _ hi=>by omega⟩
   simpa using Zr.1 hp
  ·next hp=>
   obtain⟨h1,h2,h3,h4⟩:=ZA8 h
   have e:j-k=(j- (k+1))+1:=by omega
   refine⟨by omega,by simp;omega,?_,fun i hi hlt=> ?_⟩
   ·simp only[e,List.getElem_cons_succ];exact h3
   ·cases i with
    |zero=>exact fun hq=>hp (dec_of hq)
    |succ i=>exact h4 i (by simpa using hi) (by omega)
theorem ZA9 {α:Type}{p:α->Prop}:∀{l:List α} {k:Nat},ZFn p k l=none->∀x,x∈l->¬p x
 | [],_,_=>fun x hx=>by cases hx
 |x::r,k,h=>by
  simp only[ZFn]at h
  split at h
  ·cases h
  ·next hp=>
   intro y hy
   rcases zW.1 hy with rfl|hy
   ·exact fun hq=>hp (dec_of hq)
   ·exact ZA9 h y hy
theorem ZLm {a:List α}{p:α->Prop}{L:Nat->Option (Lo Int Unit)}(h0:∀k,a.length<=k->L k=some (.go ()))(h1:∀k (h:k<a.length),¬p a[k]->L k=L (k+1))(h2:∀k (h:k<a.length),p a[k]->L k=some (.ret (k:Int))):∀(m k:Nat),a.length-k=m->L k=some (match ZFn p k (a.drop k)with|some j=>.ret (j:Int)|none=>.go ()):=by
 intro m
 induction m with
 |zero=>intro k hm;rw[h0 k (by omega),zG (by omega)];rfl
 |succ m ih=>
  intro k hm
  have hk:k<a.length:=by omega
  rw[zF hk]
  by_cases hp:p a[k]
  ·rw[h2 k hk hp];simp only[ZFn];rw[iP (dec_of hp)]
  ·rw[h1 k hk hp,ih (k+1) (by omega)];simp only[ZFn];rw[iN (by rw[ZA hp];simp)]
def ZMO (c:Nat):Prop:=65<=c/\c<=90
def ZD6 (s:ByteArray):Prop:=s.size=1/\ZMO (byteAt s 0)/\s≠⟨#[73]⟩
def ZEW (s:ByteArray):Prop:=1<=s.size/\s.size<=5/\ZMO (byteAt s 0)/\∀i,1<=i->i<s.size->97<=byteAt s i/\byteAt s i<=122
def ZBd (n:Nat)(t:Ty):Prop:=(t.data= -1/\t.index=0)∨(0<=t.data/\t.data<n/\-1<=t.index/\t.index<=3)
def ZDd (n:Nat)(c:Ctor):Prop:=ZEW c.name/\c.args.length<=3/\0<=c.index/\c.index<=3/\∀j,0<=j->(h:j<c.args.length)->ZBd n c.args[j]
theorem P.Ye (c:Nat):F.f22 c=some (dec (ZMO c)):=by
 unfold F.f22
 by_cases h:65<=(c:Int)
 ·rw[iP h];congr 1;rw[←ZA2];exact ZL ⟨fun h'=>⟨by omega,by omega⟩,fun h'=>by have:=h'.2;omega⟩
 ·rw[iN h,ZA fun h'=>h (by have:=h'.1;omega)]
theorem P.YAD (s:ByteArray):F.f23 s=some (dec (ZD6 s)):=by
 unfold F.f23
 by_cases h:s.size=1
 ·rw[iP h,iP (by omega),P.Ye]
  simp only[oE,oS]
  by_cases hb:ZMO (byteAt s 0)
  ·rw[iP (dec_of hb)];congr 1;rw[←ZA2];exact ZL ⟨fun h'=>⟨h,hb,fun e=>h' (by rw[e])⟩,fun h' e=>h'.2.2 (Zx.1 e)⟩
  ·rw[iN (by rw[ZA hb];simp),ZA fun h'=>hb h'.2.1]
 ·rw[iN h,ZA fun h'=>h h'.1]
theorem P.Yy (s:ByteArray)(hs:s.size<=1048576):xA s 1=some (if dec (∀i,1<=i->i<s.size->97<=byteAt s i/\byteAt s i<=122)=true then .go ()else .ret false):=by
 refine ZHr (L:=xA s) (fun k hk=> ?_) (fun k hk hq=> ?_) (fun k hk hq=> ?_) _ 1 rfl
 ·rw[xA,iN (by omega)]
 ·rw[xA,iP hk,iN (by omega),iN (by omega),iP (by omega)]
 ·rw[xA,iP hk]
  by_cases h:byteAt s k<97
  ·rw[iP h]
  ·rw[iN h,iP (by omega)]
theorem P.YAA (s:ByteArray)(hs:s.size<=1048576):yS s 1=some (if dec (∀i,1<=i->i<s.size->97<=byteAt s i/\byteAt s i<=122)=true then .go ()else .ret false):=by
 refine ZHr (L:=yS s) (fun k hk=> ?_) (fun k hk hq=> ?_) (fun k hk hq=> ?_) _ 1 rfl
 ·rw[yS,iN (by omega)]
 ·rw[yS,iP hk,iN (by omega),iN (by omega),iP (by omega)]
 ·rw[yS,iP hk]
  by_cases h:byteAt s k<97
  ·rw[iP h]
  ·rw[iN h,iP (by omega)]
theorem P.Yg (s:ByteArray)(hs:s.size<=1048576):F.f25 s=some (dec (ZEW s)):=by
 unfold F.f25
 by_cases h0:s.size=0
 ·rw[iP h0,ZA fun h=>by have:=h.1;omega]
 by_cases h5:5<s.size
 ·rw[iN h0,iP h5,ZA fun h=>by have:=h.2.1;omega]
 rw[iN h0,iN h5,iP (by omega),P.Ye]
 simp only[oE,oS]
 by_cases hb:ZMO (byteAt s 0)
 ·rw[iP (dec_of hb),P.Yy s hs]
  simp only[oS]
  by_cases hall:∀i,1<=i->i<s.size->97<=byteAt s i/\byteAt s i<=122
  ·rw[iP (dec_of hall),dec_of ⟨by omega,by omega,hb,hall⟩]
  ·rw[iN (by rw[ZA hall];simp),ZA fun h=>hall h.2.2.2]
 ·rw[iN (by rw[ZA hb];simp),ZA fun h=>hb h.2.2.1]
theorem P.YC (n low high:Int):F.f78 n low high=some (dec (low<=n/\n<=high)):=by
 unfold F.f78
 by_cases h:low<=n
 ·rw[iP h];congr 1;rw[←ZA2];exact ZL ⟨fun h'=>⟨h,h'⟩,fun h'=>h'.2⟩
 ·rw[iN h,ZA fun h'=>h h'.1]
theorem P.Yk (s:ByteArray)(hs:s.size<=1048576):F.f80 s=some (dec (ZEW s)):=by
 unfold F.f80
 rw[P.YC]
 simp only[oE,oS]
 by_cases h0:1<=(s.size:Int)/\(s.size:Int)<=5
 ·rw[iP (dec_of h0),iP (by omega)]
  by_cases a1:byteAt s 0<65
  ·rw[iP a1,ZA fun h=>by have:=h.2.2.1.1;omega]
  by_cases a2:90<byteAt s 0
  ·rw[iN a1,iP a2,ZA fun h=>by have:=h.2.2.1.2;omega]
  rw[iN a1,iN a2,P.YAA s hs]
  simp only[oS]
  by_cases hall:∀i,1<=i->i<s.size->97<=byteAt s i/\byteAt s i<=122
  ·rw[iP (dec_of hall),dec_of ⟨by omega,by omega,⟨by omega,by omega⟩,hall⟩]
  ·rw[iN (by rw[ZA hall];simp),ZA fun h=>hall h.2.2.2]
 ·rw[iN (by rw[ZA h0];simp),ZA fun h=>h0 ⟨by have:=h.1;omega,by have:=h.2.1;omega⟩]
theorem P.YO (n:Nat)(t:Ty):F.f26 n t=some (dec (ZBd n t)):=by
 unfold F.f26
 by_cases h:t.data= -1
 ·rw[iP h];congr 1;rw[←ZA2];exact ZL ⟨fun h'=>.inl ⟨h,h'⟩,fun h'=>h'.elim (·.2) (fun h'=>by have:=h'.1;omega)⟩
 rw[iN h]
 by_cases h1:0<=t.data
 ·by_cases h2:t.data<n
  ·by_cases h3: -1<=t.index
   ·rw[iP h1,iP h2,iP h3];congr 1;rw[←ZA2];exact ZL ⟨fun h'=>.inr ⟨h1,h2,h3,h'⟩,fun h'=>h'.elim (fun h'=>absurd h'.1 h) (fun h'=>h'.2.2.2)⟩
   ·rw[iP h1,iP h2,iN h3,ZA fun h'=>h'.elim (fun h'=>h h'.1) (fun h'=>h3 h'.2.2.1)]
  ·rw[iP h1,iN h2,ZA fun h'=>h'.elim (fun h'=>h h'.1) (fun h'=>h2 h'.2.1)]
 ·rw[iN h1,ZA fun h'=>h'.elim (fun h'=>h h'.1) (fun h'=>h1 h'.1)]
theorem P.YAM (w:List Data)(t:Ty)(hw:w.length<=1048576):F.f81 w t=some (dec (ZBd w.length t)):=by
 unfold F.f81
 by_cases h:eq2 (t.data,t.index) (-1,0)
 ·rw[iP (dec_of h),dec_of (.inl h)]
 rw[iN (by rw[ZA h];simp),P.YC,ZE (by omega) (by omega)]
 simp only[oE,oS]
 by_cases h1:0<=t.data/\t.data<=(w.length:Int) -1
 ·rw[iP (dec_of h1),P.YC]
  simp only[oS]
  congr 1;exact ZL ⟨fun h'=>.inr ⟨h1.1,by omega,h'.1,h'.2⟩,fun h'=>h'.elim (fun h'=>absurd h' h) (fun h'=>h'.2.2)⟩
 ·rw[iN (by rw[ZA h1];simp),ZA fun h'=>h'.elim (fun h'=>h h') (fun h'=>h1 ⟨h'.1,by have:=h'.2.1;omega⟩)]
theorem P.YZ (n:Nat)(c:Ctor)(hs:c.name.size<=1048576):F.f28 n c=some (dec (ZDd n c)):=by
 unfold F.f28
 rw[P.Yg _ hs]
 simp only[oE,oS]
 by_cases h1:ZEW c.name
 ·rw[iP (dec_of h1)]
  by_cases h2:3<c.args.length
  ·rw[iP h2,ZA fun h=>by have:=h.2.1;omega]
  by_cases h3:c.index<0
  ·rw[iN h2,iP h3,ZA fun h=>by have:=h.2.2.1;omega]
  by_cases h4:3<c.index
  ·rw[iN h2,iN h3,iP h4,ZA fun h=>by have:=h.2.2.2.1;omega]
  rw[iN h2,iN h3,iN h4]
  have key:yZ n c 0=some (if dec (∀j,0<=j->j<c.args.length->∀h:j<c.args.length,ZBd n c.args[j])=true then .go ()else .ret false):=by
   refine ZHr (n:=c.args.length) (Q:=fun j=>∀h:j<c.args.length,ZBd n c.args[j]) (L:=yZ n c) (fun k hk=> ?_) (fun k hk hq=> ?_) (fun k hk hq=> ?_) _ 0 rfl
   ·rw[yZ,iN (by omega)]
   ·rw[yZ,iP hk,gQ hk]
    simp only[oE,oS]
    rw[P.YO]
    simp only[oS]
    rw[iP (dec_of (hq hk))]
   ·rw[yZ,iP hk,gQ hk]
    simp only[oE,oS]
    rw[P.YO]
    simp only[oS]
    rw[iN (by rw[ZA fun h=>hq fun _=>h];simp)]
  rw[key]
  simp only[oS]
  by_cases hall:∀j,0<=j->j<c.args.length->∀h:j<c.args.length,ZBd n c.args[j]
  ·rw[iP (dec_of hall),dec_of ⟨h1,by omega,by omega,by omega,fun j h0 hj=>hall j h0 hj hj⟩]
  ·rw[iN (by rw[ZA hall];simp),ZA fun h=>hall fun j h0 _ hj=>h.2.2.2.2 j h0 hj]
 ·rw[iN (by rw[ZA h1];simp),ZA fun h=>h1 h.1]
theorem P.Yt (t:Ty)(w:List Data)(hw:w.length<=1048576):F.f82 t w=some (!dec (ZBd w.length t)):=by
 unfold F.f82
 rw[P.YAM w t hw];rfl
theorem P.YAQ (w:List Data)(hw:w.length<=1048576)(s:List Ty):∃v,F.f84 s w=some v/\(0<=v↔¬∀j,0<=j->(h:j<s.length)->ZBd w.length s[j]):=by
 unfold F.f84
 have key:∀(m k:Nat),s.length-k=m->∃r,xX s w k=some r/\
   match r with| .ret j=>0<=j/\¬∀j,k<=j->(h:j<s.length)->ZBd w.length s[j]| .go _=>∀j,k<=j->(h:j<s.length)->ZBd w.length s[j]:=by
  intro m
  induction m with
  |zero=>
   intro k hm
   rw[xX,iN (by omega)]
   exact⟨_,rfl,fun j hj h=>by omega⟩
  |succ m ih=>
   intro k hm
   have hk:k<s.length:=by omega
   rw[xX,iP hk,gQ hk]
   simp only[oE,oS]
   rw[P.Yt _ _ hw]
   simp only[oS]
   by_cases h:ZBd w.length s[k]
   ·rw[iN (by rw[dec_of h];simp)]
    obtain⟨r,hr,hx⟩:=ih (k+1) (by omega)
    refine⟨r,hr,?_⟩
    cases r with
    |ret j=>exact⟨hx.1,fun hh=>hx.2 fun j hj hl=>hh j (by omega) hl⟩
    |go _=>
     intro j hj hl
     by_cases e:k=j
     ·subst e;exact h
     ·exact hx j (by omega) hl
   ·rw[iP (by rw[ZA h];simp)]
    exact⟨_,rfl,by omega,fun hh=>h (hh k (zB _) hk)⟩
 obtain⟨r,hr,hx⟩:=key _ 0 rfl
 rw[hr]
 cases r with
 |ret j=>exact⟨j,rfl,fun _=>hx.2,fun _=>hx.1⟩
 |go _=>exact⟨-1,rfl,fun h=>by omega,fun h=>absurd hx h⟩
theorem P.Yb (w:List Data)(c:Ctor)(hw:w.length<=1048576)(hs:c.name.size<=1048576):F.f86 w c=some (dec (ZDd w.length c)):=by
 unfold F.f86
 rw[P.Yk _ hs]
 simp only[oE,oS]
 by_cases h1:ZEW c.name
 ·rw[iP (dec_of h1)]
  by_cases h2:c.args.length<=3
  ·rw[iP h2,P.YC]
   simp only[oS]
   by_cases h3:0<=c.index/\c.index<=3
   ·rw[iP (dec_of h3)]
    unfold F.f85
    obtain⟨v,hv,hx⟩:=P.YAQ w hw c.args
    rw[hv]
    simp only[oE,oS]
    by_cases hall:∀j,0<=j->(h:j<c.args.length)->ZBd w.length c.args[j]
    ·have:¬0<=v:=fun h=>(hx.1 h) hall
     rw[dec_of ⟨h1,h2,h3.1,h3.2,hall⟩];simp[this]
    ·have:0<=v:=hx.2 hall
     rw[ZA fun h=>hall h.2.2.2.2];simp[this]
   ·rw[iN (by rw[ZA h3];simp),ZA fun h=>h3 ⟨h.2.2.1,h.2.2.2.1⟩]
  ·rw[iN h2,ZA fun h=>h2 h.2.1]
 ·rw[iN (by rw[ZA h1];simp),ZA fun h=>h1 h.1]
abbrev Zw (d:Data):List ByteArray:=d.ctors.map (·.name)
structure ctorAt (w:List Data)(i:Nat)(d:Data)(k:Nat)(c:Ctor):Prop where
 ok:ZDd w.length c
 new:c.name∉(w.take i).flatMap Zw++(d.ctors.take k).map (·.name)
structure dataAt (w:List Data)(i:Nat)(d:Data):Prop where
 name:ZD6 d.name
 new:d.name∉(w.take i).map (·.name)
 some:1<=d.ctors.length
 few:d.ctors.length<=4
 ctors:∀k,0<=k->k<d.ctors.length->∀h:k<d.ctors.length,ctorAt w i d k d.ctors[k]
def ZI (w:List Data):Prop:=w.length<=4/\∀i,0<=i->i<w.length->∀h:i<w.length,dataAt w i w[i]
def ZAX (w:List Data):Prop:=w.length<=1048576/\∀d,d∈w->∀c,c∈d.ctors->c.name.size<=1048576
theorem P.YL (w:List Data)(hw:ZAX w)(met4:List ByteArray)(i:Nat)(hi:i<w.length):yK w met4 i w[i] ((w.take i).flatMap Zw) 0=
  some (if dec (∀k,0<=k->k<w[i].ctors.length->∀h:k<w[i].ctors.length,ctorAt w i w[i] k w[i].ctors[k])=true then .go ((w.take i).flatMap Zw++Zw w[i])else .ret false):=by
 have key:=ZO1 (n:=w[i].ctors.length) (r:=false) (p:=(w.take i).flatMap Zw++Zw w[i]) (Q:=fun k=>∀h:k<w[i].ctors.length,ctorAt w i w[i] k w[i].ctors[k]) (L:=fun k=>yK w met4 i w[i] ((w.take i).flatMap Zw++(w[i].ctors.take k).map (·.name)) k)
  (fun k hk=>by
   show yK w met4 i w[i] ((w.take i).flatMap Zw++(w[i].ctors.take k).map (·.name)) k=_
   rw[yK,iN (by omega),zO hk])
  (fun k hk hq=>by
   show yK w met4 i w[i] ((w.take i).flatMap Zw++(w[i].ctors.take k).map (·.name)) k=yK w met4 i w[i] ((w.take i).flatMap Zw++(w[i].ctors.take (k+1)).map (·.name)) (k+1)
   have hc:=hq hk
   rw[yK,iP hk,gQ hk]
   simp only[oE,oS]
   rw[P.Yb w _ hw.1 (hw.2 _ (gM hi) _ (gM hk))]
   simp only[oS]
   rw[iP (dec_of hc.ok),iN (by rw[ZA hc.new];simp),ZBq,iN (by rw[ZA hc.new];simp),ZBf hk,List.append_assoc])
  (fun k hk hq=>by
   show yK w met4 i w[i] ((w.take i).flatMap Zw++(w[i].ctors.take k).map (·.name)) k=_
   rw[yK,iP hk,gQ hk]
   simp only[oE,oS]
   rw[P.Yb w _ hw.1 (hw.2 _ (gM hi) _ (gM hk))]
   simp only[oS]
   by_cases h1:ZDd w.length w[i].ctors[k]
   ·rw[iP (dec_of h1),iP (dec_of ?_)]
    apply yH
    intro h2
    exact hq fun _=>⟨h1,h2⟩
   ·rw[iN (by rw[ZA h1];simp)]) _ 0 rfl
 simpa using key
theorem P.Yp (w:List Data)(hw:ZAX w):yJ w [] [] 0=some (if dec (∀i,0<=i->i<w.length->∀h:i<w.length,dataAt w i w[i])=true then .go (w.flatMap Zw,w.map (·.name))else .ret false):=by
 have key:=ZO1 (n:=w.length) (r:=false) (p:=(w.flatMap Zw,w.map (·.name))) (Q:=fun i=>∀h:i<w.length,dataAt w i w[i]) (L:=fun i=>yJ w ((w.take i).flatMap Zw) ((w.take i).map (·.name)) i)
  (fun i hi=>by
   show yJ w ((w.take i).flatMap Zw) ((w.take i).map (·.name)) i=_
   rw[yJ,iN (by omega),zO hi])
  (fun i hi hq=>by
   show yJ w ((w.take i).flatMap Zw) ((w.take i).map (·.name)) i=yJ w ((w.take (i+1)).flatMap Zw) ((w.take (i+1)).map (·.name)) (i+1)
   have hd:=hq hi
   have hn:=hd.name
   have hbig:=hn.2.1
   unfold ZMO at hbig
   have:=hw.1
   rw[yJ,iP hi,gQ hi]
   simp only[oE,oS]
   have:=hd.some;have:=hd.few
   rw[iP hn.1,iP (by have:=hn.1;omega),iN (by omega),iN (by omega),iN (fun h=>hn.2.2 (Zx.1 h)),iN (by rw[ZA hd.new];simp),P.YC]
   simp only[oS]
   rw[iP (dec_of (by omega)),P.YL w hw _ i hi,iP (dec_of hd.ctors)]
   simp only[oS]
   rw[iP (by omega),ZBq,iN (by rw[ZA hd.new];simp),ZBf hi,ZB1 hi])
  (fun i hi hq=>by
   show yJ w ((w.take i).flatMap Zw) ((w.take i).map (·.name)) i=_
   have:=hw.1
   rw[yJ,iP hi,gQ hi]
   simp only[oE,oS]
   by_cases h1:w[i].name.size=1
   ·rw[iP h1,iP (by omega)]
    by_cases h2:byteAt w[i].name 0<65
    ·rw[iP h2]
    by_cases h3:90<byteAt w[i].name 0
    ·rw[iN h2,iP h3]
    by_cases h4:w[i].name.toList=(⟨#[73]⟩:ByteArray).toList
    ·rw[iN h2,iN h3,iP h4]
    by_cases h5:w[i].name∈(w.take i).map (·.name)
    ·rw[iN h2,iN h3,iN h4,iP (dec_of h5)]
    rw[iN h2,iN h3,iN h4,iN (by rw[ZA h5];simp),P.YC]
    simp only[oS]
    by_cases h6:1<=(w[i].ctors.length:Int)/\(w[i].ctors.length:Int)<=4
    ·rw[iP (dec_of h6),P.YL w hw _ i hi,iN (by
      rw[ZA fun hh=>hq fun _=>⟨⟨h1,⟨by omega,by omega⟩,fun e=>h4 (by rw[e])⟩,h5,by omega,by omega,hh⟩];simp)]
     rfl
    ·rw[iN (by rw[ZA h6];simp)]
   ·rw[iN h1]) _ 0 rfl
 simpa using key
theorem P.Yd (w:List Data)(hw:ZAX w):F.f89 w=some (dec (ZI w)):=by
 unfold F.f89
 by_cases h:4<w.length
 ·rw[iP h,ZA fun hh=>by have:=hh.1;omega]
 rw[iN h,P.Yp w hw]
 simp only[oE,oS]
 by_cases hall:∀i,0<=i->i<w.length->∀h:i<w.length,dataAt w i w[i]
 ·rw[iP (dec_of hall),dec_of ⟨by omega,hall⟩]
 ·rw[iN (by rw[ZA hall];simp),ZA fun hh=>hall hh.2]
theorem P.YAC (w:List Data)(hw:ZAX w)(d k i:Nat)(hd:d<w.length)(hk:k<w[d].ctors.length)(hi:i<d)(hl:w[d].ctors.length<=4)(hli:w[i].ctors.length<=4):yY w d k i 0=
  some (if dec (∀j,0<=j->j<w[i].ctors.length->∀h:j<w[i].ctors.length,w[i].ctors[j].name≠w[d].ctors[k].name)=true then .go ()else .ret true):=by
 have hi':i<w.length:=by omega
 refine ZHr (n:=w[i].ctors.length) (r:=true) (Q:=fun j=>∀h:j<w[i].ctors.length,w[i].ctors[j].name≠w[d].ctors[k].name) (L:=yY w d k i) (fun j hj=> ?_) (fun j hj hq=> ?_) (fun j hj hq=> ?_) _ 0 rfl
 ·rw[yY,gQ hi']
  simp only[oE,oS]
  rw[iN (by omega)]
 ·rw[yY,gQ hi']
  simp only[oE,oS]
  rw[iP hj,iP (by omega),ZDI hd]
  simp only[oS]
  rw[iP (by omega),gQ hj,ZDI hk]
  simp only[oS]
  rw[iN (fun h=>hq hj (Zx.1 h)),iP (by omega)]
 ·rw[yY,gQ hi']
  simp only[oE,oS]
  rw[iP hj,iP (by omega),ZDI hd]
  simp only[oS]
  rw[iP (by omega),gQ hj,ZDI hk]
  simp only[oS]
  rw[iP (Zx.2 (yH fun h=>hq fun _=>h))]
theorem P.YAB (w:List Data)(hw:ZAX w)(d k:Nat)(hd:d<w.length)(hk:k<w[d].ctors.length)(hl:w[d].ctors.length<=4):yX w d k d 0=
  some (if dec (∀j,0<=j->j<k->∀h:j<w[d].ctors.length,w[d].ctors[j].name≠w[d].ctors[k].name)=true then .go ()else .ret true):=by
 refine ZHr (n:=k) (r:=true) (Q:=fun j=>∀h:j<w[d].ctors.length,w[d].ctors[j].name≠w[d].ctors[k].name) (L:=yX w d k d) (fun j hj=> ?_) (fun j hj hq=> ?_) (fun j hj hq=> ?_) _ 0 rfl
 ·rw[yX,gQ hd]
  simp only[oE,oS]
  rcases Nat.lt_or_ge j w[d].ctors.length with h|h
  ·rw[iP h,iN (by omega),iN (by omega)]
  ·rw[iN (by omega)]
 ·have hj':j<w[d].ctors.length:=zE hj hk
  rw[yX,gQ hd]
  simp only[oE,oS]
  rw[iP hj',iN (by omega),iP (by omega),ZDI hd]
  simp only[oS]
  rw[iP (by omega),gQ hj',ZDI hk]
  simp only[oS]
  rw[iN (fun h=>hq hj' (Zx.1 h)),iP (by omega)]
 ·have hj':j<w[d].ctors.length:=zE hj hk
  rw[yX,gQ hd]
  simp only[oE,oS]
  rw[iP hj',iN (by omega),iP (by omega),ZDI hd]
  simp only[oS]
  rw[iP (by omega),gQ hj',ZDI hk]
  simp only[oS]
  rw[iP (Zx.2 (yH fun h=>hq fun _=>h))]
structure fresh (w:List Data)(d k i:Nat)(hd:d<w.length)(hk:k<w[d].ctors.length):Prop where
 data:i<d->∀h:i<w.length,w[i].name≠w[d].name
 ctor:i<d->∀h:i<w.length,∀j,0<=j->j<w[i].ctors.length->∀h:j<w[i].ctors.length,w[i].ctors[j].name≠w[d].ctors[k].name
 own:i=d->∀j,0<=j->j<k->∀h:j<w[d].ctors.length,w[d].ctors[j].name≠w[d].ctors[k].name
theorem P.YQ (w:List Data)(hw:ZAX w)(d k:Nat)(hd:d<w.length)(hk:k<w[d].ctors.length)(hw4:w.length<=4)(hl:∀i,i<=d->∀h:i<w.length,w[i].ctors.length<=4):F.f32 w d k=some (!dec (∀i,0<=i->i<d+1->fresh w d k i hd hk)):=by
 unfold F.f32
 have key:yW w d k 0=some (if dec (∀i,0<=i->i<d+1->fresh w d k i hd hk)=true then .go ()else .ret true):=by
  refine ZHr (n:=d+1) (r:=true) (Q:=fun i=>fresh w d k i hd hk) (L:=yW w d k) (fun i hi=> ?_) (fun i hi hq=> ?_) (fun i hi hq=> ?_) _ 0 rfl
  ·rw[yW,iN (by omega)]
  ·rw[yW,iP (by omega)]
   by_cases h:i<d
   ·have hi':i<w.length:=by omega
    rw[iP (by omega),gQ hi',ZDI hd]
    simp only[oE,oS]
    rw[iN (fun e=>hq.data h hi' (Zx.1 e)),P.YAC w hw d k i hd hk h (hl d (zB _) hd) (hl i (by omega) hi'),iP (dec_of (hq.ctor h hi'))]
    simp only[oS]
    rw[iP (by omega)]
   ·obtain rfl:i=d:=by omega
    rw[iN (by omega),P.YAB w hw i k hd hk (hl i (zB _) hd),iP (dec_of (hq.own rfl))]
    simp only[oE,oS]
    rw[iP (by omega)]
  ·rw[yW,iP (by omega)]
   by_cases h:i<d
   ·have hi':i<w.length:=by omega
    rw[iP (by omega),gQ hi',ZDI hd]
    simp only[oE,oS]
    by_cases hn:w[i].name=w[d].name
    ·rw[iP (Zx.2 hn)]
    ·rw[iN (fun e=>hn (Zx.1 e)),P.YAC w hw d k i hd hk h (hl d (zB _) hd) (hl i (by omega) hi'),iN (by rw[ZA fun hh=>hq ⟨fun _ _=>hn,fun _ _=>hh,fun e=>by omega⟩];simp)]
     rfl
   ·obtain rfl:i=d:=by omega
    rw[iN (by omega),P.YAB w hw i k hd hk (hl i (zB _) hd),iN (by rw[ZA fun hh=>hq ⟨fun e=>by omega,fun e=>by omega,fun _=>hh⟩];simp)]
    rfl
 rw[key]
 simp only[oE,oS]
 by_cases hall:∀i,0<=i->i<d+1->fresh w d k i hd hk
 ·rw[iP (dec_of hall),dec_of hall];rfl
 ·rw[iN (by rw[ZA hall];simp),ZA hall];rfl
theorem ZCt (w:List Data)(d k:Nat)(hd:d<w.length)(hk:k<w[d].ctors.length):(∀i,0<=i->i<d+1->fresh w d k i hd hk)↔w[d].name∉(w.take d).map (·.name)/\w[d].ctors[k].name∉(w.take d).flatMap Zw++(w[d].ctors.take k).map (·.name):=by
 constructor
 ·intro h
  refine⟨fun hm=> ?_,fun hm=> ?_⟩
  ·obtain⟨x,hx,e⟩:=zL.1 hm
   obtain⟨i,hi,rfl⟩:=zI.1 hx
   exact(h i (by omega) (by omega)).data (by omega) (by omega) e
  ·rcases zU.1 hm with hm|hm
   ·obtain⟨x,hx,hc⟩:=yF.1 hm
    obtain⟨i,hi,rfl⟩:=zI.1 hx
    obtain⟨c,hc,e⟩:=zL.1 hc
    obtain⟨j,hj,rfl⟩:=zJ hc
    exact(h i (by omega) (by omega)).ctor (by omega) (by omega) j (by omega) hj hj e
   ·obtain⟨c,hc,e⟩:=zL.1 hm
    obtain⟨j,hj,rfl⟩:=zI.1 hc
    exact(h d (by omega) (by omega)).own rfl j (by omega) (by omega) (by omega) e
 ·rintro⟨h1,h2⟩ i _ hi
  refine⟨fun hid hiw e=>h1 (zL.2 ⟨w[i],zI.2 ⟨i,by omega,rfl⟩,e⟩),fun hid hiw j _ hj hj' e=>h2 (List.mem_append_left _ (yF.2 ⟨w[i],zI.2 ⟨i,by omega,rfl⟩,zL.2 ⟨_,gM hj,e⟩⟩)),fun e j _ hj hj' e=>h2 (List.mem_append_right _ (zL.2 ⟨_,zI.2 ⟨j,by omega,rfl⟩,e⟩))⟩
theorem P.Ym (w:List Data)(hw:ZAX w)(d:Nat)(hd:d<w.length)(hw4:w.length<=4)(hl:∀i,i<=d->∀h:i<w.length,w[i].ctors.length<=4):yV w d 0=
  some (if dec (∀k,0<=k->k<w[d].ctors.length->∀h:k<w[d].ctors.length,w[d].name∉(w.take d).map (·.name)/\ctorAt w d w[d] k w[d].ctors[k])=true then .go ()else .ret false):=by
 have hl0:=hl d (zB _) hd
 refine ZHr (n:=w[d].ctors.length) (r:=false) (Q:=fun k=>∀h:k<w[d].ctors.length,w[d].name∉(w.take d).map (·.name)/\ctorAt w d w[d] k w[d].ctors[k]) (L:=yV w d) (fun k hk=> ?_) (fun k hk hq=> ?_) (fun k hk hq=> ?_) _ 0 rfl
 ·rw[yV,gQ hd]
  simp only[oE,oS]
  rw[iN (by omega)]
 ·obtain⟨h1,h2⟩:=hq hk
  rw[yV,gQ hd]
  simp only[oE,oS]
  rw[iP hk,gQ hk]
  simp only[oS]
  rw[P.YZ _ _ (hw.2 _ (gM hd) _ (gM hk))]
  simp only[oS]
  rw[iP (dec_of h2.ok),P.YQ w hw d k hd hk hw4 hl]
  simp only[oS]
  rw[dec_of ((ZCt w d k hd hk).2 ⟨h1,h2.new⟩),iN (by simp),iP (by omega)]
 ·rw[yV,gQ hd]
  simp only[oE,oS]
  rw[iP hk,gQ hk]
  simp only[oS]
  rw[P.YZ _ _ (hw.2 _ (gM hd) _ (gM hk))]
  simp only[oS]
  by_cases h1:ZDd w.length w[d].ctors[k]
  ·rw[iP (dec_of h1),P.YQ w hw d k hd hk hw4 hl]
   simp only[oS]
   rw[ZA fun hh=>hq fun _=>⟨((ZCt w d k hd hk).1 hh).1,⟨h1,((ZCt w d k hd hk).1 hh).2⟩⟩,iP (by simp)]
  ·rw[iN (by rw[ZA h1];simp)]
theorem P.Yc (w:List Data)(hw:ZAX w):F.f35 w=some (dec (ZI w)):=by
 unfold F.f35
 by_cases h4:4<w.length
 ·rw[iP h4,ZA fun hh=>by have:=hh.1;omega]
 rw[iN h4]
 -- the loop runs only on over types that are right
 have key:∀(m d:Nat),w.length-d=m->(∀i,i<d->∀h:i<w.length,w[i].ctors.length<=4)->vF w d=some (if dec (∀i,d<=i->i<w.length->∀h:i<w.length,dataAt w i w[i])=true then .go ()else .ret false):=by
  intro m
  induction m with
  |zero=>
   intro d hm hl
   rw[vF,iN (by omega),iP (dec_of fun i h1 h2=>by omega)]
  |succ m ih=>
   intro d hm hl
   have hd:d<w.length:=by omega
   rw[vF,iP hd,gQ hd]
   simp only[oE,oS]
   rw[P.YAD]
   simp only[oS]
   have no:¬dataAt w d w[d]->¬∀i,d<=i->i<w.length->∀h:i<w.length,dataAt w i w[i]:=fun h hh=>h (hh d (zB _) hd hd)
   by_cases h1:ZD6 w[d].name
   ·rw[iP (dec_of h1)]
    by_cases h2:w[d].ctors.length=0
    ·rw[iP h2,iN (by rw[ZA (no fun h=>by have:=h.some;omega)];simp)]
    by_cases h3:4<w[d].ctors.length
    ·rw[iN h2,iP h3,iN (by rw[ZA (no fun h=>by have:=h.few;omega)];simp)]
    have hl':∀i,i<=d->∀h:i<w.length,w[i].ctors.length<=4:=fun i hi h=>by
     by_cases e:i=d
     ·subst e;omega
     ·exact hl i (by omega) h
    rw[iN h2,iN h3,P.Ym w hw d hd (by omega) hl']
    simp only[oS]
    by_cases hq:∀k,0<=k->k<w[d].ctors.length->∀h:k<w[d].ctors.length,w[d].name∉(w.take d).map (·.name)/\ctorAt w d w[d] k w[d].ctors[k]
    ·have hda:dataAt w d w[d]:=⟨h1,(hq 0 (by omega) (by omega) (by omega)).1,by omega,by omega,fun k a b c=>(hq k a b c).2⟩
     rw[iP (dec_of hq)]
     simp only
     rw[iP (by omega),ih (d+1) (by omega) fun i hi h=>hl' i (by omega) h]
     by_cases hall:∀i,d+1<=i->i<w.length->∀h:i<w.length,dataAt w i w[i]
     ·rw[iP (dec_of hall),iP (dec_of fun i a b c=> ?_)]
      by_cases e:i=d
      ·subst e;exact hda
      ·exact hall i (by omega) b c
     ·rw[iN (by rw[ZA hall];simp),iN (by rw[ZA fun hh=>hall fun i a b c=>hh i (by omega) b c];simp)]
    ·rw[iN (by rw[ZA hq];simp)]
     simp only
     rw[iN (by rw[ZA (no fun h=>hq fun k a b c=>⟨h.new,h.ctors k a b c⟩)];simp)]
   ·rw[iN (by rw[ZA h1];simp),iN (by rw[ZA (no fun h=>h1 h.name)];simp)]
 rw[key _ 0 rfl fun i hi=>by omega]
 simp only[oE,oS]
 by_cases hall:∀i,0<=i->i<w.length->∀h:i<w.length,dataAt w i w[i]
 ·rw[iP (dec_of hall),dec_of ⟨by omega,hall⟩]
 ·rw[iN (by rw[ZA hall];simp),ZA fun hh=>hall hh.2]
def ZY (w:List Data)(t:Ty):Prop:=ZBd w.length t/\0<=t.index
theorem P.YAS (w:List Data)(t:Ty):F.f36 w t=some (dec (ZY w t)):=by
 unfold F.f36
 rw[P.YO]
 simp only[oE,oS]
 by_cases h:ZBd w.length t
 ·rw[iP (dec_of h),←ZA2];congr 1;exact ZL ⟨fun h'=>⟨h,h'⟩,fun h'=>h'.2⟩
 ·rw[iN (by rw[ZA h];simp),ZA fun h'=>h h'.1]
theorem P.YAE (w:List Data)(t:Ty)(hw:w.length<=1048576):F.f90 w t=some (dec (ZY w t)):=by
 unfold F.f90
 by_cases h:eq2 (t.data,t.index) (-1,0)
 ·rw[iP (dec_of h),dec_of ⟨.inl h,by have:=h.2;simp at this;omega⟩]
 rw[iN (by rw[ZA h];simp),P.YC,ZE (by omega) (by omega)]
 simp only[oE,oS]
 by_cases h1:0<=t.data/\t.data<=(w.length:Int) -1
 ·rw[iP (dec_of h1),P.YC]
  simp only[oS]
  congr 1;exact ZL ⟨fun h'=>⟨.inr ⟨h1.1,by omega,by omega,h'.2⟩,h'.1⟩,fun h'=>h'.1.elim (fun h'=>absurd h' h) (fun h2=>⟨h'.2,h2.2.2.2⟩)⟩
 ·rw[iN (by rw[ZA h1];simp),ZA fun h'=>h'.1.elim (fun h'=>h h') (fun h'=>h1 ⟨h'.1,by have:=h'.2.1;omega⟩)]
def ZAP (w:List Data)(t:Ty):Prop:=ZI w/\ZY w t
theorem P.Yf (w:List Data)(t:Ty)(hw:ZAX w):F.f37 w t=some (dec (ZAP w t)):=by
 unfold F.f37
 rw[P.Yc w hw]
 simp only[oE,oS]
 by_cases h:ZI w
 ·rw[iP (dec_of h),P.YAS]
  simp only[oS]
  congr 1;exact ZL ⟨fun h'=>⟨h,h'⟩,fun h'=>h'.2⟩
 ·rw[iN (by rw[ZA h];simp),ZA fun h'=>h h'.1]
theorem P.Yj (w:List Data)(t:Ty)(hw:ZAX w):F.f91 w t=some (dec (ZAP w t)):=by
 unfold F.f91
 rw[P.Yd w hw]
 simp only[oE,oS]
 by_cases h:ZI w
 ·rw[iP (dec_of h),P.YAE w t hw.1]
  simp only[oS]
  congr 1;exact ZL ⟨fun h'=>⟨h,h'⟩,fun h'=>h'.2⟩
 ·rw[iN (by rw[ZA h];simp),ZA fun h'=>h h'.1]
variable {w:List Data}
theorem ZH0 (h:wtL Data.wt w<=1048576):ZAX w:=by
 refine⟨by have:=ZB0 Data.wt w;omega,fun d hd c hc=> ?_⟩
 have h1:=ZAr Data.wt hd
 have h2:=ZAr Ctor.wt hc
 have e1:d.wt=d.name.size+wtL Ctor.wt d.ctors:=rfl
 have e2:c.wt=c.name.size+wtL Ty.wt c.args:=rfl
 omega
def tOk (w:List Data)(t:Ty):Prop:=t.data= -1∨(0<=t.data/\t.data<w.length)
variable {t:Ty}
theorem ZAj (h:ZBd w.length t):tOk w t:=h.elim (fun h=>.inl h.1) (fun h=>.inr ⟨h.1,h.2.1⟩)
def ZMN (i:Int)(c:Ctor):Prop:=i=0∨c.index=0∨c.index=i
noncomputable def ZFN (i:Int):Nat->List Ctor->List Int
 |_,[]=>[]
 |k,c::r=>(if dec (ZMN i c)=true then[(k:Int)]else[])++ZFN i (k+1) r
theorem ZGT (i:Int):∀(k:Nat) (l:List Ctor),(ZFN i k l).length<=l.length
 |_,[]=>by simp[ZFN]
 |k,c::r=>by
  have:=ZGT i (k+1) r
  unfold ZFN
  split<;>simp<;>omega
theorem ZGS (i:Int){x:Int}:∀{k:Nat} {l:List Ctor},x∈ZFN i k l->(k:Int)<=x/\x<k+l.length
 |_,[],h=>by simp[ZFN]at h
 |k,c::r,h=>by
  unfold ZFN at h
  rcases zU.1 h with h|h
  ·split at h
   ·simp at h;subst h;simp;omega
   ·simp at h
  ·have:=ZGS i h
   simp;omega
def ZU (w:List Data)(t:Ty):Data:=w.getD t.data.toNat Data.z
noncomputable def ZM (w:List Data)(t:Ty):List Int:=if t.data= -1 then[]else ZFN t.index 0 (ZU w t).ctors
def ZX (w:List Data)(t:Ty)(c:Int):Ctor:=(ZU w t).ctors.getD c.toNat Ctor.z
def ZC2 (t:Ty)(c:Ctor)(a:Ty):Ty:=if a.index= -1 then⟨a.data,if c.index=0 then t.index else c.index⟩else a
def ZJ (w:List Data)(t:Ty)(c:Int):List Ty:=(ZX w t c).args.map (ZC2 t (ZX w t c))
theorem ZCE (h:tOk w t)(hn:t.data≠-1):at? w t.data=some (ZU w t)/\ZU w t∈w/\∃h:t.data.toNat<w.length,ZU w t=w[t.data.toNat]:=by
 obtain⟨h1,h2⟩:=h.resolve_left hn
 have hlt:t.data.toNat<w.length:=by omega
 unfold at? ZU
 rw[iP h1,gQ hlt,zY,gQ hlt]
 exact⟨rfl,gM hlt,hlt,rfl⟩
theorem ZAC (hw:ZI w)(h:tOk w t)(hn:t.data≠-1):(ZU w t).ctors.length<=4/\∀c,c∈(ZU w t).ctors->ZDd w.length c:=by
 obtain⟨_,_,hlt,e⟩:=ZCE h hn
 have hd:=hw.2 t.data.toNat (by omega) hlt hlt
 rw[e]
 refine⟨hd.few,fun c hc=> ?_⟩
 obtain⟨k,hk,rfl⟩:=zJ hc
 exact(hd.ctors k (by omega) hk hk).ok
theorem P.Yo (w:List Data)(hw:ZI w)(t:Ty)(h:tOk w t)(hn:t.data≠-1):∀(m k:Nat) (out:List Int),(ZU w t).ctors.length-k=m->out.length<=k->k<=(ZU w t).ctors.length->
  vE w t out k=some (out++ZFN t.index k ((ZU w t).ctors.drop k)):=by
 have h4:=(ZAC hw h hn).1
 intro m
 induction m with
 |zero=>
  intro k out hm ho hk
  rw[vE,(ZCE h hn).1]
  simp only[oE,oS]
  rw[iN (by omega),zG (by omega)];simp[ZFN]
 |succ m ih=>
  intro k out hm ho hk
  have hlt:k<(ZU w t).ctors.length:=by omega
  rw[vE,(ZCE h hn).1]
  simp only[oE,oS]
  rw[iP hlt,gQ hlt,zF hlt]
  simp only[oS,ZFN]
  have hf:F.f38 (ZU w t).ctors[k] t.index=some (dec (ZMN t.index (ZU w t).ctors[k])):=by
   unfold F.f38
   by_cases h1:(ZU w t).ctors[k].index=0
   ·rw[iP h1,dec_of (.inr (.inl h1))]
   ·by_cases h2:t.index=0
    ·rw[iN h1,iP h2,dec_of (.inl h2)]
    ·rw[iN h1,iN h2,←ZA2];congr 1;exact ZL ⟨fun h=>.inr (.inr h),fun h=>h.elim (fun h=>absurd h h2) (fun h=>h.elim (fun h=>absurd h h1) id)⟩
  rw[hf]
  simp only[oS]
  by_cases hfit:ZMN t.index (ZU w t).ctors[k]
  ·rw[iP (dec_of hfit),iP (by omega),iP (by omega),ih (k+1) _ (by omega) (by simp;omega) (by omega),iP (dec_of hfit)];simp
  ·rw[iN (by rw[ZA hfit];simp),iP (by omega),ih (k+1) _ (by omega) (by omega) (by omega),iN (by rw[ZA hfit];simp)];simp
theorem P.YR (w:List Data)(hw:ZI w)(t:Ty)(h:tOk w t):F.f40 w t=some (ZM w t):=by
 unfold F.f40 ZM
 by_cases hn:t.data= -1
 ·rw[iP hn,iP hn]
 ·rw[iN hn,iN hn,P.Yo w hw t h hn _ 0 [] rfl (by simp) (by omega)];simp
theorem P.Ys (w:List Data)(hw:ZI w)(t:Ty)(h:tOk w t)(hn:t.data≠-1):∀(m k:Nat) (out:List Int),(ZU w t).ctors.length-k=m->out.length<=k->k<=(ZU w t).ctors.length->
  xG t (ZU w t) k out=some (out++ZFN t.index k ((ZU w t).ctors.drop k)):=by
 have h4:=(ZAC hw h hn).1
 intro m
 induction m with
 |zero=>
  intro k out hm ho hk
  rw[xG,iN (by omega),zG (by omega)];simp[ZFN]
 |succ m ih=>
  intro k out hm ho hk
  have hlt:k<(ZU w t).ctors.length:=by omega
  rw[xG,iP hlt,gQ hlt,zF hlt]
  simp only[oE,oS,ZFN]
  have yes:ZMN t.index (ZU w t).ctors[k]->(if out.length+1<=67108864 then xG t (ZU w t) (k+1) (out++[(k:Int)])else none)=
    some (out++((if dec (ZMN t.index (ZU w t).ctors[k])=true then[(k:Int)]else[])++ZFN t.index (k+1) ((ZU w t).ctors.drop (k+1)))):=by
   intro hfit
   rw[iP (by omega),ih (k+1) _ (by omega) (by simp;omega) (by omega),iP (dec_of hfit)];simp
  by_cases h1:t.index=0
  ·rw[iP h1];exact yes (.inl h1)
  by_cases h2:(ZU w t).ctors[k].index=0
  ·rw[iN h1,iP h2];exact yes (.inr (.inl h2))
  by_cases h3:(ZU w t).ctors[k].index=t.index
  ·rw[iN h1,iN h2,iP h3];exact yes (.inr (.inr h3))
  ·have hfit:¬ZMN t.index (ZU w t).ctors[k]:=fun h=>h.elim h1 (fun h=>h.elim h2 h3)
   rw[iN h1,iN h2,iN h3,ih (k+1) _ (by omega) (by omega) (by omega),iN (by rw[ZA hfit];simp)];simp
theorem P.YS (w:List Data)(hw:ZI w)(t:Ty)(h:tOk w t):F.f95 w t=some (ZM w t):=by
 unfold F.f95 ZM
 by_cases hn:t.data= -1
 ·rw[iP hn,iP hn]
 ·rw[iN hn,iN hn,(ZCE h hn).1]
  simp only[oE,oS]
  rw[P.Ys w hw t h hn _ 0 [] rfl (by simp) (by omega)];simp
variable {c:Int}
theorem Zk (h:c∈ZM w t):t.data≠-1/\0<=c/\c<(ZU w t).ctors.length:=by
 unfold ZM at h
 split at h
 ·cases h
 ·next hn=>
  have:=ZGS t.index h
  exact⟨hn,by omega,by omega⟩
theorem ZC1 (h:c∈ZM w t):at? (ZU w t).ctors c=some (ZX w t c)/\ZX w t c∈(ZU w t).ctors:=by
 obtain⟨_,h1,h2⟩:=Zk h
 have hlt:c.toNat<(ZU w t).ctors.length:=by omega
 unfold at? ZX
 rw[iP h1,gQ hlt,zY,gQ hlt]
 exact⟨rfl,gM hlt⟩
theorem P.YG (w:List Data)(hw:ZI w)(t:Ty)(ht:tOk w t)(c:Int)(h:c∈ZM w t):F.f46 w t c=some (ZJ w t c):=by
 have hc:=(ZAC hw ht (Zk h).1).2 _ (ZC1 h).2
 unfold F.f46
 rw[(ZCE ht (Zk h).1).1]
 simp only[oE,oS]
 rw[(ZC1 h).1]
 simp only[oS]
 rw[ZGA (L:=F.f45 t (ZX w t c)) (a:=(ZX w t c).args) (g:=ZC2 t (ZX w t c)) (f:=fun a=>some (ZC2 t (ZX w t c) a)) (fun out i=> ?_) (fun _ _=>rfl) _ 0 [] rfl (by have:=hc.2.1;simp;omega)]
 ·simp[ZJ]
 ·rw[F.f45]
  split
  ·cases(ZX w t c).args[i]? with
   |none=>rfl
   |some a=>
    simp only[oE,oS,F.f44,ZC2]
    split
    ·split<;>simp
    ·simp
  ·rfl
theorem P.YM (w:List Data)(hw:ZI w)(t:Ty)(ht:tOk w t)(c:Int)(h:c∈ZM w t):F.f101 w t c=some (ZJ w t c):=by
 have hc:=(ZAC hw ht (Zk h).1).2 _ (ZC1 h).2
 unfold F.f101
 rw[(ZCE ht (Zk h).1).1]
 simp only[oE,oS]
 rw[(ZC1 h).1]
 simp only[oS]
 by_cases h0:(ZX w t c).index=0
 ·rw[iP h0,ZGA (L:=fun out i=>xV t (ZX w t c) i out) (a:=(ZX w t c).args) (g:=ZC2 t (ZX w t c)) (f:=fun a=>some (ZC2 t (ZX w t c) a)) (fun out i=> ?_) (fun _ _=>rfl) _ 0 [] rfl (by have:=hc.2.1;simp;omega)]
  ·simp[ZJ]
  ·show xV t (ZX w t c) i out=_
   rw[xV]
   split
   ·cases(ZX w t c).args[i]? with
    |none=>rfl
    |some a=>
     simp only[oE,oS,ZC2]
     split
     ·first|rfl|rw[iP h0]
     ·rfl
   ·rfl
 ·rw[iN h0,ZGA (L:=fun out i=>xU (ZX w t c) i out) (a:=(ZX w t c).args) (g:=ZC2 t (ZX w t c)) (f:=fun a=>some (ZC2 t (ZX w t c) a)) (fun out i=> ?_) (fun _ _=>rfl) _ 0 [] rfl (by have:=hc.2.1;simp;omega)]
  ·simp[ZJ]
  ·show xU (ZX w t c) i out=_
   rw[xU]
   split
   ·cases(ZX w t c).args[i]? with
    |none=>rfl
    |some a=>
     simp only[oE,oS,ZC2]
     split
     ·first|rfl|rw[iN h0]
     ·rfl
   ·rfl
theorem P.YAL (l:List Int)(n:Int):F.f42 l n=some (dec (n∈l)):=by
 unfold F.f42
 rw[ZHr (n:=l.length) (r:=true) (Q:=fun j=>∀h:j<l.length,l[j]≠n) (L:=xP l n) (fun k hk=>by rw[xP,iN (by omega)])
  (fun k hk hq=>by
   rw[xP,iP hk,gQ hk]
   simp only[oE,oS]
   rw[iN (hq hk)])
  (fun k hk hq=>by
   rw[xP,iP hk,gQ hk]
   simp only[oE,oS]
   rw[iP (yH fun h=>hq fun _=>h)]) _ 0 rfl]
 simp only[oE,oS]
 by_cases hm:n∈l
 ·obtain⟨j,hj,e⟩:=zJ hm
  rw[iN (by rw[ZA fun hh=>hh j (by omega) hj hj e];simp),dec_of hm]
 ·rw[iP (dec_of fun j _ hj h e=>hm (by rw[←e];exact gM h)),ZA hm]
theorem P.YH (l:List Int)(n:Int):F.f98 l n=some (dec (n∈l)):=by
 unfold F.f98 F.f97
 have key:∀(m k:Nat),l.length-k=m->∃r,xW l n k=some r/\match r with| .ret j=>0<=j/\n∈l| .go _=>∀j,k<=j->∀h:j<l.length,l[j]≠n:=by
  intro m
  induction m with
  |zero=>intro k hm;rw[xW,iN (by omega)];exact⟨_,rfl,fun j h1 h2=>by omega⟩
  |succ m ih=>
   intro k hm
   have hk:k<l.length:=by omega
   rw[xW,iP hk,gQ hk]
   simp only[oE,oS]
   by_cases h:n=l[k]
   ·rw[iP h];exact⟨_,rfl,by omega,h▸gM hk⟩
   ·rw[iN h]
    obtain⟨r,hr,hx⟩:=ih (k+1) (by omega)
    refine⟨r,hr,?_⟩
    cases r with
    |ret j=>exact hx
    |go _=>
     intro j hj hl
     by_cases e:k=j
     ·subst e;exact fun e=>h e.symm
     ·exact hx j (by omega) hl
 obtain⟨r,hr,hx⟩:=key _ 0 rfl
 rw[hr]
 cases r with
 |ret j=>
  simp only[oE,oS]
  rw[dec_of hx.2];simp[hx.1]
 |go _=>
  simp only[oE,oS]
  rw[ZA fun hm=>by obtain⟨j,hj,e⟩:=zJ hm;exact hx j (by omega) hj e];simp
noncomputable def ZDH (l:List VarType)(n:Int):Int:=match ZFn (fun x=>x.var=n) 0 l with
 |some j=>(j:Int)
 |none=> -1
theorem P.YF (l:List VarType)(n:Int):F.f59 l n=some (ZDH l n):=by
 unfold F.f59 ZDH
 rw[ZLm (a:=l) (p:=fun x=>x.var=n) (L:=xK l n) (fun k hk=>by rw[xK,iN (by omega)])
  (fun k hk hp=>by rw[xK,iP hk,gQ hk];simp only[oE,oS];rw[iN hp])
  (fun k hk hp=>by rw[xK,iP hk,gQ hk];simp only[oE,oS];rw[iP hp]) _ 0 rfl,zH]
 cases ZFn (fun x=>x.var=n) 0 l<;>rfl
theorem ZCw (l:List VarType)(n:Int):ZDH l n= -1∨∃(j:Nat) (h:j<l.length),ZDH l n=(j:Int)/\l[j].var=n/\∀i (hi:i<l.length),i<j->l[i].var≠n:=by
 unfold ZDH
 cases h:ZFn (fun x:VarType=>x.var=n) 0 l with
 |none=>exact .inl rfl
 |some j=>
  obtain⟨_,h2,h3,h4⟩:=ZA8 h
  exact .inr ⟨j,h2,rfl,h3,h4⟩
theorem ZDZ (l:List VarType)(j:Nat)(hj:j<l.length):ZDH l l[j].var=(j:Int)↔∀i (hi:i<l.length),i<j->l[i].var≠l[j].var:=by
 constructor
 ·intro h
  rcases ZCw l l[j].var with q|⟨k,hk,q1,q2,q3⟩
  ·omega
  ·have:k=j:=by omega
   subst this;exact q3
 ·intro h
  unfold ZDH
  cases hf:ZFn (fun x:VarType=>x.var=l[j].var) 0 l with
  |none=>exact absurd rfl (ZA9 hf l[j] (gM hj))
  |some k=>
   obtain⟨_,h2,h3,h4⟩:=ZA8 hf
   show(k:Int)=j
   have:¬k<j:=fun hlt=>h k h2 hlt h3
   have:¬j<k:=fun hlt=>h4 j hj (by omega) rfl
   omega
theorem P.YAz (v:Int):F.f93 v=some (dec (0<=v/\v<=5)):=by
 unfold F.f93;rw[P.YC];rfl
theorem ZAp (hw:ZI w)(ht:ZY w t)(h:c∈ZM w t):∀a,a∈ZJ w t c->ZY w a:=by
 have hc:=(ZAC hw (ZAj ht.1) (Zk h).1).2 _ (ZC1 h).2
 have hn:=(Zk h).1
 intro a ha
 obtain⟨b,hb,rfl⟩:=zL.1 ha
 obtain⟨j,hj,rfl⟩:=zJ hb
 have:=hc.2.2.2.2 j (by omega) hj
 have ht2:=ht.2
 rcases ht.1 with q|⟨q1,q2,q3,q4⟩
 ·exact absurd q.1 hn
 unfold ZC2
 rcases this with⟨p1,p2⟩|⟨p1,p2,p3,p4⟩
 ·rw[iN (by omega)];exact⟨.inl ⟨p1,p2⟩,by omega⟩
 ·split
  ·next e=>
   have hx:0<=(if(ZX w t c).index=0 then t.index else(ZX w t c).index)/\(if(ZX w t c).index=0 then t.index else(ZX w t c).index)<=3:=by
    split
    ·exact⟨ht2,q4⟩
    ·exact⟨hc.2.2.1,hc.2.2.2.1⟩
   exact⟨.inr ⟨p1,p2,by show -1<=(if(ZX w t c).index=0 then t.index else(ZX w t c).index);omega,hx.2⟩,hx.1⟩
  ·next e=>exact⟨.inr ⟨p1,p2,p3,p4⟩,by omega⟩
def ZAu (w:List Data)(t:Ty)(p:Pattern):Prop:=
 (p.op=1/\p.var=0/\p.n=0/\p.m=0/\p.ctor=0)∨
 (p.op=2/\0<=p.var/\p.var<=5/\p.n=0/\p.m=0/\p.ctor=0)∨
 (p.op=3/\p.var=0/\p.ctor=0/\t.data= -1/\0<=p.n/\p.n<=p.m/\p.m<=9)∨
 (p.op=4/\p.var=0/\p.n=0/\p.m=0/\p.ctor∈ZM w t)∨
 (p.op=5/\p.var=0/\p.n=0/\p.m=0/\p.ctor=0)∨
 (p.op=6/\0<=p.var/\p.var<=5/\p.n=0/\p.m=0/\p.ctor=0)
noncomputable def ZG (w:List Data)(t:Ty)(p:Pattern):List Ty:=if p.op=4 then ZJ w t p.ctor else if p.op=5 then[t,t]else if p.op=6 then[t]else[]
theorem P.YAK (w:List Data)(hw:ZI w)(t:Ty)(ht:tOk w t)(p:Pattern):F.f43 w t p=some (dec (ZAu w t p)):=by
 unfold F.f43
 rw[P.YR w hw t ht]
 simp only[oE,oS,P.YAL]
 have yes:ZAu w t p->some true=some (dec (ZAu w t p)):=fun h=>by rw[dec_of h]
 have no:¬ZAu w t p->some false=some (dec (ZAu w t p)):=fun h=>by rw[ZA h]
 repeat' split
 all_goals first
  |(refine no fun h=> ?_;unfold ZAu at h;omega)
  |(refine yes ?_;unfold ZAu;omega)
  |skip
 ·rw[←ZA2];congr 1;refine ZL ?_;unfold ZAu;omega
 ·congr 1;refine ZL ⟨fun h=>.inr (.inr (.inr (.inl ⟨by assumption,by assumption,by assumption,by assumption,h⟩))),fun h=> ?_⟩
  unfold ZAu at h
  rcases h with h|h|h|h|h|h
  ·omega
  ·omega
  ·omega
  ·exact h.2.2.2.2
  ·omega
  ·omega
theorem P.YD (w:List Data)(hw:ZI w)(t:Ty)(ht:tOk w t)(p:Pattern)(h:ZAu w t p):F.f49 w t p=some (ZG w t p):=by
 unfold F.f49 ZG
 by_cases h4:p.op=4
 ·rw[iP h4,iP h4]
  have hc:p.ctor∈ZM w t:=by
   unfold ZAu at h
   rcases h with h|h|h|h|h|h
   ·omega
   ·omega
   ·omega
   ·exact h.2.2.2.2
   ·omega
   ·omega
  rw[P.YG w hw t ht _ hc];rfl
 ·rw[iN h4,iN h4]
  have k:F.f47 p.op=some (if p.op=5 then 2 else if p.op=6 then 1 else 0):=by
   unfold F.f47;split
   ·rfl
   ·split
    ·rfl
    ·rfl
  by_cases h5:p.op=5
  ·rw[iP h5]
   rw[iP h5]at k
   rw[yR,k]
   simp only[oE,oS]
   rw[iP (by omega),iP (by simp),iP (by omega),yR,k]
   simp only[oE,oS]
   rw[iP (by omega),iP (by simp),iP (by omega),yR,k]
   simp only[oE,oS]
   rw[iN (by omega)];simp
  ·rw[iN h5]
   rw[iN h5]at k
   by_cases h6:p.op=6
   ·rw[iP h6]
    rw[iP h6]at k
    rw[yR,k]
    simp only[oE,oS]
    rw[iP (by omega),iP (by simp),iP (by omega),yR,k]
    simp only[oE,oS]
    rw[iN (by omega)];simp
   ·rw[iN h6]
    rw[iN h6]at k
    rw[yR,k]
    simp only[oE,oS]
    rw[iN (by omega)];simp
variable {p:Pattern}
theorem ZAN (hw:ZI w)(ht:ZY w t)(h:ZAu w t p):∀a,a∈ZG w t p->ZY w a:=by
 unfold ZG
 intro a ha
 split at ha
 ·next h4=>
  have hc:p.ctor∈ZM w t:=by
   unfold ZAu at h
   rcases h with h|h|h|h|h|h
   ·omega
   ·omega
   ·omega
   ·exact h.2.2.2.2
   ·omega
   ·omega
  exact ZAp hw ht hc a ha
 ·split at ha
  ·simp at ha;subst ha;exact ht
  ·split at ha
   ·simp at ha;subst ha;exact ht
   ·cases ha
theorem P.YAW (p:Pattern)(c n v:Bool)(k:Int):F.f92 p c n v k=some (dec ((c=true∨p.ctor=0)/\(n=true∨(p.n=0/\p.m=0))/\(v=true∨p.var=0)/\(p.kids.length:Int)=k)):=by
 unfold F.f92
 cases c<;>cases n<;>cases v<;>simp only[yI,if_true,if_false,false_or,true_or,true_and]
 all_goals(repeat' split)
 all_goals first
  |(rw[←ZA2];done)
  |(rw[←ZA2];congr 1;refine ZL ?_;omega)
  |(rw[ZA];omega)
theorem P.Yh (w:List Data)(hw:ZI w)(t:Ty)(ht:tOk w t)(p:Pattern):
  ∃ts,F.f102 w t p=some (ts,dec (ZAu w t p/\p.kids.length=(ZG w t p).length))/\(ZAu w t p->ts=ZG w t p):=by
 unfold F.f102
 simp only[P.YAW,P.YAz,P.YS w hw t ht,P.YH,oE,oS,Zr]
 by_cases h1:p.op=1
 ·rw[iP h1]
  have e:ZG w t p=[]:=by unfold ZG;rw[iN (by omega),iN (by omega),iN (by omega)]
  rw[e]
  refine⟨[],?_,fun _=>rfl⟩
  congr 2;refine ZL ?_;unfold ZAu;simp only[yI,false_or,zM];omega
 rw[iN h1]
 by_cases h2:p.op=2
 ·rw[iP h2]
  have e:ZG w t p=[]:=by unfold ZG;rw[iN (by omega),iN (by omega),iN (by omega)]
  rw[e]
  refine⟨[],?_,fun _=>rfl⟩
  split
  ·next hh=>
   simp only[yI,false_or,true_or,true_and]at hh
   congr 2;refine ZL ?_;unfold ZAu;simp only[zM,zN];omega
  ·next hh=>
   simp only[yI,false_or,true_or,true_and]at hh
   rw[ZA];unfold ZAu;simp only[zM,zN];omega
 rw[iN h2]
 by_cases h3:p.op=3
 ·rw[iP h3]
  have e:ZG w t p=[]:=by unfold ZG;rw[iN (by omega),iN (by omega),iN (by omega)]
  rw[e]
  refine⟨[],?_,fun _=>rfl⟩
  simp only[yI,false_or,true_or,true_and,zM]
  repeat' split
  all_goals first
   |(rw[←ZA2];congr 2;refine ZL ?_;unfold ZAu;omega)
   |(rw[ZA];unfold ZAu;omega)
 rw[iN h3]
 by_cases h4:p.op=4
 ·rw[iP h4]
  have e:ZG w t p=ZJ w t p.ctor:=by unfold ZG;rw[iP h4]
  rw[e]
  by_cases hc:p.ctor∈ZM w t
  ·rw[iP hc,P.YM w hw t ht _ hc]
   simp only[oS]
   refine⟨ZJ w t p.ctor,?_,fun _=>rfl⟩
   congr 2;refine ZL ⟨fun h=>⟨.inr (.inr (.inr (.inl ⟨h4,?_,?_,?_,hc⟩))),?_⟩,fun h=> ?_⟩
   ·simp at h;exact h.2.1
   ·simp at h;exact h.1.1
   ·simp at h;exact h.1.2
   ·simp at h;omega
   ·obtain⟨h,hl⟩:=h
    unfold ZAu at h
    rcases h with h|h|h|h|h|h
    ·omega
    ·omega
    ·omega
    ·exact⟨.inl trivial,.inr ⟨h.2.2.1,h.2.2.2.1⟩,.inr h.2.1,by omega⟩
    ·omega
    ·omega
  ·rw[iN hc]
   have hn:¬ZAu w t p:=by
    intro h
    unfold ZAu at h
    rcases h with h|h|h|h|h|h
    ·omega
    ·omega
    ·omega
    ·exact hc h.2.2.2.2
    ·omega
    ·omega
   exact⟨[],by rw[ZA fun h=>hn h.1],fun h=>absurd h hn⟩
 rw[iN h4]
 by_cases h5:p.op=5
 ·rw[iP h5]
  have e:ZG w t p=[t,t]:=by unfold ZG;rw[iN (by omega),iP (by omega)]
  rw[e]
  refine⟨[t,t],?_,fun _=>rfl⟩
  congr 2;refine ZL ?_;unfold ZAu;simp only[yI,false_or,zM,zN];omega
 rw[iN h5]
 by_cases h6:p.op=6
 ·rw[iP h6]
  have e:ZG w t p=[t]:=by unfold ZG;rw[iN (by omega),iN (by omega),iP (by omega)]
  rw[e]
  refine⟨[t],?_,fun _=>rfl⟩
  split
  ·next hh=>
   simp only[yI,false_or,true_or,true_and]at hh
   congr 2;refine ZL ?_;unfold ZAu;simp only[zM,zN];omega
  ·next hh=>
   simp only[yI,false_or,true_or,true_and]at hh
   rw[ZA];unfold ZAu;simp only[zM,zN];omega
 rw[iN h6]
 have hn:¬ZAu w t p:=by unfold ZAu;omega
 exact⟨[],by rw[ZA fun h=>hn h.1],fun h=>absurd h hn⟩
def Zh (w:List Data):Nat->Ty->Pattern->Prop
 |0,_,_=>False
 |d+1,t,p=>ZAu w t p/\p.kids.length=(ZG w t p).length/\∀i,0<=i->i<(ZG w t p).length->∀(h:i<(ZG w t p).length) (h':i<p.kids.length),Zh w d (ZG w t p)[i] p.kids[i]
theorem P.YE (w:List Data)(hw:ZI w):∀(d:Nat) (t:Ty) (p:Pattern),ZY w t->d<=10->xO w t p d=some (dec (Zh w d t p))
 |0,t,p,ht,hd=>by rw[xO,iP (by omega),ZA (by simp[Zh])]
 |d+1,t,p,ht,hd=>by
  rw[xO,iN (by omega),P.YAK w hw t (ZAj ht.1)]
  simp only[oE,oS]
  by_cases ho:ZAu w t p
  ·rw[iP (dec_of ho),P.YD w hw t (ZAj ht.1) p ho]
   simp only[oS]
   have hts:=ZAN hw ht ho
   by_cases h4:p.kids.length=(ZG w t p).length
   ·rw[iP h4,ZHr (n:=(ZG w t p).length) (r:=false) (Q:=fun i=>∀(h:i<(ZG w t p).length) (h':i<p.kids.length),Zh w d (ZG w t p)[i] p.kids[i]) (L:=xN w p ((d+1:Nat):Int) (ZG w t p))
     (fun k hk=>by rw[xN,iN (by omega)])
     (fun k hk hq=>by
      have hk':k<p.kids.length:=by omega
      rw[xN,iP hk,gQ hk,gQ hk']
      simp only[oE,oS]
      rw[ZE (by omega) (by omega),show((d+1:Nat):Int) -1=(d:Int)from by omega,P.YE w hw d _ _ (hts _ (gM hk)) (by omega)]
      simp only[oS]
      rw[iP (dec_of (hq hk hk'))])
     (fun k hk hq=>by
      have hk':k<p.kids.length:=by omega
      rw[xN,iP hk,gQ hk,gQ hk']
      simp only[oE,oS]
      rw[ZE (by omega) (by omega),show((d+1:Nat):Int) -1=(d:Int)from by omega,P.YE w hw d _ _ (hts _ (gM hk)) (by omega)]
      simp only[oS]
      rw[iN (by rw[ZA fun h=>hq fun _ _=>h];simp)]) _ 0 rfl]
    simp only[oS]
    by_cases hall:∀i,0<=i->i<(ZG w t p).length->∀(h:i<(ZG w t p).length) (h':i<p.kids.length),Zh w d (ZG w t p)[i] p.kids[i]
    ·rw[iP (dec_of hall),dec_of ⟨ho,h4,hall⟩]
    ·rw[iN (by rw[ZA hall];simp),ZA fun h=>hall h.2.2]
   ·rw[iN h4,ZA fun h=>h4 h.2.1]
  ·rw[iN (by rw[ZA ho];simp),ZA fun h=>ho h.1]
theorem P.YAU (v:Pattern)(hv:v.wt<=1048576):∀(most:Nat),most<=60->∃c:Nat,vD v most=some (c:Int)/\1<=c/\c<=1+v.wt/\(1+v.wt<=most->c=1+v.wt)/\(most<1+v.wt->most<c):=by
 induction v using vH with
 |_ v ih=>
  intro most hm
  have hw:=v.wt_eq
  have key:∀(m i:Nat) (n:Nat),v.kids.length-i=m->1<=n->n+((v.kids.drop i).map fun k=>1+k.wt).sum<=1+v.wt->
    ∃c:Nat,xM v most n i=some (c:Int)/\n<=c/\c<=n+((v.kids.drop i).map fun k=>1+k.wt).sum/\(n+((v.kids.drop i).map fun k=>1+k.wt).sum<=most->c=n+((v.kids.drop i).map fun k=>1+k.wt).sum)/\(most<n+((v.kids.drop i).map fun k=>1+k.wt).sum->most<c):=by
   intro m
   induction m with
   |zero=>
    intro i n hmi hn hb
    rw[xM,iN (by omega),zG (by omega)]
    exact⟨n,rfl,by omega,by simp,by simp,by simp⟩
   |succ m ih2=>
    intro i n hmi hn hb
    have hi:i<v.kids.length:=by omega
    rw[zF hi]at hb ⊢
    simp only[zT,zZ]at hb ⊢
    rw[xM,iP hi]
    by_cases hle:n<=most
    ·rw[iP (by omega),gQ hi]
     simp only[oE,oS]
     have hk:v.kids[i].wt<=1048576:=by omega
     obtain⟨c,h1,h2,h3,h4,h5⟩:=ih v.kids[i] (gM hi) hk (most-n) (by omega)
     rw[ZE (by omega) (by omega),show((most:Int) - (n:Int))=((most-n:Nat):Int)from by omega,h1]
     simp only[oS]
     rw[ZE (by omega) (by omega),show((n:Int)+(c:Int))=((n+c:Nat):Int)from by omega]
     obtain⟨c',g1,g2,g3,g4,g5⟩:=ih2 (i+1) (n+c) (by omega) (by omega) (by omega)
     refine⟨c',g1,by omega,by omega,fun h=> ?_,fun h=> ?_⟩
     ·have:=h4 (by omega)
      have:=g4 (by omega)
      omega
     ·by_cases hx:1+v.kids[i].wt<=most-n
      ·have:=h4 hx
       exact g5 (by omega)
      ·have:=h5 (by omega)
       omega
    ·rw[iN (by omega)]
     exact⟨n,rfl,by omega,by omega,fun h=>by omega,fun h=>by omega⟩
  have hs:((v.kids.drop 0).map fun k=>1+k.wt).sum=v.wt:=by
   rw[zH,hw]
   have:∀l:List Pattern,(l.map fun k=>1+k.wt).sum=wtL vG l:=by
    intro l
    induction l with
    |nil=>rfl
    |cons a r ih=>simp[ih]
   exact this _
  obtain⟨c,h1,h2,h3,h4,h5⟩:=key _ 0 1 rfl (by omega) (by omega)
  rw[hs]at h3 h4 h5
  unfold vD
  have h1':xM v most 1 0=some (c:Int):=h1
  rw[h1']
  exact⟨c,rfl,by omega,h3,h4,h5⟩
theorem ZGJ (v:Pattern):v.wt=((v.kids.drop 0).map fun k=>1+k.wt).sum:=by
 rw[zH,v.wt_eq]
 have:∀l:List Pattern,(l.map fun k=>1+k.wt).sum=wtL vG l:=by
  intro l
  induction l with
  |nil=>rfl
  |cons a r ih=>simp[ih]
 exact(this _).symm
noncomputable def Zi (w:List Data):Nat->Ty->Pattern->List VarType
 |0,_,_=>[]
 |d+1,t,p=>(if p.op=2∨p.op=6 then[⟨p.var,t⟩]else[])++(((ZG w t p).zip p.kids).take (if p.op=5 then 1 else p.kids.length)).flatMap fun x=>Zi w d x.1 x.2
theorem ZEp {f:Ty×Pattern->List VarType}(hf:∀x,(f x).length<=1+x.2.wt):∀(ts:List Ty) (ks:List Pattern) (n:Nat),(((ts.zip ks).take n).flatMap f).length<=wtL vG ks
 | [],ks,n=>by simp
 |t::ts,[],n=>by simp
 |t::ts,k::ks,0=>by simp
 |t::ts,k::ks,n+1=>by
  have h1:=ZEp hf ts ks n
  have h2:=hf (t,k)
  simp only[yC,yB,yD,zS,ZJF]at h1 h2 ⊢
  omega
theorem ZBo (w:List Data):∀(d:Nat) (t:Ty) (p:Pattern),(Zi w d t p).length<=1+p.wt
 |0,t,p=>by simp[Zi]
 |d+1,t,p=>by
  have:=ZEp (f:=fun x=>Zi w d x.1 x.2) (fun x=>ZBo w d x.1 x.2) (ZG w t p) p.kids (if p.op=5 then 1 else p.kids.length)
  rw[Zi,zS,p.wt_eq]
  have h1:(if p.op=2∨p.op=6 then[(⟨p.var,t⟩:VarType)]else[]).length<=1:=by split<;>simp
  omega
theorem ZCc {ts:List Ty}(hl:p.kids.length=ts.length)(h5:p.op≠5){f:Ty×Pattern->List VarType}{L:List VarType->Nat->Option (List VarType)}(hL:∀out i,L out i=if i<ts.length then(if i=0 then ts[i]? >>=fun x=>p.kids[i]? >>=fun y=>yN out w x y>>=fun v=>L v (i+1)else(if p.op=5 then some out else ts[i]? >>=fun x=>p.kids[i]? >>=fun y=>yN out w x y>>=fun v=>L v (i+1)))else some out)(hf:∀x:Ty×Pattern,(f x).length<=1+x.2.wt)(ih:∀i (h:i<ts.length) (h':i<p.kids.length) (out:List VarType),out.length+(1+p.kids[i].wt)<=67108864->yN out w ts[i] p.kids[i]=some (out++f (ts[i],p.kids[i]))):
  ∀(m i:Nat) (out:List VarType),ts.length-i=m->out.length+((p.kids.drop i).map fun k=>1+k.wt).sum<=67108864->L out i=some (out++((ts.zip p.kids).drop i).flatMap f):=by
 intro m
 induction m with
 |zero=>
  intro i out hm hb
  rw[hL,iN (by omega),zG (by simp;omega)];simp
 |succ m ihm=>
  intro i out hm hb
  have hi:i<ts.length:=by omega
  have hi':i<p.kids.length:=by omega
  rw[zF hi']at hb
  simp only[zT,zZ]at hb
  have e:(ts[i]? >>=fun x=>p.kids[i]? >>=fun y=>yN out w x y>>=fun v=>L v (i+1))=some (out++((ts.zip p.kids).drop i).flatMap f):=by
   rw[gQ hi,gQ hi']
   simp only[oE,oS]
   rw[ih i hi hi' out (by omega)]
   simp only[oS]
   have:=hf (ts[i],p.kids[i])
   simp only at this
   rw[ihm (i+1) _ (by omega) (by rw[zS];omega),zF (l:=ts.zip p.kids) (i:=i) (by simp;omega)]
   simp
  rw[hL,iP hi,iN h5,e]
  split<;>rfl
theorem ZAm (h:ZAu w t p)(h5:p.op=5):ZG w t p=[t,t]:=by unfold ZG;rw[iN (by omega),iP h5]
theorem P.YA (w:List Data)(hw:ZI w):∀(d:Nat) (t:Ty) (p:Pattern) (out:List VarType),ZY w t->Zh w d t p->out.length+(1+p.wt)<=67108864->yN out w t p=some (out++Zi w d t p)
 |0,t,p,out,ht,hs,hb=>hs.elim
 |d+1,t,p,out,ht,hs,hb=>by
  obtain⟨ho,hl,hk⟩:=hs
  have hts:=ZAN hw ht ho
  have hsum:=ZGJ p
  have ih:∀i (h:i<(ZG w t p).length) (h':i<p.kids.length) (out:List VarType),out.length+(1+p.kids[i].wt)<=67108864->yN out w (ZG w t p)[i] p.kids[i]=some (out++(fun x:Ty×Pattern=>Zi w d x.1 x.2) ((ZG w t p)[i],p.kids[i])):=
   fun i h h' out hb=>P.YA w hw d _ _ out (hts _ (gM h)) (hk i (by omega) h h h') hb
  have hf:∀x:Ty×Pattern,((fun x:Ty×Pattern=>Zi w d x.1 x.2) x).length<=1+x.2.wt:=fun x=>ZBo w d x.1 x.2
  have full:∀n,p.kids.length<=n->((ZG w t p).zip p.kids).take n=(ZG w t p).zip p.kids:=fun n hn=>zO (by simp;omega)
  rw[yN,P.YD w hw t (ZAj ht.1) p ho]
  simp only[oE,oS]
  by_cases h2:p.op=2
  ·rw[iP h2,iP (by omega),ZCc (f:=fun x=>Zi w d x.1 x.2) (L:=F.f57 w p (ZG w t p)) hl (by omega) (fun out i=>by rw[F.f57]) hf ih _ 0 _ rfl (by simp at hsum ⊢;omega)]
   simp only[oS]
   rw[Zi,iP (.inl h2),iN (by omega),full _ (zB _)];simp
  ·rw[iN h2]
   by_cases h6:p.op=6
   ·rw[iP h6,iP (by omega),ZCc (f:=fun x=>Zi w d x.1 x.2) (L:=F.f55 w p (ZG w t p)) hl (by omega) (fun out i=>by rw[F.f55]) hf ih _ 0 _ rfl (by simp at hsum ⊢;omega)]
    simp only[oS]
    rw[Zi,iP (.inr h6),iN (by omega),full _ (zB _)];simp
   ·rw[iN h6]
    by_cases h5:p.op=5
    ·have et:=ZAm ho h5
     rw[et]at hl
     have h0:0<p.kids.length:=by rw[hl];simp
     have h0':0<(ZG w t p).length:=by rw[et];simp
     have hw0:1+p.kids[0].wt<=p.wt:=by
      rw[hsum,zH]
      obtain⟨a,r,e⟩:=zK h0
      simp[e]
     have e0:=ih 0 h0' h0 out (by omega)
     rw[xL,iP h0',iP rfl,gQ h0',gQ h0]
     simp only[oE,oS]
     rw[e0]
     simp only[oS]
     rw[xL,iP (by rw[et];simp),iN (by omega),iP h5]
     simp only[oS]
     rw[Zi,iN (by omega),iP h5]
     have e1:((ZG w t p).zip p.kids).take 1=[((ZG w t p)[0],p.kids[0])]:=by
      obtain⟨a,r,e⟩:=zK h0
      obtain⟨b,r',e'⟩:=zK h0'
      simp[e,e']
     rw[e1];simp
    ·rw[ZCc (f:=fun x=>Zi w d x.1 x.2) (L:=xL w p (ZG w t p)) hl h5 (fun out i=>by rw[xL]) hf ih _ 0 _ rfl (by simp at hsum ⊢;omega)]
     simp only[oS]
     rw[Zi,iN (by omega),iN h5,full _ (zB _)];simp
def ZHp (l:List VarType):Prop:=(l.map VarType.var).Nodup
def ZG2 (a b:List VarType):Prop:=a.length=b.length/\∀x,x∈a->x∈b
theorem ZGa (l:List VarType):ZHp l↔∀i j (hi:i<l.length) (hj:j<l.length),i<j->l[i].var≠l[j].var:=by
 unfold ZHp List.Nodup
 rw[List.pairwise_map,List.pairwise_iff_getElem]
theorem ZHV {l:List VarType}{n:Int}(h:ZDH l n= -1):∀x,x∈l->x.var≠n:=by
 unfold ZDH at h
 cases hf:ZFn (fun x:VarType=>x.var=n) 0 l with
 |none=>exact ZA9 hf
 |some j=>rw[hf]at h;simp only at h;omega
theorem ZOG {a b:VarType}(h:a.var=b.var)(h2:eq2 (a.type.data,a.type.index) (b.type.data,b.type.index)):a=b:=by
 obtain⟨v,d,i⟩:=a
 obtain⟨v',d',i'⟩:=b
 simp only[eq2]at h h2
 obtain⟨rfl,rfl⟩:=h2
 subst h;rfl
theorem P.YV (l:List VarType):yT l 0=some (if dec (ZHp l)=true then .go ()else .ret false):=by
 rw[ZHr (n:=l.length) (r:=false) (Q:=fun j=>∀h:j<l.length,ZDH l l[j].var=(j:Int)) (L:=yT l) (fun k hk=>by rw[yT,iN (by omega)])
  (fun k hk hq=>by
   rw[yT,iP hk,gQ hk]
   simp only[oE,oS,P.YF]
   rw[iP (hq hk)])
  (fun k hk hq=>by
   rw[yT,iP hk,gQ hk]
   simp only[oE,oS,P.YF]
   rw[iN fun h=>hq fun _=>h]) _ 0 rfl]
 congr 2
 rw[ZL]
 rw[ZGa]
 constructor
 ·intro h i j hi hj hij
  exact(ZDZ l j hj).1 (h j (by omega) hj hj) i hi hij
 ·intro h j _ _ hj
  exact(ZDZ l j hj).2 fun i hi hij=>h i j hi hj hij
theorem P.Yz (a b:List VarType)(hb:ZHp b):F.f61 a b=some (dec (ZG2 a b)):=by
 unfold F.f61
 have step:∀k (hk:k<a.length),yU a b k=if dec (a[k]∈b)=true then yU a b (k+1)else some (.ret false):=by
  intro k hk
  rw[yU,iP hk,gQ hk]
  simp only[oE,oS,P.YF]
  rcases ZCw b a[k].var with h|⟨j,hj,h1,h2,h3⟩
  ·rw[iP (by omega),iN]
   rw[ZA fun hm=>ZHV h _ hm rfl];simp
  ·rw[iN (by omega),h1,ZI4,gQ hj]
   simp only[oS]
   by_cases he:eq2 (b[j].type.data,b[j].type.index) (a[k].type.data,a[k].type.index)
   ·rw[iP (dec_of he),iP (dec_of (by rw[←ZOG h2 he];exact gM hj))]
   ·rw[iN (by rw[ZA he];simp),iN]
    rw[ZA fun hm=> ?_];· simp
    obtain⟨i,hi,e⟩:=zJ hm
    have hij:i=j:=by
     rw[ZGa]at hb
     rcases Nat.lt_trichotomy i j with hlt|heq|hlt
     ·exact absurd (by rw[e,h2]) (hb i j hi hj hlt)
     ·exact heq
     ·exact absurd (by rw[e,h2]) (hb j i hj hi hlt)
    subst hij
    exact he (by rw[e];exact⟨rfl,rfl⟩)
 rw[ZHr (n:=a.length) (r:=false) (Q:=fun j=>∀h:j<a.length,a[j]∈b) (L:=yU a b) (fun k hk=>by rw[yU,iN (by omega)])
  (fun k hk hq=>by rw[step k hk,iP (dec_of (hq hk))])
  (fun k hk hq=>by rw[step k hk,iN (by rw[ZA fun h=>hq fun _=>h];simp)]) _ 0 rfl]
 simp only[oE,oS]
 by_cases h:∀j,0<=j->j<a.length->∀h:j<a.length,a[j]∈b
 ·rw[iP (dec_of h),←ZA2]
  have hx:∀x,x∈a->x∈b:=fun x hx=>by obtain⟨j,hj,e⟩:=zJ hx;rw[←e];exact h j (by omega) hj hj
  show some (dec (a.length=b.length))=some (dec (ZG2 a b))
  congr 1;exact ZL ⟨fun hl=>⟨hl,hx⟩,fun hs=>hs.1⟩
 ·rw[iN (by rw[ZA h];simp),ZA fun hs=>h fun j _ hj _=>hs.2 _ (gM hj)]
theorem ZKT {a b:VarType}:eq3 (a.var,a.type.data,a.type.index) (b.var,b.type.data,b.type.index)↔a=b:=by
 obtain⟨v,d,i⟩:=a
 obtain⟨v',d',i'⟩:=b
 simp[eq3]
theorem P.YB (l:List VarType)(n:VarType):F.f105 l n=some (dec (n∈l)):=by
 unfold F.f105 F.f104
 rw[ZLm (a:=l) (p:=fun x=>n=x) (L:=xF l n) (fun k hk=>by rw[xF,iN (by omega)])
  (fun k hk hp=>by
   rw[xF,iP hk,gQ hk]
   simp only[oE,oS]
   rw[iN (by rw[ZA fun h=>hp (ZKT.1 h)];simp)])
  (fun k hk hp=>by
   rw[xF,iP hk,gQ hk]
   simp only[oE,oS]
   rw[iP (dec_of (ZKT.2 hp))]) _ 0 rfl,zH]
 cases h:ZFn (fun x:VarType=>n=x) 0 l with
 |none=>
  simp only[oE,oS]
  rw[ZA fun hm=>ZA9 h _ hm rfl];simp
 |some j=>
  obtain⟨_,h2,h3,_⟩:=ZA8 h
  simp only[oE,oS]
  rw[dec_of (by rw[h3];exact gM h2)];simp
theorem P.Yq (a b:List VarType):xD a b=some (dec (ZG2 a b)):=by
 unfold xD
 by_cases hl:a.length=b.length
 ·rw[iP hl]
  unfold F.f109 F.f108
  have one:∀q,F.f106 q b=some (!dec (q∈b)):=by
   intro q;unfold F.f106;rw[P.YB];rfl
  rw[ZLm (a:=a) (p:=fun x=>¬x∈b) (L:=xE a b) (fun k hk=>by rw[xE,iN (by omega)])
   (fun k hk hp=>by
    rw[xE,iP hk,gQ hk]
    simp only[oE,oS,one]
    rw[iN (by rw[dec_of (yH hp)];simp)])
   (fun k hk hp=>by
    rw[xE,iP hk,gQ hk]
    simp only[oE,oS,one]
    rw[iP (by rw[ZA hp];simp)]) _ 0 rfl,zH]
  cases h:ZFn (fun x:VarType=>¬x∈b) 0 a with
  |none=>
   simp only[oE,oS]
   rw[dec_of ⟨hl,fun x hx=>yH (ZA9 h x hx)⟩];simp
  |some j=>
   obtain⟨_,h2,h3,_⟩:=ZA8 h
   simp only[oE,oS]
   rw[ZA fun hs=>h3 (hs.2 _ (gM h2))];simp
 ·rw[iN hl,ZA fun h=>hl h.1]
def ZFC (w:List Data):Nat->Ty->Pattern->Prop
 |0,_,_=>False
 |d+1,t,p=>(∀i,0<=i->i<(ZG w t p).length->∀(h:i<(ZG w t p).length) (h':i<p.kids.length),ZFC w d (ZG w t p)[i] p.kids[i])/\
   if p.op=5 then(∀(h0:0<p.kids.length) (h1:1<p.kids.length),ZG2 (Zi w d t p.kids[0]) (Zi w d t p.kids[1]))else ZHp (Zi w (d+1) t p)
theorem ZDv {d:Nat}(ho:ZAu w t p)(h5:p.op=5)(h0:0<p.kids.length):Zi w (d+1) t p=Zi w d t p.kids[0]:=by
 have et:=ZAm ho h5
 rw[Zi,iN (by omega),iP h5,et]
 obtain⟨a,r,e⟩:=zK h0
 simp[e]
theorem ZDx {w:List Data}:∀{d:Nat} {t:Ty} {p:Pattern},Zh w d t p->ZFC w d t p->ZHp (Zi w d t p)
 |0,t,p,hs,hl=>hs.elim
 |d+1,t,p,hs,hl=>by
  obtain⟨ho,hlen,hk⟩:=hs
  obtain⟨h1,h2⟩:=hl
  by_cases h5:p.op=5
  ·have et:=ZAm ho h5
   have h0:0<p.kids.length:=by rw[hlen,et];simp
   have h0':0<(ZG w t p).length:=by rw[et];simp
   rw[ZDv ho h5 h0]
   have e0:(ZG w t p)[0]=t:=by simp[et]
   have a:=hk 0 (zB _) h0' h0' h0
   have b:=h1 0 (zB _) h0' h0' h0
   rw[e0]at a b
   exact ZDx a b
  ·rw[iN h5]at h2;exact h2
theorem P.YK (w:List Data)(hw:ZI w):∀(d:Nat) (t:Ty) (p:Pattern),ZY w t->Zh w d t p->p.wt<=1048576->vC w t p=some (dec (ZFC w d t p))
 |0,t,p,ht,hs,hb=>hs.elim
 |d+1,t,p,ht,hs,hb=>by
  have hs':=hs
  obtain⟨ho,hl,hk⟩:=hs
  have hts:=ZAN hw ht ho
  have hsum:=p.wt_eq
  have hkw:∀k (h:k<p.kids.length),1+p.kids[k].wt<=p.wt:=fun k h=>by have:=ZAr vG (gM h);omega
  have ih:∀k (h:k<(ZG w t p).length) (h':k<p.kids.length),vC w (ZG w t p)[k] p.kids[k]=some (dec (ZFC w d (ZG w t p)[k] p.kids[k])):=
   fun k h h'=>P.YK w hw d _ _ (hts _ (gM h)) (hk k (by omega) h h h') (by have:=hkw k h';omega)
  rw[vC,P.YD w hw t (ZAj ht.1) p ho]
  simp only[oE,oS]
  rw[ZHr (n:=(ZG w t p).length) (r:=false) (Q:=fun i=>∀(h:i<(ZG w t p).length) (h':i<p.kids.length),ZFC w d (ZG w t p)[i] p.kids[i]) (L:=xJ w t p (ZG w t p))
   (fun k hk=>by rw[xJ,iN (by omega)])
   (fun k hk hq=>by
    have hk':k<p.kids.length:=by omega
    rw[xJ,iP hk,gQ hk,gQ hk']
    simp only[oE,oS]
    rw[ih k hk hk']
    simp only[oS]
    rw[iP (dec_of (hq hk hk'))])
   (fun k hk hq=>by
    have hk':k<p.kids.length:=by omega
    rw[xJ,iP hk,gQ hk,gQ hk']
    simp only[oE,oS]
    rw[ih k hk hk']
    simp only[oS]
    rw[iN (by rw[ZA fun h=>hq fun _ _=>h];simp)]) _ 0 rfl]
  simp only[oS]
  by_cases hall:∀i,0<=i->i<(ZG w t p).length->∀(h:i<(ZG w t p).length) (h':i<p.kids.length),ZFC w d (ZG w t p)[i] p.kids[i]
  ·rw[iP (dec_of hall)]
   simp only
   by_cases h5:p.op=5
   ·have et:=ZAm ho h5
    have h0:0<p.kids.length:=by rw[hl,et];simp
    have h1:1<p.kids.length:=by rw[hl,et];simp
    have h0':0<(ZG w t p).length:=by rw[et];simp
    have h1':1<(ZG w t p).length:=by rw[et];simp
    have e0:(ZG w t p)[0]=t:=by simp[et]
    have e1:(ZG w t p)[1]=t:=by simp[et]
    have a0:=hk 0 (zB _) h0' h0' h0
    have a1:=hk 1 (by omega) h1' h1' h1
    have b1:=hall 1 (by omega) h1' h1' h1
    rw[e0]at a0
    rw[e1]at a1 b1
    rw[iP h5,gQ h0,gQ h1]
    simp only[oS]
    rw[P.YA w hw d t _ [] ht a0 (by have:=hkw 0 h0;simp;omega),P.YA w hw d t _ [] ht a1 (by have:=hkw 1 h1;simp;omega)]
    simp only[oS,zX]
    rw[P.Yz _ _ (ZDx a1 b1)]
    simp only[oS]
    congr 1
    refine ZL ⟨fun h=>⟨hall,?_⟩,fun h=> ?_⟩
    ·rw[iP h5];exact fun _ _=>h
    ·have:=h.2;rw[iP h5]at this;exact this h0 h1
   ·rw[iN h5,P.YA w hw (d+1) t p [] ht hs' (by simp;omega)]
    simp only[oS,zX]
    rw[P.YV]
    simp only[oS]
    by_cases hn:ZHp (Zi w (d+1) t p)
    ·rw[iP (dec_of hn),dec_of ⟨hall,by rw[iN h5];exact hn⟩]
    ·rw[iN (by rw[ZA hn];simp),ZA fun h=>hn (by have:=h.2;rwa[iN h5]at this)]
  ·rw[iN (by rw[ZA hall];simp),ZA fun h=>hall h.1]
theorem ZGI {f:Ty×Pattern->List VarType}{x:VarType}:∀{ts:List Ty} {ks:List Pattern} {n:Nat},x∈(((ts.zip ks).take n).flatMap f)->∃i,∃(h:i<ts.length) (h':i<ks.length),x∈f (ts[i],ks[i])
 | [],ks,n,h=>by simp at h
 |t::ts,[],n,h=>by simp at h
 |t::ts,k::ks,0,h=>by simp at h
 |t::ts,k::ks,n+1,h=>by
  simp only[yC,yB,yD,zU]at h
  rcases h with h|h
  ·exact⟨0,by simp,by simp,by simpa using h⟩
  ·obtain⟨i,h1,h2,h3⟩:=ZGI h
   exact⟨i+1,by simpa using h1,by simpa using h2,by simpa using h3⟩
theorem ZDw {w:List Data}(hw:ZI w):∀{d:Nat} {t:Ty} {p:Pattern},ZY w t->Zh w d t p->∀x,x∈Zi w d t p->0<=x.var/\x.var<=5/\ZY w x.type
 |0,t,p,ht,hs=>hs.elim
 |d+1,t,p,ht,hs=>by
  obtain⟨ho,hl,hk⟩:=hs
  intro x hx
  rw[Zi,zU]at hx
  rcases hx with hx|hx
  ·split at hx
   ·next h=>
    simp at hx;subst hx
    unfold ZAu at ho
    refine⟨?_,?_,ht⟩<;>simp only<;>omega
   ·cases hx
  ·obtain⟨i,h,h',hm⟩:=ZGI hx
   exact ZDw hw (ZAN hw ht ho _ (gM h)) (hk i (by omega) h h h') x hm
theorem ZO6 {R:Type}{vs:List VarType}{r:R}{M:(Nat->Bool)->Nat->Option (Lo R Unit)}(hv:∀x,x∈vs->0<=x.var/\x.var<=5)
  (hM:∀s i,M s i=if i<vs.length then vs[i]? >>=fun x=>if 0<=x.var/\x.var.toNat<6 then(if s x.var.toNat=true then some (.ret r)else M (updF s x.var.toNat true) (i+1))else none else some (.go ())):
  ∀(m i:Nat) (s:Nat->Bool),vs.length-i=m->M s i=some (if dec (ZHp (vs.drop i)/\∀x,x∈vs.drop i->s x.var.toNat=false)=true then .go ()else .ret r):=by
 intro m
 induction m with
 |zero=>
  intro i s hm
  rw[hM,iN (by omega),zG (by omega),iP (dec_of ⟨by simp[ZHp],by simp⟩)]
 |succ m ih=>
  intro i s hm
  have hi:i<vs.length:=by omega
  have hr:=hv _ (gM hi)
  rw[hM,iP hi,gQ hi]
  simp only[oE,oS]
  rw[iP (by omega),zF hi]
  by_cases h:s vs[i].var.toNat=true
  ·rw[iP h,iN]
   rw[ZA fun hh=> ?_];· simp
   have:=hh.2 vs[i] (zR ..)
   rw[h]at this;cases this
  ·rw[iN h,ih (i+1) _ (by omega)]
   congr 2
   rw[ZL]
   have hs:s vs[i].var.toNat=false:=by simpa using h
   constructor
   ·rintro⟨h1,h2⟩
    refine⟨?_,fun x hx=> ?_⟩
    ·unfold ZHp at h1 ⊢
     rw[zT,yG]
     refine⟨fun hm=> ?_,h1⟩
     obtain⟨y,hy,e⟩:=zL.1 hm
     have:=h2 y hy
     rw[e]at this
     simp[updF]at this
    ·rcases zW.1 hx with rfl|hx
     ·exact hs
     ·have:=h2 x hx
      unfold updF at this
      split at this
      ·cases this
      ·exact this
   ·rintro⟨h1,h2⟩
    unfold ZHp at h1 ⊢
    rw[zT,yG]at h1
    refine⟨h1.2,fun x hx=> ?_⟩
    unfold updF
    have hx':=hv x (List.mem_of_mem_drop hx)
    rw[iN fun e=>h1.1 (zL.2 ⟨x,hx,by omega⟩)]
    exact h2 x (zQ _ hx)
abbrev ZN6 (w:List Data)(d:Nat)(ts:List Ty)(ks:List Pattern)(i:Nat):Prop:=∀j,i<=j->j<ts.length->∀(h:j<ts.length) (h':j<ks.length),Zh w d ts[j] ks[j]/\ZFC w d ts[j] ks[j]
def ZBm (w:List Data)(d:Nat)(t:Ty)(p:Pattern)(count:Nat)(vs:List VarType)(b:Bool)(c:Nat):Prop:=
 (b=true↔Zh w d t p/\ZFC w d t p/\count+(1+p.wt)<=60)/\(b=true->c=count+(1+p.wt)/\vs=Zi w d t p)
theorem P.YAT (w:List Data)(d:Nat)(hd:d+1<=10)(p:Pattern)(hp:p.wt<=1048576)(ts:List Ty)(hl:ts.length=p.kids.length)(hts:∀a,a∈ts->ZY w a)(h5:p.op≠5)
  (L:Int->List VarType->Nat->Option (Lo ((List VarType)×Bool×Int) (Int×(List VarType))))
  (hL:∀z vars i,L z vars i=if i<p.kids.length then p.kids[i]? >>=fun x=>ts[i]? >>=fun y=>yM w y x (i64.wrap (((11- (d+1):Nat):Int)+1)) z>>=fun r=>if r.2.1=true then(if p.op=5 then(if i=1 then xD vars r.1>>=fun b=>if b=true then L r.2.2 vars (i+1)else some (.ret ([],false,r.2.2))else(if vars.length+r.1.length<=67108864 then L r.2.2 (vars++r.1) (i+1)else none))else(if vars.length+r.1.length<=67108864 then L r.2.2 (vars++r.1) (i+1)else none))else some (.ret ([],false,r.2.2))else some (.go (z,vars)))
  (ih:∀(t:Ty) (x:Pattern) (count:Nat),ZY w t->x.wt<=1048576->count<=60->∃vs b c,yM w t x ((11-d:Nat):Int) (count:Int)=some (vs,b,((c:Nat):Int))/\ZBm w d t x count vs b c):
  ∀(m i z:Nat) (vars:List VarType),p.kids.length-i=m->z<=60->vars.length+((p.kids.drop i).map fun k=>1+k.wt).sum<=67108864->∃o,L z vars i=some o/\
   match o with
   | .ret (vs,b,c)=>b=false/\∃c':Nat,c=(c':Int)/\¬(ZN6 w d ts p.kids i/\z+((p.kids.drop i).map fun k=>1+k.wt).sum<=60)
   | .go (c,vs)=>c=((z+((p.kids.drop i).map fun k=>1+k.wt).sum:Nat):Int)/\vs=vars++((ts.zip p.kids).drop i).flatMap (fun x=>Zi w d x.1 x.2)/\ZN6 w d ts p.kids i/\z+((p.kids.drop i).map fun k=>1+k.wt).sum<=60:=by
 intro m
 induction m with
 |zero=>
  intro i z vars hm hz hb
  rw[hL,iN (by omega)]
  refine⟨_,rfl,?_⟩
  rw[zG (by omega),zG (by simp;omega)]
  exact⟨by simp,by simp,fun j h1 h2=>by omega,by simpa using hz⟩
 |succ m ihm=>
  intro i z vars hm hz hb
  have hi:i<p.kids.length:=by omega
  have hi':i<ts.length:=by omega
  have hkw:=ZAr vG (gM hi)
  have hpw:=p.wt_eq
  rw[zF hi]at hb ⊢
  simp only[zT,zZ]at hb ⊢
  rw[hL,iP hi,gQ hi,gQ hi']
  simp only[oE,oS]
  rw[ZE (by omega) (by omega),show(((11- (d+1):Nat):Int)+1)=((11-d:Nat):Int)from by omega]
  obtain⟨vs,b,c,h1,h2,h3⟩:=ih ts[i] p.kids[i] z (hts _ (gM hi')) (by omega) hz
  rw[h1]
  simp only[oS]
  cases b with
  |true=>
   rw[iP rfl,iN h5]
   obtain⟨hc,hv⟩:=h3 rfl
   obtain⟨hp1,hp2,hle⟩:=h2.1 rfl
   have hvl:=ZBo w d ts[i] p.kids[i]
   rw[←hv]at hvl
   rw[iP (by omega)]
   obtain⟨o,g1,g2⟩:=ihm (i+1) c (vars++vs) (by omega) (by omega) (by rw[zS];omega)
   refine⟨o,g1,?_⟩
   cases o with
   |ret r=>
    obtain⟨vs',b',c'⟩:=r
    obtain⟨q1,c2,q2,q3⟩:=g2
    exact⟨q1,c2,q2,fun hh=>q3 ⟨fun j a b e f=>hh.1 j (by omega) b e f,by omega⟩⟩
   |go r=>
    obtain⟨c2,vs2⟩:=r
    obtain⟨q1,q2,q3,q4⟩:=g2
    refine⟨by rw[q1];congr 1;omega,?_,fun j a b e f=> ?_,by omega⟩
    ·rw[q2,zF (l:=ts.zip p.kids) (i:=i) (by simp;omega),hv];simp
    ·by_cases hj:i=j
     ·subst hj;exact⟨hp1,hp2⟩
     ·exact q3 j (by omega) b e f
  |false=>
   rw[iN (by simp)]
   refine⟨_,rfl,rfl,c,rfl,fun hh=> ?_⟩
   have hk:=hh.1 i (zB _) hi' hi' hi
   have:=h2.2 ⟨hk.1,hk.2,by omega⟩
   cases this
theorem P.Ya (w:List Data)(hw:ZI w):∀(d:Nat) (t:Ty) (p:Pattern) (count:Nat),d<=10->ZY w t->p.wt<=1048576->count<=60->
  ∃vs b c,yM w t p ((11-d:Nat):Int) (count:Int)=some (vs,b,((c:Nat):Int))/\ZBm w d t p count vs b c
 |d,t,p,count,hd,ht,hp,hc=>by
  have e1:i64.wrap ((count:Int)+1)=((count+1:Nat):Int):=by rw[ZE (by omega) (by omega)];omega
  have no:∀(h:¬(Zh w d t p/\ZFC w d t p/\count+(1+p.wt)<=60)) (c:Nat),∃vs b c',(some (([]:List VarType),false,(c:Int)):Option (List VarType×Bool×Int))=some (vs,b,((c':Nat):Int))/\ZBm w d t p count vs b c':=
   fun h c=>⟨[],false,c,rfl,⟨fun h=>(by cases h),fun hh=>absurd hh h⟩,fun h=>by cases h⟩
  rw[yM,e1]
  by_cases h60:60<((count+1:Nat):Int)
  ·rw[iP h60];exact no (fun h=>by omega) _
  rw[iN h60]
  match d,hd with
  |0,_=>
   rw[iP (by omega)]
   exact no (fun h=>h.1.elim) _
  |d+1,hd=>
   rw[iN (by omega)]
   obtain⟨ts,h1,h2⟩:=P.Yh w hw t (ZAj ht.1) p
   rw[h1]
   simp only[oE,oS]
   by_cases hs:ZAu w t p/\p.kids.length=(ZG w t p).length
   ·rw[iP (dec_of hs)]
    obtain⟨ho,hl⟩:=hs
    obtain rfl:=h2 ho
    have hts:=ZAN hw ht ho
    have hwt:=ZGJ p
    have ihx:∀(t:Ty) (x:Pattern) (count:Nat),ZY w t->x.wt<=1048576->count<=60->∃vs b c,yM w t x ((11-d:Nat):Int) (count:Int)=some (vs,b,((c:Nat):Int))/\ZBm w d t x count vs b c:=
     fun t x c ht hx hc=>P.Ya w hw d t x c (by omega) ht hx hc
    have shape_of:∀{i:Nat},ZN6 w d (ZG w t p) p.kids 0->Zh w (d+1) t p:=fun h=>⟨ho,hl,fun i _ hi h1 h2=>(h i (by omega) hi h1 h2).1⟩
    by_cases h5:p.op=5
    ·rw[iN (by omega),iN (by omega)]
     have et:=ZAm ho h5
     have h0:0<p.kids.length:=by rw[hl,et];simp
     have h1':1<p.kids.length:=by rw[hl,et];simp
     have hl2:p.kids.length=2:=by rw[hl,et];rfl
     have e0:(ZG w t p)[0]? =some t:=by rw[et];rfl
     have e1:(ZG w t p)[1]? =some t:=by rw[et];rfl
     have hsum:p.wt=(1+p.kids[0].wt)+(1+p.kids[1].wt):=by
      have e:p.kids=[p.kids[0],p.kids[1]]:=List.ext_getElem (by simp[hl2]) (fun i h1 h2=>by
       have:i=0∨i=1:=by omega
       rcases this with rfl|rfl<;>rfl)
      rw[hwt,zH]
      conv=>lhs;rw[e]
      simp
     have ed:i64.wrap (((11- (d+1):Nat):Int)+1)=((11-d:Nat):Int):=by rw[ZE (by omega) (by omega)];omega
     obtain⟨v0,b0,c0,a1,a2,a3⟩:=ihx t p.kids[0] (count+1) ht (by omega) (by omega)
     have kid0:Zh w (d+1) t p->ZFC w (d+1) t p->(Zh w d t p.kids[0]/\ZFC w d t p.kids[0])/\(Zh w d t p.kids[1]/\ZFC w d t p.kids[1])/\ZG2 (Zi w d t p.kids[0]) (Zi w d t p.kids[1]):=by
      rintro⟨_,_,hk⟩ ⟨q1,q2⟩
      rw[iP h5]at q2
      have x0':0<(ZG w t p).length:=by rw[et];simp
      have x1':1<(ZG w t p).length:=by rw[et];simp
      have y0:(ZG w t p)[0]=t:=by simp[et]
      have y1:(ZG w t p)[1]=t:=by simp[et]
      have k0:=hk 0 (zB _) x0' x0' h0
      have k1:=hk 1 (by omega) x1' x1' h1'
      have l0:=q1 0 (zB _) x0' x0' h0
      have l1:=q1 1 (by omega) x1' x1' h1'
      rw[y0]at k0 l0
      rw[y1]at k1 l1
      exact⟨⟨k0,l0⟩,⟨k1,l1⟩,q2 h0 h1'⟩
     rw[yQ,iP h0,gQ h0,e0]
     simp only[oE,oS]
     rw[ed,a1]
     simp only[oS]
     cases b0 with
     |false=>
      rw[iN (by simp)]
      simp only[oS]
      exact no (fun h=>by
       have:=a2.2 ⟨(kid0 h.1 h.2.1).1.1,(kid0 h.1 h.2.1).1.2,by omega⟩
       cases this) _
     |true=>
      obtain⟨hc0,rfl⟩:=a3 rfl
      obtain⟨s0,l0,z0⟩:=a2.1 rfl
      have hv0:=ZBo w d t p.kids[0]
      rw[iP rfl,iP h5,iN (by omega),iP (by simp;omega),yQ,iP h1',gQ h1',e1]
      simp only[oE,oS]
      obtain⟨v1,b1,c1,g1,g2,g3⟩:=ihx t p.kids[1] c0 ht (by omega) (by omega)
      rw[ed,g1]
      simp only[oS]
      cases b1 with
      |false=>
       rw[iN (by simp)]
       simp only[oS]
       exact no (fun h=>by
        have:=g2.2 ⟨(kid0 h.1 h.2.1).2.1.1,(kid0 h.1 h.2.1).2.1.2,by omega⟩
        cases this) _
      |true=>
       obtain⟨hc1,rfl⟩:=g3 rfl
       obtain⟨s1,l1,z1⟩:=g2.1 rfl
       rw[iP rfl,iP h5,iP trivial,P.Yq]
       simp only[oS,zX]
       by_cases hsv:ZG2 (Zi w d t p.kids[0]) (Zi w d t p.kids[1])
       ·rw[iP (dec_of hsv),yQ,iN (by omega)]
        simp only[oS]
        have kk:∀i,0<=i->i<(ZG w t p).length->∀(h:i<(ZG w t p).length) (h':i<p.kids.length),Zh w d (ZG w t p)[i] p.kids[i]/\ZFC w d (ZG w t p)[i] p.kids[i]:=by
         intro i _ _ h h'
         have ei:(ZG w t p)[i]=t:=by
          have:i=0∨i=1:=by omega
          rcases this with rfl|rfl<;>simp[et]
         rw[ei]
         have:i=0∨i=1:=by omega
         rcases this with rfl|rfl
         ·exact⟨s0,l0⟩
         ·exact⟨s1,l1⟩
        have sh:Zh w (d+1) t p:=⟨ho,hl,fun i a b c e=>(kk i a b c e).1⟩
        have li:ZFC w (d+1) t p:=⟨fun i a b c e=>(kk i a b c e).2,by rw[iP h5];exact fun _ _=>hsv⟩
        have hnd:=ZDx sh li
        have hvk:=ZDw hw ht sh
        rw[ZDv ho h5 h0]at hnd hvk
        rw[ZO6 (vs:=Zi w d t p.kids[0]) (M:=xC ((c1:Int),Zi w d t p.kids[0])) (r:=([],false,(c1:Int))) (fun x hx=>⟨(hvk x hx).1,(hvk x hx).2.1⟩) (fun s i=>by rw[xC]) _ 0 _ rfl,zH,iP (dec_of ⟨hnd,fun _ _=>rfl⟩)]
        exact⟨_,true,c1,rfl,⟨fun _=>⟨sh,li,by omega⟩,fun _=>rfl⟩,fun _=>⟨by omega,(ZDv ho h5 h0).symm⟩⟩
       ·rw[iN (by rw[ZA hsv];simp)]
        simp only[oS]
        exact no (fun h=>hsv (kid0 h.1 h.2.1).2.2) _
    ·have kidx:Zh w (d+1) t p->ZFC w (d+1) t p->ZN6 w d (ZG w t p) p.kids 0:=fun a b i hi hlt h h'=>⟨a.2.2 i hi hlt h h',b.1 i hi hlt h h'⟩
     have fin:∀(v00:List VarType) (hv00:v00.length<=1) (hv:v00=if p.op=2∨p.op=6 then[(⟨p.var,t⟩:VarType)]else[])
       (L:Int->List VarType->Nat->Option (Lo ((List VarType)×Bool×Int) (Int×(List VarType))))
       (hL:∀z vars i,L z vars i=if i<p.kids.length then p.kids[i]? >>=fun x=>(ZG w t p)[i]? >>=fun y=>yM w y x (i64.wrap (((11- (d+1):Nat):Int)+1)) z>>=fun r=>if r.2.1=true then(if p.op=5 then(if i=1 then xD vars r.1>>=fun b=>if b=true then L r.2.2 vars (i+1)else some (.ret ([],false,r.2.2))else(if vars.length+r.1.length<=67108864 then L r.2.2 (vars++r.1) (i+1)else none))else(if vars.length+r.1.length<=67108864 then L r.2.2 (vars++r.1) (i+1)else none))else some (.ret ([],false,r.2.2))else some (.go (z,vars)))
       (M:Int×List VarType->(Nat->Bool)->Nat->Option (Lo ((List VarType)×Bool×Int) Unit))
       (hM:∀q s i,M q s i=if i<q.2.length then q.2[i]? >>=fun x=>if 0<=x.var/\x.var.toNat<6 then(if s x.var.toNat=true then some (.ret ([],false,q.1))else M q (updF s x.var.toNat true) (i+1))else none else some (.go ())),
       ∃vs b c,((L ((count+1:Nat):Int) v00 0).bind fun o=>match o with
        | .ret r0=>some r0
        | .go s=>(M s (fun _=>false) 0).bind fun o=>match o with
         | .ret r0=>some r0
         | .go _=>some (s.2,true,s.1))=some (vs,b,((c:Nat):Int))/\ZBm w (d+1) t p count vs b c:=by
      intro v00 hv00 hv L hL M hM
      obtain⟨o,g1,g2⟩:=P.YAT w d hd p hp (ZG w t p) hl.symm hts h5 L hL ihx _ 0 (count+1) v00 rfl (by omega) (by rw[←hwt];omega)
      rw[g1]
      simp only[oS]
      rw[←hwt]at g2
      cases o with
      |ret r=>
       obtain⟨vs,b,c⟩:=r
       obtain⟨rfl,c',rfl,q3⟩:=g2
       exact⟨vs,false,c',rfl,⟨fun h=>(by cases h),fun hh=>absurd ⟨kidx hh.1 hh.2.1,by have:=hh.2.2;omega⟩ q3⟩,fun h=>by cases h⟩
      |go s=>
       obtain⟨c,vs⟩:=s
       obtain⟨rfl,q2,q3,q4⟩:=g2
       have hvs:vs=Zi w (d+1) t p:=by
        rw[q2,Zi,hv,iN h5,zO (by simp;omega)];simp
       have sh:Zh w (d+1) t p:=⟨ho,hl,fun i a b c e=>(q3 i a b c e).1⟩
       have hvk:=ZDw hw ht sh
       rw[←hvs]at hvk
       dsimp only
       rw[ZO6 (vs:=vs) (M:=M (((count+1+p.wt:Nat):Int),vs)) (r:=([],false,((count+1+p.wt:Nat):Int))) (fun x hx=>⟨(hvk x hx).1,(hvk x hx).2.1⟩) (fun s i=>by rw[hM]) _ 0 _ rfl,zH]
       simp only[oS]
       by_cases hn:ZHp vs
       ·rw[iP (dec_of ⟨hn,fun _ _=>by first|rfl|trivial⟩)]
        exact⟨vs,true,count+1+p.wt,rfl,⟨fun _=>⟨sh,⟨fun i a b c e=>(q3 i a b c e).2,by rw[iN h5,←hvs];exact hn⟩,by omega⟩,fun _=>rfl⟩,fun _=>⟨by omega,hvs⟩⟩
       ·rw[iN (by rw[ZA fun h=>hn h.1];simp)]
        exact no (fun h=>hn (by have:=h.2.1.2;rw[iN h5,←hvs]at this;exact this)) _
     by_cases h2:p.op=2
     ·rw[iP h2]
      exact fin [⟨p.var,t⟩] (by simp) (by rw[iP (.inl h2)]) (F.f117 w p ((11- (d+1):Nat):Int) (ZG w t p,dec (ZAu w t p/\p.kids.length=(ZG w t p).length))) (fun z vars i=>by rw[F.f117]) F.f113 (fun q s i=>by rw[F.f113])
     ·rw[iN h2]
      by_cases h6:p.op=6
      ·rw[iP h6]
       exact fin [⟨p.var,t⟩] (by simp) (by rw[iP (.inr h6)]) (F.f115 w p ((11- (d+1):Nat):Int) (ZG w t p,dec (ZAu w t p/\p.kids.length=(ZG w t p).length))) (fun z vars i=>by rw[F.f115]) F.f111 (fun q s i=>by rw[F.f111])
      ·rw[iN h6]
       exact fin [] (by simp) (by rw[iN (by omega)]) (yQ w p ((11- (d+1):Nat):Int) (ZG w t p,dec (ZAu w t p/\p.kids.length=(ZG w t p).length))) (fun z vars i=>by rw[yQ]) xC (fun q s i=>by rw[xC])
   ·rw[iN (by rw[ZA hs];simp)]
    exact no (fun h=>hs ⟨h.1.1,h.1.2.1⟩) _
termination_by d=>d
def ZDD (w:List Data)(t:Ty)(p:Pattern):Prop:=Zh w 10 t p/\ZFC w 10 t p/\1+p.wt<=60
theorem P.YAR (w:List Data)(hw:ZI w)(t:Ty)(ht:ZY w t)(p:Pattern)(hp:p.wt<=1048576):F.f65 w t p=some (dec (ZDD w t p)):=by
 unfold F.f65
 have e10:xO w t p 10=some (dec (Zh w 10 t p)):=P.YE w hw 10 t p ht (by omega)
 rw[e10]
 simp only[oE,oS]
 by_cases h1:Zh w 10 t p
 ·rw[iP (dec_of h1)]
  obtain⟨c,g1,g2,g3,g4,g5⟩:=P.YAU p hp 60 (by omega)
  have g1':vD p 60=some (c:Int):=g1
  rw[g1']
  simp only[oS]
  by_cases hc:1+p.wt<=60
  ·rw[iP (by have:=g4 hc;omega),P.YK w hw 10 t p ht h1 hp]
   simp only[oS]
   congr 1;exact ZL ⟨fun h=>⟨h1,h,hc⟩,fun h=>h.2.1⟩
  ·rw[iN (by have:=g5 (by omega);omega),ZA fun h=>hc h.2.2]
 ·rw[iN (by rw[ZA h1];simp),ZA fun h=>h1 h.1]
theorem P.YW (w:List Data)(hw:ZI w)(t:Ty)(ht:ZY w t)(p:Pattern)(hp:p.wt<=1048576):∃vs,F.f118 w t p=some (vs,dec (ZDD w t p))/\(ZDD w t p->vs=Zi w 10 t p):=by
 unfold F.f118
 obtain⟨vs,b,c,g1,g2,g3⟩:=P.Ya w hw 10 t p 0 (by omega) ht hp (by omega)
 have g1':yM w t p 1 0=some (vs,b,(c:Int)):=g1
 rw[g1']
 simp only[oE,oS]
 have hb:b=dec (ZDD w t p):=by
  cases b with
  |true=>rw[dec_of];obtain⟨a,b,c⟩:=g2.1 rfl;exact⟨a,b,by omega⟩
  |false=>rw[ZA];intro h;have:=g2.2 ⟨h.1,h.2.1,by have:=h.2.2;omega⟩;cases this
 subst hb
 exact⟨vs,rfl,fun h=>(g3 (dec_of h)).2⟩
def ZPA (v:Int):Nat->Pattern->Prop
 |0,_=>False
 |d+1,p=>(∃i,∃h:i<p.kids.length,ZPA v d p.kids[i])∨((p.op=2∨p.op=6)/\p.var=v)
theorem P.Yi (w:List Data)(hw:ZI w)(t:Ty)(ht:ZY w t)(p:Pattern)(hp:p.wt<=1048576):F.f119 w t p=some (dec (ZDD w t p)):=by
 unfold F.f119
 obtain⟨vs,h1,_⟩:=P.YW w hw t ht p hp
 rw[h1];rfl
def hv (d:Nat)(p:Pattern):Prop:=∃v,ZPA v d p
def Tree.nodes :Tree->Nat
 |⟨_,_,_,_,branches,els⟩=>1+(branches.attach.map fun⟨b,_⟩=>Tree.nodes b.tree).sum+(els.attach.map fun⟨k,_⟩=>Tree.nodes k).sum
termination_by t=>SizeOf.sizeOf t
decreasing_by
 ·rename_i h
  have:=yA h
  cases b
  simp at this ⊢
  omega
 ·rename_i h
  have:=yA h
  simp
  omega
def ZH3 :Nat->Tree->Prop
 |0,_=>False
 |n+1,x=>(0<=x.op/\x.op<=2/\x.els.length<=1/\x.branches.length<=10)/\(∀b,b∈x.branches->ZH3 n b.tree)/\∀y,y∈x.els->ZH3 n y
def right (x:Tree):Prop:=ZH3 x.nodes x
theorem P.YT (w:List Data)(hw:ZAX w)(t:Ty)(p:Pattern)(hp:p.wt<=1048576):F.f120 w t p=some (dec (ZAP w t/\ZDD w t p)):=by
 unfold F.f120
 rw[P.Yj w t hw]
 simp only[oE,oS]
 by_cases h:ZAP w t
 ·rw[iP (dec_of h),P.Yi w h.1 t h.2 p hp]
  simp only[oS]
  by_cases h2:ZDD w t p
  ·rw[dec_of h2,dec_of ⟨h,h2⟩]
  ·rw[ZA h2,ZA fun q=>h2 q.2]
 ·rw[iN (by rw[ZA h];decide),ZA fun q=>h q.1]
def Zc (s:Nat):Ty:=⟨((s/4:Nat):Int),((s%4:Nat):Int)⟩
def slotN (t:Ty):Nat:=t.data.toNat*4+t.index.toNat
def dpt (g:Nat->Nat)(t:Ty):Nat:=if t.data= -1 then 1 else g (slotN t)
def mst (g:Nat->Nat):Nat->List Ty->Nat
 |m,[]=>m+1
 |m,a::r=>if dpt g a=0 then 0 else mst g (if m<dpt g a then dpt g a else m) r
noncomputable def ZAW (w:List Data)(s:Nat)(g:Nat->Nat)(c:Int):Nat->Nat:=
 if 0<mst g 0 (ZJ w (Zc s) c)/\(g s=0∨mst g 0 (ZJ w (Zc s) c)<g s)then updF g s (mst g 0 (ZJ w (Zc s) c))else g
noncomputable def upS (w:List Data)(g:Nat->Nat)(s:Nat):Nat->Nat:=(ZM w (Zc s)).foldl (ZAW w s) g
noncomputable def foldS (w:List Data):Nat->Nat->(Nat->Nat)->Nat->Nat
 |0,_,g=>g
 |k+1,s,g=>foldS w k (s+1) (upS w g s)
theorem ZEm (w:List Data):∀(a b s:Nat) (g:Nat->Nat),foldS w (a+b) s g=foldS w b (s+a) (foldS w a s g)
 |0,b,s,g=>by simp[foldS]
 |a+1,b,s,g=>by
  rw[Nat.add_right_comm,foldS,foldS,ZEm w a b (s+1),Nat.add_right_comm s 1 a,Nat.add_assoc s a 1]
noncomputable def itr (w:List Data):Nat->Nat->Nat
 |0=>fun _=>0
 |k+1=>foldS w (4*w.length) 0 (itr w k)
def Hs (w:List Data):Nat->Nat->Prop
 |0,_=>False
 |k+1,s=>∃c,c∈ZM w (Zc s)/\∀a,a∈ZJ w (Zc s) c->(a.data= -1/\1<=k)∨(a.data≠-1/\Hs w k (slotN a))
theorem Hs.succ :∀{k s:Nat},Hs w k s->Hs w (k+1) s
 |0,_,h=>h.elim
 |k+1,s,⟨c,hc,h⟩=>⟨c,hc,fun a ha=>(h a ha).imp (fun q=>⟨q.1,by omega⟩) fun q=>⟨q.1,q.2.succ⟩⟩
variable {s:Nat}
theorem Hs.mono {k j:Nat}(h:Hs w k s)(hj:k<=j):Hs w j s:=by
 induction hj with
 |refl=>exact h
 |step _ ih=>exact ih.succ
theorem ZKe {g:Nat->Nat}:∀(ts:List Ty) (m:Nat),0<mst g m ts->m+1<=mst g m ts/\∀a,a∈ts->dpt g a≠0/\dpt g a+1<=mst g m ts
 | [],m,h=>⟨zB _,fun a ha=>by cases ha⟩
 |x::r,m,h=>by
  rw[mst]at h ⊢
  by_cases h0:dpt g x=0
  ·rw[iP h0]at h;omega
  ·rw[iN h0]at h ⊢
   obtain⟨h1,h2⟩:=ZKe r _ h
   have h3:m<=(if m<dpt g x then dpt g x else m)/\dpt g x<=(if m<dpt g x then dpt g x else m):=by split<;>omega
   refine⟨by omega,fun a ha=> ?_⟩
   rcases zW.1 ha with rfl|ha
   ·exact⟨h0,by omega⟩
   ·exact h2 a ha
theorem ZKd {g:Nat->Nat}{k:Nat}:∀(ts:List Ty) (m:Nat),m<=k->(∀a,a∈ts->dpt g a≠0/\dpt g a<=k)->0<mst g m ts/\mst g m ts<=k+1
 | [],m,h,_=>by rw[mst];omega
 |x::r,m,h,ha=>by
  obtain⟨h0,h1⟩:=ha x (zR ..)
  rw[mst,iN h0]
  exact ZKd r _ (by split<;>omega) fun a h=>ha a (zQ _ h)
theorem ZGc {g:Nat->Nat}{L:Nat}(hL:1<=L)(hg:∀s,g s<=L):∀(ts:List Ty) (m:Nat),m<=L->mst g m ts<=L+1
 | [],m,h=>by rw[mst];omega
 |x::r,m,h=>by
  rw[mst]
  have:dpt g x<=L:=by
   unfold dpt
   split
   ·exact hL
   ·exact hg _
  split
  ·omega
  ·exact ZGc hL hg r _ (by split<;>omega)
def btr (g f:Nat->Nat):Prop:=∀s,f s≠0->g s≠0/\g s<=f s
theorem btr.refl (g:Nat->Nat):btr g g:=fun s h=>⟨h,zB _⟩
theorem btr.trans {a b c:Nat->Nat}(h:btr a b)(h':btr b c):btr a c:=fun s hs=>
 let⟨h1,h2⟩:=h' s hs;let⟨h3,h4⟩:=h s h1;⟨h3,zD h4 h2⟩
variable {g:Nat->Nat}
theorem ZGM :btr (ZAW w s g c) g:=by
 unfold ZAW
 split
 ·next h=>
  intro k hk
  unfold updF
  by_cases e:k=s
  ·subst e;rw[iP rfl];exact⟨by omega,by have:=h.2.resolve_left hk;omega⟩
  ·rw[iN e];exact⟨hk,zB _⟩
 ·exact .refl _
theorem ZCY {w:List Data}{s:Nat}:∀(l:List Int) (g:Nat->Nat),btr (l.foldl (ZAW w s) g) g
 | [],g=>.refl _
 |c::r,g=>(ZCY r _).trans ZGM
theorem ZCu {w:List Data}:∀(k s:Nat) (g:Nat->Nat),btr (foldS w k s g) g
 |0,_,g=>.refl _
 |k+1,s,g=>(ZCu k (s+1) _).trans (ZCY _ _)
theorem ZIf {w:List Data}(k:Nat):∀m,btr (itr w (k+m)) (itr w k)
 |0=>.refl _
 |m+1=>(ZCu _ _ _).trans (ZIf k m)
def Snd (w:List Data)(g:Nat->Nat):Prop:=∀s,0<g s->Hs w (g s) s
theorem ZKf (h:Snd w g)(hc:c∈ZM w (Zc s))(hp:0<mst g 0 (ZJ w (Zc s) c)):Hs w (mst g 0 (ZJ w (Zc s) c)) s:=by
 obtain⟨_,h2⟩:=ZKe _ _ hp
 obtain⟨k,hk⟩:∃k,mst g 0 (ZJ w (Zc s) c)=k+1:=⟨_,(Nat.succ_pred_eq_of_pos hp).symm⟩
 rw[hk]at h2 ⊢
 refine⟨c,hc,fun a ha=> ?_⟩
 obtain⟨h3,h4⟩:=h2 a ha
 unfold dpt at h3 h4
 by_cases e:a.data= -1
 ·rw[iP e]at h4;exact .inl ⟨e,by omega⟩
 ·rw[iN e]at h3 h4
  exact .inr ⟨e,(h _ (by omega)).mono (by omega)⟩
theorem ZJK (h:Snd w g)(hc:c∈ZM w (Zc s)):Snd w (ZAW w s g c):=by
 unfold ZAW
 split
 ·next hq=>
  intro k hk
  unfold updF at hk ⊢
  by_cases e:k=s
  ·subst e;rw[iP rfl];exact ZKf h hc hq.1
  ·rw[iN e]at hk ⊢;exact h k hk
 ·exact h
theorem ZGn {w:List Data}{s:Nat}:∀(l:List Int) (g:Nat->Nat),(∀c,c∈l->c∈ZM w (Zc s))->Snd w g->Snd w (l.foldl (ZAW w s) g)
 | [],g,_,h=>h
 |c::r,g,hl,h=>ZGn r _ (fun x hx=>hl x (zQ _ hx)) (ZJK h (hl c (zR ..)))
theorem ZEn {w:List Data}:∀(k s:Nat) (g:Nat->Nat),Snd w g->Snd w (foldS w k s g)
 |0,_,g,h=>h
 |k+1,s,g,h=>ZEn k (s+1) _ (ZGn _ _ (fun c hc=>hc) h)
theorem ZIg {w:List Data}:∀k,Snd w (itr w k)
 |0=>fun s h=>by simp[itr]at h
 |k+1=>ZEn _ _ _ (ZIg k)
theorem ZAY (h:s<4*w.length):ZY w (Zc s):=by
 refine⟨.inr ⟨?_,?_,?_,?_⟩,?_⟩<;>simp only[Zc]<;>omega
theorem ZDk (h:ZY w t)(hd:t.data≠-1):slotN t<4*w.length:=by
 have h1:=h.1.resolve_left fun q=>hd q.1
 have h2:=h.2
 unfold slotN;omega
def Cmp (w:List Data)(k:Nat)(g:Nat->Nat):Prop:=∀s,s<4*w.length->Hs w k s->g s≠0/\g s<=k
theorem Cmp.btr {k:Nat}{f:Nat->Nat}(h:Cmp w k f)(hg:btr g f):Cmp w k g:=fun s hs hh=>
 let⟨h1,h2⟩:=h s hs hh;let⟨h3,h4⟩:=hg s h1;⟨h3,zD h4 h2⟩
theorem ZGo {w : List Data} (hw : ZI w) {k s : Nat} (hs : s < 4 * w.length) {c : Int} (hc : c ∈ ZM w (Zc s)) (ha : ∀ a, a ∈ ZJ w (Zc s) c -> (a.data = -1 /\ 1 <= k) ∨ (a.data ≠ -1 /\ Hs w k (slotN a))) :
  ∀ (l : List Int) (g : Nat -> Nat), Cmp w k g -> c ∈ l -> (l.foldl (ZAW w s) g) s ≠ 0 /\ (l.foldl (ZAW w s) g) s <= k + 1
 | [], g, _, h => by cases h
 | x :: r, g, hg, h => by
  rw [zV]
  by_cases e : c = x
  ·subst e
   have hm := ZKd (g := g) (k := k) (ZJ w (Zc s) c) 0 (zC _) fun a h => by
    unfold dpt
    rcases ha a h with ⟨q1, q2⟩ | ⟨q1, q2⟩
    ·rw [iP q1]; omega
    ·rw [iN q1]
     exact hg _ (ZDk (ZAp hw (ZAY hs) hc a h) q1) q2
   have h1 : ZAW w s g c s ≠ 0 /\ ZAW w s g c s <= k + 1 := by
    unfold ZAW
    split
    ·unfold updF; rw [iP rfl]; omega
    ·next hq =>
      refine ⟨fun h0 => hq ⟨hm.1, .inl h0⟩, ?_⟩
      apply yH
      intro hn
      exact hq ⟨hm.1, .inr (by omega)⟩
   obtain ⟨h2, h3⟩ := ZCY r _ s h1.1
   exact ⟨h2, by omega⟩
  ·exact ZGo hw hs hc ha r _ (hg.btr ZGM) ((zW.1 h).resolve_left e)
theorem ZEo {w:List Data}(hw:ZI w){k s:Nat}(hs:s<4*w.length)(hh:Hs w (k+1) s):∀(m a:Nat) (g:Nat->Nat),Cmp w k g->a<=s->s<a+m->(foldS w m a g) s≠0/\(foldS w m a g) s<=k+1
 |0,a,g,hg,h1,h2=>by omega
 |m+1,a,g,hg,h1,h2=>by
  rw[foldS]
  by_cases e:a=s
  ·subst e
   obtain⟨c,hc,ha⟩:=hh
   have h3:=ZGo hw hs hc ha _ g hg hc
   obtain⟨h4,h5⟩:=ZCu (w:=w) m (a+1) (upS w g a) a h3.1
   have h6:upS w g a a<=k+1:=h3.2
   exact⟨h4,by omega⟩
  ·exact ZEo hw hs hh m (a+1) _ (hg.btr (ZCY _ _)) (by omega) (by omega)
theorem ZFi {w:List Data}(hw:ZI w):∀k,Cmp w k (itr w k)
 |0=>fun s _ h=>h.elim
 |k+1=>fun s hs hh=>ZEo hw hs hh _ _ _ (ZFi hw k) (zC _) (by omega)
noncomputable def ZGr (p:Nat->Prop):Nat->Nat
 |0=>0
 |n+1=>ZGr p n+if dec (p n)=true then 1 else 0
theorem ZIy (p:Nat->Prop):∀n,ZGr p n<=n
 |0=>zB _
 |n+1=>by have:=ZIy p n;rw[ZGr];split<;>omega
theorem ZEx {p q:Nat->Prop}:∀n,(∀s,s<n->p s->q s)->ZGr p n<=ZGr q n
 |0,_=>zB _
 |n+1,h=>by
  have:=ZEx n fun s hs=>h s (by omega)
  rw[ZGr,ZGr]
  by_cases hp:p n
  ·rw[iP (dec_of hp),iP (dec_of (h n (by omega) hp))];omega
  ·rw[iN (by rw[ZA hp];decide)];omega
theorem ZIx {p q:Nat->Prop}{s0:Nat}(hq:q s0)(hp:¬p s0):∀n,s0<n->(∀s,s<n->p s->q s)->ZGr p n<ZGr q n
 |0,h,_=>by omega
 |n+1,h,hi=>by
  rw[ZGr,ZGr]
  by_cases e:s0=n
  ·subst e
   have:=ZEx s0 fun s hs=>hi s (by omega)
   rw[iN (by rw[ZA hp];decide),iP (dec_of hq)];omega
  ·have:=ZIx hq hp n (by omega) fun s hs=>hi s (by omega)
   by_cases hpn:p n
   ·rw[iP (dec_of hpn),iP (dec_of (hi n (by omega) hpn))];omega
   ·rw[iN (by rw[ZA hpn];decide)];omega
theorem ZNz (hw:ZI w){k:Nat}(hs:s<4*w.length)(h:Hs w k s):Hs w (4*w.length+1) s:=by
 have st:∃j,1<=j/\j<=4*w.length+1/\∀s,s<4*w.length->Hs w (j+1) s->Hs w j s:=by
  apply yH
  intro hn
  have grow:∀j,j<=4*w.length+1->j<=ZGr (Hs w (j+1)) (4*w.length):=by
   intro j
   induction j with
   |zero=>intro _;omega
   |succ j ih=>
    intro hj
    have h1:=ih (by omega)
    have h2:∃s0,s0<4*w.length/\Hs w (j+2) s0/\¬Hs w (j+1) s0:=by
     apply yH
     intro hx
     exact hn ⟨j+1,by omega,hj,fun s hs hh=>yH fun hq=>hx ⟨s,hs,hh,hq⟩⟩
    obtain⟨s0,q1,q2,q3⟩:=h2
    have h3:ZGr (Hs w (j+1)) (4*w.length)<ZGr (Hs w (j+1+1)) (4*w.length):=ZIx q2 q3 _ q1 fun s _ h=>h.succ
    omega
  have h1:=grow (4*w.length+1) (zB _)
  have h2:=ZIy (Hs w (4*w.length+1+1)) (4*w.length)
  omega
 obtain⟨j,h1,h2,h3⟩:=st
 have stay:∀m s,s<4*w.length->Hs w (j+m) s->Hs w j s:=by
  intro m
  induction m with
  |zero=>exact fun s _ h=>h
  |succ m ih=>
   intro s hs hh
   obtain⟨c,hc,ha⟩:=hh
   refine h3 s hs ⟨c,hc,fun a h=> ?_⟩
   rcases ha a h with⟨q1,q2⟩|⟨q1,q2⟩
   ·exact .inl ⟨q1,h1⟩
   ·exact .inr ⟨q1,ih _ (ZDk (ZAp hw (ZAY hs) hc a h) q1) q2⟩
 by_cases hk:k<=j
 ·exact(h.mono hk).mono h2
 ·exact(stay (k-j) s hs (by rwa[show j+(k-j)=k by omega])).mono h2
theorem ZLU (hw:ZI w)(hs:s<4*w.length)(hc:c∈ZM w (Zc s)):ZAW w s (itr w (4*w.length+1)) c=itr w (4*w.length+1):=by
 unfold ZAW
 refine iN ?_
 rintro⟨hp,hq⟩
 have h1:=ZKf (ZIg _) hc hp
 obtain⟨h2,h3⟩:=ZFi hw _ s hs (ZNz hw hs h1)
 have h4:=hq.resolve_left h2
 generalize mst (itr w (4*w.length+1)) 0 (ZJ w (Zc s) c)=d at h1 h4
 obtain⟨h5,h6⟩:=ZFi hw d s hs h1
 obtain⟨h7,h8⟩:=ZIf (w:=w) d (4*w.length+1-d) s h5
 rw[show d+(4*w.length+1-d)=4*w.length+1 by omega]at h8
 omega
theorem ZFI {w:List Data}{s:Nat}{g:Nat->Nat}:∀(l:List Int),(∀c,c∈l->ZAW w s g c=g)->l.foldl (ZAW w s) g=g
 | [],_=>rfl
 |c::r,h=>by rw[zV,h c (zR ..)];exact ZFI r fun x hx=>h x (zQ _ hx)
def Bdd (L:Nat)(g:Nat->Nat):Prop:=1<=L/\∀s,g s<=L
variable {L:Nat}
theorem ZDh (h:Bdd L g):Bdd (L+1) (ZAW w s g c):=by
 refine⟨by omega,fun k=> ?_⟩
 have:=ZGc h.1 h.2 (ZJ w (Zc s) c) 0 (by omega)
 unfold ZAW
 split
 ·unfold updF;split
  ·exact this
  ·have:=h.2 k;omega
 ·have:=h.2 k;omega
theorem ZCZ {w:List Data}{s:Nat}:∀(l:List Int) (L:Nat) (g:Nat->Nat),Bdd L g->Bdd (L+l.length) (l.foldl (ZAW w s) g)
 | [],L,g,h=>h
 |c::r,L,g,h=>by
  have:=ZCZ (w:=w) (s:=s) r (L+1) _ (ZDh (w:=w) (s:=s) (c:=c) h)
  rw[zN,show L+(r.length+1)=L+1+r.length by omega];exact this
theorem Bdd.mono {M:Nat}(h:Bdd L g)(hm:L<=M):Bdd M g:=⟨by have:=h.1;omega,fun s=>zD (h.2 s) hm⟩
theorem ZCC (hw:ZI w)(hs:s<4*w.length):(ZM w (Zc s)).length<=4:=by
 have h:=ZAY hs
 unfold ZM
 split
 ·simp
 ·next hn=>exact zD (ZGT _ _ _) (ZAC hw (ZAj h.1) hn).1
theorem ZCv {w:List Data}(hw:ZI w):∀(k s L:Nat) (g:Nat->Nat),s+k<=4*w.length->Bdd L g->Bdd (L+4*k) (foldS w k s g)
 |0,s,L,g,_,h=>h
 |k+1,s,L,g,hs,h=>by
  have:=ZCv hw k (s+1) (L+4) (upS w g s) (by omega) ((ZCZ _ L g h).mono (by have:=ZCC hw (s:=s) (by omega);omega))
  rw[foldS,show L+4*(k+1)=L+4+4*k by omega];exact this
theorem ZD1 {w:List Data}(hw:ZI w):∀k,Bdd (1+64*k) (itr w k)
 |0=>⟨by omega,fun s=>by simp[itr]⟩
 |k+1=>(ZCv hw _ _ _ _ (by omega) (ZD1 hw k)).mono (by have:=hw.1;omega)
/-! The reference's table. -/
def tbl (n:Nat)(g:Nat->Nat):List Int:=(List.range n).map fun s=>((g s:Nat):Int)
theorem ZA5 (n:Nat)(g:Nat->Nat):(tbl n g).length=n:=by simp[tbl]
theorem ZCe {n:Nat}(g:Nat->Nat)(h:s<n):(tbl n g)[s]? =some ((g s:Nat):Int):=by
 unfold tbl;rw[List.getElem?_map,List.getElem?_range h];rfl
theorem ZHu {n:Nat}(g:Nat->Nat)(d:Nat)(h:s<n):(tbl n g).set s (d:Int)=tbl n (updF g s d):=by
 refine yE fun k=> ?_
 rw[List.getElem?_set,ZA5]
 by_cases hk:k<n
 ·rw[ZCe _ hk,ZCe _ hk]
  unfold updF
  by_cases e:s=k
  ·subst e;rw[iP rfl,iP h,iP rfl]
  ·rw[iN e,iN (Ne.symm e)]
 ·have e1:(tbl n g)[k]? =none:=zP (by rw[ZA5];omega)
  have e2:(tbl n (updF g s d))[k]? =none:=zP (by rw[ZA5];omega)
  rw[e1,e2,iN (by omega)]
theorem P.YY (hw:ZI w)(g:Nat->Nat)(ht:ZY w t):F.f68 (tbl (4*w.length) g) t=some ((dpt g t:Nat):Int):=by
 unfold F.f68 F.f67 dpt
 by_cases hd:t.data= -1
 ·rw[iP hd,iP hd];rfl
 ·have hl:=ZDk ht hd
  have h1:=ht.1.resolve_left fun q=>hd q.1
  have h2:=ht.2
  have h4:=hw.1
  rw[iN hd,iN hd,ZE (n:=t.data*4) (by omega) (by omega),ZE (by omega) (by omega)]
  simp only[oE,oS]
  have e:t.data*4+t.index=((slotN t:Nat):Int):=by unfold slotN;omega
  rw[e,ZI4,ZCe g hl];rfl
theorem P.YAd (hw:ZI w)(g:Nat->Nat)(ts:List Ty)(ht:∀a,a∈ts->ZY w a):∀(n i m:Nat),ts.length-i=n->xI (tbl (4*w.length) g) ts (m:Int) i=some (if mst g m (ts.drop i)=0 then .ret 0 else .go ((mst g m (ts.drop i) -1:Nat):Int)):=by
 intro n
 induction n with
 |zero=>
  intro i m hn
  rw[xI,iN (by omega),zG (by omega),mst,iN (by omega)];rfl
 |succ n ih=>
  intro i m hn
  have hi:i<ts.length:=by omega
  rw[xI,iP hi,gQ hi,zF hi,mst]
  simp only[oE,oS]
  rw[P.YY hw g (ht _ (gM hi))]
  simp only[oS]
  by_cases h0:dpt g ts[i]=0
  ·rw[iP (show((dpt g ts[i]:Nat):Int)=0 by omega),iP h0,iP rfl]
  ·rw[iN (show ¬((dpt g ts[i]:Nat):Int)=0 by omega),iN h0]
   by_cases hm:m<dpt g ts[i]
   ·rw[iP (show(m:Int)<((dpt g ts[i]:Nat):Int) by omega),iP hm];exact ih (i+1) _ (by omega)
   ·rw[iN (show ¬(m:Int)<((dpt g ts[i]:Nat):Int) by omega),iN hm];exact ih (i+1) _ (by omega)
theorem P.YAk (hw:ZI w)(hg:Bdd L g)(hL:L<=1000000)(ht:ZY w t)(hc:c∈ZM w t):F.f70 w (tbl (4*w.length) g) t c=some ((mst g 0 (ZJ w t c):Nat):Int):=by
 unfold F.f70
 rw[P.YG w hw t (ZAj ht.1) c hc]
 simp only[oE,oS]
 have e:=P.YAd hw g (ZJ w t c) (ZAp hw ht hc) _ 0 0 rfl
 rw[zH]at e
 have hb:=ZGc hg.1 hg.2 (ZJ w t c) 0 (by omega)
 have e:xI (tbl (4*w.length) g) (ZJ w t c) 0 0=some (if mst g 0 (ZJ w t c)=0 then .ret 0 else .go ((mst g 0 (ZJ w t c) -1:Nat):Int)):=e
 rw[e]
 by_cases h0:mst g 0 (ZJ w t c)=0
 ·rw[iP h0,h0];rfl
 ·rw[iN h0]
  simp only[oS]
  rw[ZE (by omega) (by omega)]
  congr 1;omega
theorem ZEG (s:Nat)(h:s<1000):(⟨i64.wrap ((s:Int).tdiv 4),(s:Int).tmod 4⟩:Ty)=Zc s:=by
 have e1:((s:Int)).tdiv 4=((s/4:Nat):Int):=(Int.ofNat_tdiv s 4).symm
 have e2:((s:Int)).tmod 4=((s%4:Nat):Int):=(Int.ofNat_tmod s 4).symm
 rw[e1,e2,ZE (by omega) (by omega)];rfl
theorem P.YAa (hw:ZI w)(n s:Nat)(hs:s<4*w.length)(v:List Int)(hv:∀c,c∈v->c∈ZM w (Zc s)):∀(m i:Nat) (g:Nat->Nat) (L:Nat),v.length-i=m->Bdd L g->L+m<=1000000->vB w n s v (tbl (4*w.length) g) i=some (tbl (4*w.length) ((v.drop i).foldl (ZAW w s) g)):=by
 intro m
 induction m with
 |zero=>
  intro i g L hm hg hL
  rw[vB,iN (by omega),zG (by omega)];rfl
 |succ m ih=>
  intro i g L hm hg hL
  have hi:i<v.length:=by omega
  have h4:=hw.1
  have hc:=hv _ (gM hi)
  have next:=ih (i+1) (ZAW w s g v[i]) (L+1) (by omega) (ZDh hg) (by omega)
  rw[vB,iP hi,gQ hi,zF hi,zV,←next]
  simp only[oE,oS]
  rw[ZEG s (by omega),P.YAk hw hg (by omega) (ZAY hs) hc]
  simp only[oS]
  unfold ZAW
  generalize mst g 0 (ZJ w (Zc s) v[i])=d
  by_cases hd:0<d
  ·rw[iP (show 0<(d:Int) by omega),ZCe g hs]
   simp only[oS]
   by_cases h0:g s=0
   ·rw[iP (show((g s:Nat):Int)=0 by omega),iP ⟨hd,.inl h0⟩,ZHu g d hs]
   ·rw[iN (show ¬((g s:Nat):Int)=0 by omega)]
    by_cases h1:d<g s
    ·rw[iP (show(d:Int)<((g s:Nat):Int) by omega),iP ⟨hd,.inr h1⟩,ZHu g d hs]
    ·rw[iN (show ¬(d:Int)<((g s:Nat):Int) by omega),iN (fun q=>q.2.elim h0 h1)]
  ·rw[iN (show ¬0<(d:Int) by omega),iN (fun q=>hd q.1)]
theorem P.YAb (hw:ZI w)(n:Nat):∀(m s:Nat) (g:Nat->Nat) (L:Nat),4*w.length-s=m->Bdd L g->L+4*m<=1000000->vA w n (tbl (4*w.length) g) s=some (tbl (4*w.length) (foldS w m s g)):=by
 intro m
 induction m with
 |zero=>
  intro s g L hm hg hL
  rw[vA,iN (by rw[ZA5];omega)];rfl
 |succ m ih=>
  intro s g L hm hg hL
  have hs:s<4*w.length:=by omega
  have h4:=hw.1
  have hc:=ZCC hw hs
  rw[vA,iP (by rw[ZA5];exact hs),ZEG s (by omega),P.YR w hw _ (ZAj (ZAY hs).1)]
  simp only[oE,oS]
  rw[P.YAa hw n s hs _ (fun c h=>h) _ 0 g L rfl hg (by omega),zH]
  simp only[oS]
  rw[iP (by omega)]
  exact ih (s+1) (upS w g s) (L+4) (by omega) ((ZCZ _ L g hg).mono (by omega)) (by omega)
theorem P.YAc (hw:ZI w):∀(m n:Nat),4*w.length+1-n=m->n<=4*w.length+1->xZ w (tbl (4*w.length) (itr w n)) n=some (tbl (4*w.length) (itr w (4*w.length+1))):=by
 intro m
 induction m with
 |zero=>
  intro n hm hn
  rw[xZ,iN (by rw[ZA5];omega),show n=4*w.length+1 by omega]
 |succ m ih=>
  intro n hm hn
  have h4:=hw.1
  rw[xZ,iP (by rw[ZA5];omega),P.YAb hw n _ 0 _ _ rfl (ZD1 hw n) (by omega)]
  simp only[oE,oS]
  rw[iP (by omega)]
  exact ih (n+1) (by omega) (by omega)
theorem P.Yn (hw:ZI w):F.f74 w=some (tbl (4*w.length) (itr w (4*w.length+1))):=by
 have h4:=hw.1
 unfold F.f74
 have e:i64.wrap ((w.length:Int)*4)=((4*w.length:Nat):Int):=by rw[ZE (by omega) (by omega)];omega
 have e2:List.replicate (4*w.length) 0=tbl (4*w.length) (itr w 0):=by
  refine yE fun k=> ?_
  by_cases hk:k<4*w.length
  ·rw[ZCe _ hk,List.getElem?_replicate,iP hk];rfl
  ·rw[zP (by simp;omega),zP (by rw[ZA5];omega)]
 rw[e,iP (by omega),Int.toNat_natCast,e2,P.YAc hw _ 0 rfl (zC _)];rfl
/-! The program's sweeps. -/
def fni (g:Nat->Nat):Nat->Int:=fun s=>((g s:Nat):Int)
theorem ZLl (g:Nat->Nat)(s d:Nat):updF (fni g) s (d:Int)=fni (updF g s d):=by
 funext k;unfold fni updF;split<;>rfl
theorem P.YX (hw:ZI w)(g:Nat->Nat)(ht:ZY w t):xT (fni g) t=some ((dpt g t:Nat):Int):=by
 unfold xT dpt
 by_cases hd:t.data= -1
 ·rw[iP hd,iP hd];rfl
 ·have h1:=ht.1.resolve_left fun q=>hd q.1
  have h2:=ht.2
  have h4:=hw.1
  rw[iN hd,iN hd,iP (by omega),iP (by omega)];rfl
theorem P.YAV (hw:ZI w)(g:Nat->Nat)(ts:List Ty)(ht:∀a,a∈ts->ZY w a):∀(n i m:Nat),ts.length-i=n->xB (fni g) ts i (m:Int)=some (if mst g m (ts.drop i)=0 then .ret 0 else .go ((mst g m (ts.drop i) -1:Nat):Int)):=by
 intro n
 induction n with
 |zero=>
  intro i m hn
  rw[xB,iN (by omega),zG (by omega),mst,iN (by omega)];rfl
 |succ n ih=>
  intro i m hn
  have hi:i<ts.length:=by omega
  rw[xB,iP hi,gQ hi,zF hi,mst]
  simp only[oE,oS]
  rw[P.YX hw g (ht _ (gM hi))]
  simp only[oS]
  by_cases h0:dpt g ts[i]=0
  ·rw[iP (show((dpt g ts[i]:Nat):Int)=0 by omega),iP h0,iP rfl]
  ·rw[iN (show ¬((dpt g ts[i]:Nat):Int)=0 by omega),iN h0]
   have e:(if((dpt g ts[i]:Nat):Int)>(m:Int)then((dpt g ts[i]:Nat):Int)else(m:Int))=(((if m<dpt g ts[i]then dpt g ts[i]else m):Nat):Int):=by
    by_cases hm:m<dpt g ts[i]
    ·rw[iP hm,iP (by omega)]
    ·rw[iN hm,iN (by omega)]
   rw[e]
   exact ih (i+1) _ (by omega)
theorem P.YAu (hw:ZI w)(hg:Bdd L g)(hL:L<=1000000)(ht:ZY w t)(hc:c∈ZM w t):F.f123 (fni g) w t c=some ((mst g 0 (ZJ w t c):Nat):Int):=by
 unfold F.f123
 rw[P.YM w hw t (ZAj ht.1) c hc]
 simp only[oE,oS]
 have e:=P.YAV hw g (ZJ w t c) (ZAp hw ht hc) _ 0 0 rfl
 rw[zH]at e
 have hb:=ZGc hg.1 hg.2 (ZJ w t c) 0 (by omega)
 have e:xB (fni g) (ZJ w t c) 0 0=some (if mst g 0 (ZJ w t c)=0 then .ret 0 else .go ((mst g 0 (ZJ w t c) -1:Nat):Int)):=e
 rw[e]
 by_cases h0:mst g 0 (ZJ w t c)=0
 ·rw[iP h0,h0];rfl
 ·rw[iN h0]
  simp only[oS]
  rw[ZE (by omega) (by omega)]
  congr 1;omega
theorem ZGQ {i j:Nat}(hj:j<4):(⟨(i:Int),(j:Int)⟩:Ty)=Zc (i*4+j):=by
 unfold Zc;congr 1<;>omega
theorem P.YAX (hw:ZI w)(i j:Nat)(hi:i<w.length)(hj:j<4)(v:List Int)(hv:∀c,c∈v->c∈ZM w (Zc (i*4+j))):∀(m k:Nat) (g:Nat->Nat) (L:Nat) (ch:Bool),v.length-k=m->Bdd L g->L+m<=1000000->
  ∃b,yP w i j v (fni g) k ch=some (fni ((v.drop k).foldl (ZAW w (i*4+j)) g),b)/\(b=false->ch=false/\(v.drop k).foldl (ZAW w (i*4+j)) g=g)/\((∀c,c∈v->ZAW w (i*4+j) g c=g)->b=ch):=by
 intro m
 induction m with
 |zero=>
  intro k g L ch hm hg hL
  rw[yP,iN (by omega),zG (by omega)]
  exact⟨ch,rfl,fun h=>⟨h,rfl⟩,fun _=>rfl⟩
 |succ m ih=>
  intro k g L ch hm hg hL
  have hk:k<v.length:=by omega
  have h4:=hw.1
  have hs:i*4+j<4*w.length:=by omega
  have hcm:=gM hk
  have hc:=hv _ hcm
  rw[yP,iP hk,gQ hk,zF hk,zV]
  simp only[oE,oS]
  rw[ZGQ hj,P.YAu hw hg (by omega) (ZAY hs) hc,P.YX hw g (ZAY hs)]
  have hdp:dpt g (Zc (i*4+j))=g (i*4+j):=by
   unfold dpt slotN Zc
   rw[iN (by simp only;omega)];congr 1;simp only;omega
  rw[hdp]
  simp only[oS]
  have next:=fun ch=>ih (k+1) (ZAW w (i*4+j) g v[k]) (L+1) ch (by omega) (ZDh hg) (by omega)
  have same:(0<mst g 0 (ZJ w (Zc (i*4+j)) v[k])/\(g (i*4+j)=0∨mst g 0 (ZJ w (Zc (i*4+j)) v[k])<g (i*4+j)))->ZAW w (i*4+j) g v[k]≠g:=fun hq he=>by
   have:=congrFun he (i*4+j)
   unfold ZAW at this
   rw[iP hq]at this
   unfold updF at this
   rw[iP rfl]at this
   omega
  have upd:(0<mst g 0 (ZJ w (Zc (i*4+j)) v[k])/\(g (i*4+j)=0∨mst g 0 (ZJ w (Zc (i*4+j)) v[k])<g (i*4+j)))->updF (fni g) (i*4+j) ((mst g 0 (ZJ w (Zc (i*4+j)) v[k]):Nat):Int)=fni (ZAW w (i*4+j) g v[k]):=fun hq=>by
   rw[ZLl];unfold ZAW;rw[iP hq]
  have keep:¬(0<mst g 0 (ZJ w (Zc (i*4+j)) v[k])/\(g (i*4+j)=0∨mst g 0 (ZJ w (Zc (i*4+j)) v[k])<g (i*4+j)))->ZAW w (i*4+j) g v[k]=g:=fun hq=>by
   unfold ZAW;rw[iN hq]
  generalize mst g 0 (ZJ w (Zc (i*4+j)) v[k])=d at same upd keep
  have changed:(0<d/\(g (i*4+j)=0∨d<g (i*4+j)))->∃b,yP w i j v (updF (fni g) (i*4+j) (d:Int)) (k+1) true=some (fni ((v.drop (k+1)).foldl (ZAW w (i*4+j)) (ZAW w (i*4+j) g v[k])),b)/\(b=false->ch=false/\(v.drop (k+1)).foldl (ZAW w (i*4+j)) (ZAW w (i*4+j) g v[k])=g)/\((∀c,c∈v->ZAW w (i*4+j) g c=g)->b=ch):=fun hq=>by
   rw[upd hq]
   obtain⟨b,e1,e2,e3⟩:=next true
   exact⟨b,e1,(fun hb=>by have:=(e2 hb).1;cases this),fun ha=>absurd (ha _ hcm) (same hq)⟩
  have kept:¬(0<d/\(g (i*4+j)=0∨d<g (i*4+j)))->∃b,yP w i j v (fni g) (k+1) ch=some (fni ((v.drop (k+1)).foldl (ZAW w (i*4+j)) (ZAW w (i*4+j) g v[k])),b)/\(b=false->ch=false/\(v.drop (k+1)).foldl (ZAW w (i*4+j)) (ZAW w (i*4+j) g v[k])=g)/\((∀c,c∈v->ZAW w (i*4+j) g c=g)->b=ch):=fun hq=>by
   have:=next ch
   rw[keep hq]at this ⊢
   exact this
  by_cases hd:0<d
  ·rw[iP (show 0<(d:Int) by omega)]
   by_cases h0:g (i*4+j)=0
   ·rw[iP (show((g (i*4+j):Nat):Int)=0 by omega),iP (by omega),iP hj]
    exact changed ⟨hd,.inl h0⟩
   ·rw[iN (show ¬((g (i*4+j):Nat):Int)=0 by omega)]
    by_cases h1:d<g (i*4+j)
    ·rw[iP (show(d:Int)<((g (i*4+j):Nat):Int) by omega),iP (by omega),iP hj]
     exact changed ⟨hd,.inr h1⟩
    ·rw[iN (show ¬(d:Int)<((g (i*4+j):Nat):Int) by omega)]
     exact kept fun q=>q.2.elim h0 h1
  ·rw[iN (show ¬0<(d:Int) by omega)]
   exact kept fun q=>hd q.1
theorem P.YAY (hw:ZI w)(i:Nat)(hi:i<w.length):∀(m j:Nat) (g:Nat->Nat) (L:Nat) (ch:Bool),4-j=m->j<=4->Bdd L g->L+4*m<=1000000->
  ∃b,xS w i (fni g) ch j=some (fni (foldS w m (i*4+j) g),b)/\(b=false->ch=false/\foldS w m (i*4+j) g=g)/\((∀s,s<4*w.length->∀c,c∈ZM w (Zc s)->ZAW w s g c=g)->b=ch):=by
 intro m
 induction m with
 |zero=>
  intro j g L ch hm hj hg hL
  rw[xS,iN (by omega)]
  exact⟨ch,rfl,fun h=>⟨h,rfl⟩,fun _=>rfl⟩
 |succ m ih=>
  intro j g L ch hm hj hg hL
  have hj4:j<4:=by omega
  have hs:i*4+j<4*w.length:=by omega
  have hc4:=ZCC hw hs
  rw[xS,iP (by omega),ZGQ hj4,P.YS w hw _ (ZAj (ZAY hs).1)]
  simp only[oE,oS]
  obtain⟨b1,e1,e2,e3⟩:=P.YAX hw i j hi hj4 _ (fun c h=>h) _ 0 g L ch rfl hg (by omega)
  rw[zH]at e1 e2
  rw[e1]
  simp only[oS]
  rw[iP (by omega)]
  obtain⟨b2,q1,q2,q3⟩:=ih (j+1) (upS w g (i*4+j)) (L+4) b1 (by omega) (by omega) ((ZCZ _ L g hg).mono (by omega)) (by omega)
  refine⟨b2,q1,fun hb=> ?_,fun hall=> ?_⟩
  ·obtain⟨a1,a2⟩:=q2 hb
   obtain⟨a3,a4⟩:=e2 a1
   exact⟨a3,a2.trans a4⟩
  ·have hu:upS w g (i*4+j)=g:=ZFI _ (hall _ hs)
   rw[hu]at q3
   rw[q3 hall,e3 (hall _ hs)]
theorem P.Yx (hw:ZI w):∀(m i:Nat) (g:Nat->Nat) (L:Nat) (ch:Bool),w.length-i=m->i<=w.length->Bdd L g->L+16*m<=1000000->
  ∃b,xR w (fni g) i ch=some (fni (foldS w (4*m) (i*4) g),b)/\(b=false->ch=false/\foldS w (4*m) (i*4) g=g)/\((∀s,s<4*w.length->∀c,c∈ZM w (Zc s)->ZAW w s g c=g)->b=ch):=by
 intro m
 induction m with
 |zero=>
  intro i g L ch hm hi hg hL
  rw[xR,iN (by omega)]
  exact⟨ch,rfl,fun h=>⟨h,rfl⟩,fun _=>rfl⟩
 |succ m ih=>
  intro i g L ch hm hi hg hL
  have hi':i<w.length:=by omega
  have h4:=hw.1
  rw[xR,iP hi']
  simp only[oE]
  obtain⟨b1,e1,e2,e3⟩:=P.YAY hw i hi' 4 0 g L ch rfl (by omega) hg (by omega)
  rw[Nat.add_zero]at e1 e2
  rw[e1]
  simp only[oS]
  rw[iP (by omega)]
  obtain⟨b2,q1,q2,q3⟩:=ih (i+1) (foldS w 4 (i*4) g) (L+16) b1 (by omega) (by omega) (ZCv hw 4 (i*4) L g (by omega) hg) (by omega)
  have ef:foldS w (4*(m+1)) (i*4) g=foldS w (4*m) ((i+1)*4) (foldS w 4 (i*4) g):=by
   rw[show 4*(m+1)=4+4*m by omega,ZEm,show(i+1)*4=i*4+4 by omega]
  rw[ef]
  refine⟨b2,q1,fun hb=> ?_,fun hall=> ?_⟩
  ·obtain⟨a1,a2⟩:=q2 hb
   obtain⟨a3,a4⟩:=e2 a1
   exact⟨a3,a2.trans a4⟩
  ·have hu:∀(k s:Nat),s+k<=4*w.length->foldS w k s g=g:=by
    intro k
    induction k with
    |zero=>intro s _;rfl
    |succ k ihk=>intro s hs;rw[foldS,show upS w g s=g from ZFI _ (hall s (by omega))];exact ihk (s+1) (by omega)
   rw[hu 4 (i*4) (by omega)]at q3
   rw[q3 hall,e3 hall]
theorem P.Yr (hw:ZI w):F.f128 w=some (fni (itr w (4*w.length+1))):=by
 have h4:=hw.1
 have lp:∀(m k:Nat),4*w.length+1-k=m->k<=4*w.length+1->yO w (fni (itr w k)) true=some (fni (itr w (4*w.length+1))):=by
  intro m
  induction m with
  |zero=>
   intro k hm hk
   have:k=4*w.length+1:=by omega
   subst this
   obtain⟨b,e1,e2,e3⟩:=P.Yx hw w.length 0 (itr w (4*w.length+1)) _ false (by omega) (zC _) (ZD1 hw _) (by omega)
   have hb:=e3 fun s hs c hc=>ZLU hw hs hc
   subst hb
   rw[yO,iP rfl,e1]
   simp only[oE,oS]
   rw[(e2 rfl).2,yO,iN (by decide)]
  |succ m ih=>
   intro k hm hk
   obtain⟨b,e1,e2,e3⟩:=P.Yx hw w.length 0 (itr w k) _ false (by omega) (zC _) (ZD1 hw _) (by omega)
   rw[Nat.zero_mul]at e1 e2
   rw[yO,iP rfl,e1]
   simp only[oE,oS]
   cases b with
   |true=>exact ih (k+1) (by omega) (by omega)
   |false=>
    have hf:itr w (k+1)=itr w k:=(e2 rfl).2
    have hall:∀m,itr w (k+m)=itr w k:=by
     intro m
     induction m with
     |zero=>rfl
     |succ m ihm=>
      show foldS w (4*w.length) 0 (itr w (k+m))=_
      rw[ihm];exact hf
    have:=hall (4*w.length+1-k)
    rw[show k+(4*w.length+1-k)=4*w.length+1 by omega]at this
    rw[yO,iN (by decide),this,(e2 rfl).2]
 unfold F.f128
 have e:(fun _=>0)=fni (itr w 0):=rfl
 rw[e,lp _ 0 rfl (zC _)];rfl
/-! Patterns that nothing matches. -/
theorem P.Yl {w:List Data}(hw:ZI w)(g:Nat->Nat):∀(d:Nat) (t:Ty) (p:Pattern),ZY w t->Zh w d t p->∃b,xQ ⟨w,fni g⟩ t p=some (!b)/\xY w (tbl (4*w.length) g) t p=some b
 |0,t,p,_,h=>h.elim
 |d+1,t,p,ht,⟨ho,hl,hk⟩=>by
  have hop:p.op=1∨p.op=2∨p.op=3∨p.op=4∨p.op=5∨p.op=6:=by unfold ZAu at ho;omega
  have hto:=ZAN hw ht ho
  have ih:∀i (h:i<(ZG w t p).length) (h':i<p.kids.length),∃b,xQ ⟨w,fni g⟩ (ZG w t p)[i] p.kids[i]=some (!b)/\xY w (tbl (4*w.length) g) (ZG w t p)[i] p.kids[i]=some b:=
   fun i h h'=>P.Yl hw g d _ _ (hto _ (gM h)) (hk i (zC _) h h h')
  have one:∃b:Bool,xT (fni g) t=some ((dpt g t:Nat):Int)/\decide (((dpt g t:Nat):Int)=0)= !b/\decide (0<((dpt g t:Nat):Int))=b:=by
   refine⟨decide (0<((dpt g t:Nat):Int)),P.YX hw g ht,?_,rfl⟩
   by_cases h:dpt g t=0
   ·rw[h];rfl
   ·rw[decide_eq_false (by omega),decide_eq_true (by omega)];rfl
  have sh:F.f130 w t p=some (ZG w t p):=by
   obtain⟨ts,e1,e2⟩:=P.Yh w hw t (ZAj ht.1) p
   unfold F.f130
   rw[e1,e2 ho];rfl
  have lpI:∀(m i:Nat),(ZG w t p).length-i=m->∃b:Bool,yL ⟨w,fni g⟩ p (ZG w t p) i=some (if b=true then .go ()else .ret true)/\(p.op=4->xH w (tbl (4*w.length) g) p (ZG w t p) i=some (if b=true then .go ()else .ret false)):=by
   intro m
   induction m with
   |zero=>
    intro i hm
    refine⟨true,by rw[yL,iN (by omega),iP rfl],fun _=>by rw[xH,iN (by omega),iP rfl]⟩
   |succ m ihm=>
    intro i hm
    have hi:i<(ZG w t p).length:=by omega
    have hi':i<p.kids.length:=by omega
    obtain⟨b,e1,e2⟩:=ih i hi hi'
    obtain⟨b',q1,q2⟩:=ihm (i+1) (by omega)
    cases b with
    |true=>
     refine⟨b',?_,fun h=> ?_⟩
     ·rw[yL,iP hi,gQ hi,gQ hi']
      simp only[oE,oS]
      rw[e1];exact q1
     ·rw[xH,iP hi,gQ hi,gQ hi']
      simp only[oE,oS]
      rw[e2];exact q2 h
    |false=>
     refine⟨false,?_,fun h=> ?_⟩
     ·rw[yL,iP hi,gQ hi,gQ hi']
      simp only[oE,oS]
      rw[e1];rfl
     ·rw[xH,iP hi,gQ hi,gQ hi']
      simp only[oE,oS]
      rw[e2];rfl
  rw[xQ,xY]
  by_cases h1:p.op=1
  ·obtain⟨b,o1,o2,o3⟩:=one
   rw[iP h1,iP h1,P.YY hw g ht]
   simp only[oE,oS]
   rw[o1]
   exact⟨b,by simp only[oS];rw[o2],by rw[o3]⟩
  rw[iN h1,iN h1]
  by_cases h2:p.op=2
  ·obtain⟨b,o1,o2,o3⟩:=one
   rw[iP h2,iP h2,P.YY hw g ht]
   simp only[oE,oS]
   rw[o1]
   exact⟨b,by simp only[oS];rw[o2],by rw[o3]⟩
  rw[iN h2,iN h2]
  by_cases h5:p.op=5
  ·have et:ZG w t p=[t,t]:=by unfold ZG;rw[iN (by omega),iP h5]
   have l2:p.kids.length=2:=by rw[hl,et];rfl
   obtain⟨b0,a1,a2⟩:=ih 0 (by simp[et]) (by omega)
   obtain⟨b1,a3,a4⟩:=ih 1 (by simp[et]) (by omega)
   have t0:(ZG w t p)[0]'(by simp[et])=t:=by simp[et]
   have t1:(ZG w t p)[1]'(by simp[et])=t:=by simp[et]
   rw[t0]at a1 a2
   rw[t1]at a3 a4
   rw[iP h5,iN (show ¬p.op=3 by omega),iP h5,gQ (show 0<p.kids.length by omega),gQ (show 1<p.kids.length by omega)]
   simp only[oE,oS]
   rw[a1,a2]
   simp only[oS]
   cases b0 with
   |true=>exact⟨true,rfl,rfl⟩
   |false=>
    rw[a3,a4]
    exact⟨b1,rfl,rfl⟩
  rw[iN h5]
  simp only[sh,oE,oS]
  obtain⟨b,q1,q2⟩:=lpI _ 0 rfl
  rw[q1]
  by_cases h3:p.op=3
  ·rw[iP h3]
   have et:ZG w t p=[]:=by unfold ZG;rw[iN (by omega),iN (by omega),iN (by omega)]
   rw[et,yL,iN (by simp)]at q1
   have hb:b=true:=by
    cases b with
    |true=>rfl
    |false=>cases q1
   subst hb
   exact⟨true,rfl,rfl⟩
  rw[iN h3,iN h5]
  by_cases h6:p.op=6
  ·have et:ZG w t p=[t]:=by unfold ZG;rw[iN (by omega),iN (by omega),iP h6]
   have l1:p.kids.length=1:=by rw[hl,et];rfl
   obtain⟨b0,a1,a2⟩:=ih 0 (by simp[et]) (by omega)
   have t0:(ZG w t p)[0]'(by simp[et])=t:=by simp[et]
   rw[t0]at a1 a2
   rw[iP h6,gQ (show 0<p.kids.length by omega)]
   simp only[oS]
   rw[a2]
   refine⟨b0,?_,rfl⟩
   have hq:(if b=true then(Lo.go ():Lo Bool Unit)else .ret true)=if b0=true then .go ()else .ret true:=by
    have:=q1
    rw[et,yL,iP (by simp),gQ (show 0<p.kids.length by omega)]at this
    simp only[List.getElem?_cons_zero,oE,oS]at this
    rw[a1]at this
    simp only[oS]at this
    cases b0 with
    |true=>
     rw[iN (by decide),yL,iN (by simp)]at this
     rw[iP rfl];exact(zA this).symm
    |false=>
     rw[iP (by decide)]at this
     exact(zA this).symm.trans (iN (by decide)).symm
   rw[hq]
   cases b0<;>rfl
  ·have h4:p.op=4:=by omega
   have et:ZG w t p=ZJ w t p.ctor:=by unfold ZG;rw[iP h4]
   have hc:p.ctor∈ZM w t:=by
    unfold ZAu at ho
    rcases ho with h|h|h|h|h|h
    all_goals first|exact h.2.2.2.2|(exfalso;omega)
   rw[iN h6,P.YG w hw t (ZAj ht.1) _ hc]
   simp only[oS]
   rw[←et,q2 h4]
   cases b with
   |true=>exact⟨true,rfl,rfl⟩
   |false=>exact⟨false,rfl,rfl⟩
theorem P.YP (w:List Data)(hw:ZAX w)(t:Ty)(p:Pattern)(hp:p.wt<=1048576):F.f66 w t p=some (dec (ZAP w t/\ZDD w t p)):=by
 unfold F.f66
 rw[P.Yf w t hw]
 simp only[oE,oS]
 by_cases h:ZAP w t
 ·rw[iP (dec_of h),P.YAR w h.1 t h.2 p hp]
  simp only[oS]
  by_cases h2:ZDD w t p
  ·rw[dec_of h2,dec_of ⟨h,h2⟩]
  ·rw[ZA h2,ZA fun q=>h2 q.2]
 ·rw[iN (by rw[ZA h];decide),ZA fun q=>h q.1]
theorem P.YU (w:List Data)(hw:ZAX w)(t:Ty)(p:Pattern)(hp:p.wt<=1048576):∃b,F.f133 w t p=some b/\F.f77 w t p=some b:=by
 unfold F.f133 F.f77
 rw[P.YT w hw t p hp,P.YP w hw t p hp]
 simp only[oE,oS]
 by_cases h:ZAP w t/\ZDD w t p
 ·rw[iP (dec_of h),iP (dec_of h),P.Yn h.1.1]
  unfold F.f129
  rw[P.Yr h.1.1]
  simp only[oE,oS]
  obtain⟨b,e1,e2⟩:=P.Yl h.1.1 (itr w (4*w.length+1)) 10 t p h.1.2 h.2.1
  rw[e1,e2]
  exact⟨!b,rfl,rfl⟩
 ·rw[iN (by rw[ZA h];decide),iN (by rw[ZA h];decide)]
  exact⟨_,rfl,rfl⟩
end Go.Vl
