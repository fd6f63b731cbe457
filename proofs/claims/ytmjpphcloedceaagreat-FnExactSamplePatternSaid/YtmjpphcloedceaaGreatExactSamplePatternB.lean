import Derived.Test.YtmjpphcloedceaaGreatExactSamplePatternP
set_option linter.all false
set_option maxRecDepth 100000
open Option.some renaming inj->zA
open Nat renaming le_refl->zB,zero_le->zC,le_trans->zD,lt_trans->zE
open List renaming drop_eq_getElem_cons->zF,drop_eq_nil_of_le->zG,drop_zero->zH,getElem_of_mem->zI,mem_take_iff_getElem->zJ,mem_map->zK,length_cons->zL,exists_cons_of_length_pos->zM,length_nil->zN,mem_cons_of_mem->zO,map_cons->zP,mem_cons_self->zQ,take_of_length_le->zR,getElem?_eq_none->zS,length_append->zT,sum_cons->zU,mem_cons->zV,mem_append->zW,foldl_cons->zX,nil_append->zY,getD_eq_getElem?_getD->zZ,sizeOf_lt_of_mem->yA,take_succ_cons->yB,zip_cons_cons->yC,flatMap_cons->yD,ext_getElem?->yE,mem_flatMap->yF,nodup_cons->yG
open Classical renaming byContradiction->yH
open Bool renaming false_eq_true->yI
namespace Go.Vl
open Go Go.RowKit
open F renaming f103->yJ,f102->yK,f146->yL,f129->yM,f155->yN,f78->yO,f56->yP,f142->yQ,f139->yR,f131->yS,f77->yT,f50->yU,f94->yV,f64->yW,f62->yX,f35->yY,f33->yZ,f32->xA,f31->xB,f29->xC,f26->xD,f144->xE,f137->xF,f127->xG,f125->xH,f122->xI,f118->xJ,f109->xK,f90->xL,f88->xM,f87->xN,f71->xO,f66->xP,f60->xQ,f58->xR,f55->xS,f53->xT,f52->xU,f43->xV,f157->xW,f156->xX,f152->xY,f151->xZ,f148->vA,f147->vB,f145->vC,f141->vD,f140->vE,f136->vF,f116->vG,f115->vH,f114->vI,f113->vJ,f111->vK,f110->vL,f98->vM,f93->vN,f89->vO,f84->vP,f83->vQ,f81->vR,f80->vS,f75->vT,f74->vU,f73->vV,f70->vW,f65->vX,f54->vY,f41->vZ,f36->uA
open Pattern renaming wt->uB,ind->uC
open Go.IntKind (i64)
variable {α β:Type}{f:α->Option β}
theorem oS {a:α}:(some a).bind f=f a:=rfl
theorem oE :(bind:Option α->(α->Option β)->Option β)=Option.bind:=rfl
theorem gQ {l:List α}{i:Nat}(h:i<l.length):l[i]? =some l[i]:=List.getElem?_eq_getElem h
variable {n:Nat}
theorem gM {l:List α}(h:n<l.length):l[n]∈l:=List.getElem_mem h
theorem ZLi {a:α}:(some a>>=f)=f a:=rfl
theorem ZPw {c:Prop}[Decidable c]{a b r:Option α}(h1:c->a=r)(h2:¬c->b=r):(if c then a else b)=r:=by
 by_cases h:c
 ·rw[iP h];exact h1 h
 ·rw[iN h];exact h2 h
noncomputable def ZGf {α:Type}(p:α->Prop):Nat->List α->Option Nat
 |_,[]=>none
 |k,x::r=>if dec (p x)=true then some k else ZGf p (k+1) r
theorem ZBZ {α:Type}{p:α->Prop}:∀{l:List α} {k j:Nat},ZGf p k l=some j->k<=j/\∃h:j-k<l.length,p l[j-k]/\∀i (hi:i<l.length),i<j-k->¬p l[i]
 |x::r,k,j,h=>by
  simp only[ZGf]at h
  split at h
  ·next hp=>
   obtain rfl:=zA h
   refine⟨zB _,by simp,?_,fun i _ hi=>by omega⟩
   simpa using Zq.1 hp
  ·next hp=>
   obtain⟨h1,h2,h3,h4⟩:=ZBZ h
   have e:j-k=(j- (k+1))+1:=by omega
   refine⟨by omega,by simp;omega,?_,fun i hi hlt=> ?_⟩
   ·simp only[e,List.getElem_cons_succ];exact h3
   ·cases i with
    |zero=>exact fun hq=>hp (dec_of hq)
    |succ i=>exact h4 i (by simpa using hi) (by omega)
theorem ZBa {α:Type}{p:α->Prop}:∀{l:List α} {k:Nat},ZGf p k l=none->∀x,x∈l->¬p x
 | [],_,_=>fun x hx=>by cases hx
 |x::r,k,h=>by
  simp only[ZGf]at h
  split at h
  ·cases h
  ·next hp=>
   intro y hy
   rcases zV.1 hy with rfl|hy
   ·exact fun hq=>hp (dec_of hq)
   ·exact ZBa h y hy
theorem ZMg {a:List α}{p:α->Prop}{L:Nat->Option (Lo Int Unit)}(h0:∀k,a.length<=k->L k=some (.go ()))(h1:∀k (h:k<a.length),¬p a[k]->L k=L (k+1))(h2:∀k (h:k<a.length),p a[k]->L k=some (.ret (k:Int))):∀(m k:Nat),a.length-k=m->L k=some (match ZGf p k (a.drop k)with|some j=>.ret (j:Int)|none=>.go ()):=by
 intro m
 induction m with
 |zero=>intro k hm;rw[h0 k (by omega),zG (by omega)];rfl
 |succ m ih=>
  intro k hm
  have hk:k<a.length:=by omega
  rw[zF hk]
  by_cases hp:p a[k]
  ·rw[h2 k hk hp];simp only[ZGf];rw[iP (dec_of hp)]
  ·rw[h1 k hk hp,ih (k+1) (by omega)];simp only[ZGf];rw[iN (by rw[ZD hp];simp)]
def ZNI (c:Nat):Prop:=65<=c/\c<=90
def ZEw (s:ByteArray):Prop:=s.size=1/\ZNI (byteAt s 0)/\s≠⟨#[73]⟩
def ZFM (s:ByteArray):Prop:=1<=s.size/\s.size<=5/\ZNI (byteAt s 0)/\∀i,1<=i->i<s.size->97<=byteAt s i/\byteAt s i<=122
def ZCB (n:Nat)(t:Ty):Prop:=(t.data= -1/\t.index=0)∨(0<=t.data/\t.data<n/\-1<=t.index/\t.index<=3)
def ZER (n:Nat)(c:Ctor):Prop:=ZFM c.name/\c.args.length<=3/\0<=c.index/\c.index<=3/\∀j,0<=j->(h:j<c.args.length)->ZCB n c.args[j]
theorem P.Yl (c:Nat):F.f24 c=some (dec (ZNI c)):=by
 unfold F.f24
 by_cases h:65<=(c:Int)
 ·rw[iP h];congr 1;rw[←ZAu];exact ZM ⟨fun h'=>⟨by omega,by omega⟩,fun h'=>by have:=h'.2;omega⟩
 ·rw[iN h,ZD fun h'=>h (by have:=h'.1;omega)]
theorem P.YAL (s:ByteArray):F.f25 s=some (dec (ZEw s)):=by
 unfold F.f25
 by_cases h:s.size=1
 ·rw[iP h,iP (by omega),P.Yl]
  simp only[oE,oS]
  by_cases hb:ZNI (byteAt s 0)
  ·rw[iP (dec_of hb)];congr 1;rw[←ZAu];exact ZM ⟨fun h'=>⟨h,hb,fun e=>h' (by rw[e])⟩,fun h' e=>h'.2.2 (ZAP.1 e)⟩
  ·rw[iN (by rw[ZD hb];simp),ZD fun h'=>hb h'.2.1]
 ·rw[iN h,ZD fun h'=>h h'.1]
theorem P.YAE (s:ByteArray)(hs:s.size<=1048576):xD s 1=some (if dec (∀i,1<=i->i<s.size->97<=byteAt s i/\byteAt s i<=122)=true then .go ()else .ret false):=by
 refine ZIT (L:=xD s) (fun k hk=> ?_) (fun k hk hq=> ?_) (fun k hk hq=> ?_) _ 1 rfl
 ·rw[xD,iN (by omega)]
 ·rw[xD,iP hk,iN (by omega),iN (by omega),iP (by omega)]
 ·rw[xD,iP hk]
  by_cases h:byteAt s k<97
  ·rw[iP h]
  ·rw[iN h,iP (by omega)]
theorem P.YAH (s:ByteArray)(hs:s.size<=1048576):yV s 1=some (if dec (∀i,1<=i->i<s.size->97<=byteAt s i/\byteAt s i<=122)=true then .go ()else .ret false):=by
 refine ZIT (L:=yV s) (fun k hk=> ?_) (fun k hk hq=> ?_) (fun k hk hq=> ?_) _ 1 rfl
 ·rw[yV,iN (by omega)]
 ·rw[yV,iP hk,iN (by omega),iN (by omega),iP (by omega)]
 ·rw[yV,iP hk]
  by_cases h:byteAt s k<97
  ·rw[iP h]
  ·rw[iN h,iP (by omega)]
theorem P.Yn (s:ByteArray)(hs:s.size<=1048576):F.f27 s=some (dec (ZFM s)):=by
 unfold F.f27
 by_cases h0:s.size=0
 ·rw[iP h0,ZD fun h=>by have:=h.1;omega]
 by_cases h5:5<s.size
 ·rw[iN h0,iP h5,ZD fun h=>by have:=h.2.1;omega]
 rw[iN h0,iN h5,iP (by omega),P.Yl]
 simp only[oE,oS]
 by_cases hb:ZNI (byteAt s 0)
 ·rw[iP (dec_of hb),P.YAE s hs]
  simp only[oS]
  by_cases hall:∀i,1<=i->i<s.size->97<=byteAt s i/\byteAt s i<=122
  ·rw[iP (dec_of hall),dec_of ⟨by omega,by omega,hb,hall⟩]
  ·rw[iN (by rw[ZD hall];simp),ZD fun h=>hall h.2.2.2]
 ·rw[iN (by rw[ZD hb];simp),ZD fun h=>hb h.2.2.1]
theorem P.YK (n low high:Int):vN n low high=some (dec (low<=n/\n<=high)):=by
 unfold vN
 by_cases h:low<=n
 ·rw[iP h];congr 1;rw[←ZAu];exact ZM ⟨fun h'=>⟨h,h'⟩,fun h'=>h'.2⟩
 ·rw[iN h,ZD fun h'=>h h'.1]
theorem P.Yq (s:ByteArray)(hs:s.size<=1048576):F.f95 s=some (dec (ZFM s)):=by
 unfold F.f95
 rw[P.YK]
 simp only[oE,oS]
 by_cases h0:1<=(s.size:Int)/\(s.size:Int)<=5
 ·rw[iP (dec_of h0),iP (by omega)]
  by_cases a1:byteAt s 0<65
  ·rw[iP a1,ZD fun h=>by have:=h.2.2.1.1;omega]
  by_cases a2:90<byteAt s 0
  ·rw[iN a1,iP a2,ZD fun h=>by have:=h.2.2.1.2;omega]
  rw[iN a1,iN a2,P.YAH s hs]
  simp only[oS]
  by_cases hall:∀i,1<=i->i<s.size->97<=byteAt s i/\byteAt s i<=122
  ·rw[iP (dec_of hall),dec_of ⟨by omega,by omega,⟨by omega,by omega⟩,hall⟩]
  ·rw[iN (by rw[ZD hall];simp),ZD fun h=>hall h.2.2.2]
 ·rw[iN (by rw[ZD h0];simp),ZD fun h=>h0 ⟨by have:=h.1;omega,by have:=h.2.1;omega⟩]
theorem P.YV (n:Nat)(t:Ty):F.f28 n t=some (dec (ZCB n t)):=by
 unfold F.f28
 by_cases h:t.data= -1
 ·rw[iP h];congr 1;rw[←ZAu];exact ZM ⟨fun h'=>.inl ⟨h,h'⟩,fun h'=>h'.elim (·.2) (fun h'=>by have:=h'.1;omega)⟩
 rw[iN h]
 by_cases h1:0<=t.data
 ·by_cases h2:t.data<n
  ·by_cases h3: -1<=t.index
   ·rw[iP h1,iP h2,iP h3];congr 1;rw[←ZAu];exact ZM ⟨fun h'=>.inr ⟨h1,h2,h3,h'⟩,fun h'=>h'.elim (fun h'=>absurd h'.1 h) (fun h'=>h'.2.2.2)⟩
   ·rw[iP h1,iP h2,iN h3,ZD fun h'=>h'.elim (fun h'=>h h'.1) (fun h'=>h3 h'.2.2.1)]
  ·rw[iP h1,iN h2,ZD fun h'=>h'.elim (fun h'=>h h'.1) (fun h'=>h2 h'.2.1)]
 ·rw[iN h1,ZD fun h'=>h'.elim (fun h'=>h h'.1) (fun h'=>h1 h'.1)]
theorem P.YAU (w:List Data)(t:Ty)(hw:w.length<=1048576):F.f96 w t=some (dec (ZCB w.length t)):=by
 unfold F.f96
 by_cases h:eq2 (t.data,t.index) (-1,0)
 ·rw[iP (dec_of h),dec_of (.inl h)]
 rw[iN (by rw[ZD h];simp),P.YK,ZB (by omega) (by omega)]
 simp only[oE,oS]
 by_cases h1:0<=t.data/\t.data<=(w.length:Int) -1
 ·rw[iP (dec_of h1),P.YK]
  simp only[oS]
  congr 1;exact ZM ⟨fun h'=>.inr ⟨h1.1,by omega,h'.1,h'.2⟩,fun h'=>h'.elim (fun h'=>absurd h' h) (fun h'=>h'.2.2)⟩
 ·rw[iN (by rw[ZD h1];simp),ZD fun h'=>h'.elim (fun h'=>h h') (fun h'=>h1 ⟨h'.1,by have:=h'.2.1;omega⟩)]
theorem P.Ye (n:Nat)(c:Ctor)(hs:c.name.size<=1048576):F.f30 n c=some (dec (ZER n c)):=by
 unfold F.f30
 rw[P.Yn _ hs]
 simp only[oE,oS]
 by_cases h1:ZFM c.name
 ·rw[iP (dec_of h1)]
  by_cases h2:3<c.args.length
  ·rw[iP h2,ZD fun h=>by have:=h.2.1;omega]
  by_cases h3:c.index<0
  ·rw[iN h2,iP h3,ZD fun h=>by have:=h.2.2.1;omega]
  by_cases h4:3<c.index
  ·rw[iN h2,iN h3,iP h4,ZD fun h=>by have:=h.2.2.2.1;omega]
  rw[iN h2,iN h3,iN h4]
  have key:xC n c 0=some (if dec (∀j,0<=j->j<c.args.length->∀h:j<c.args.length,ZCB n c.args[j])=true then .go ()else .ret false):=by
   refine ZIT (n:=c.args.length) (Q:=fun j=>∀h:j<c.args.length,ZCB n c.args[j]) (L:=xC n c) (fun k hk=> ?_) (fun k hk hq=> ?_) (fun k hk hq=> ?_) _ 0 rfl
   ·rw[xC,iN (by omega)]
   ·rw[xC,iP hk,gQ hk]
    simp only[oE,oS]
    rw[P.YV]
    simp only[oS]
    rw[iP (dec_of (hq hk))]
   ·rw[xC,iP hk,gQ hk]
    simp only[oE,oS]
    rw[P.YV]
    simp only[oS]
    rw[iN (by rw[ZD fun h=>hq fun _=>h];simp)]
  rw[key]
  simp only[oS]
  by_cases hall:∀j,0<=j->j<c.args.length->∀h:j<c.args.length,ZCB n c.args[j]
  ·rw[iP (dec_of hall),dec_of ⟨h1,by omega,by omega,by omega,fun j h0 hj=>hall j h0 hj hj⟩]
  ·rw[iN (by rw[ZD hall];simp),ZD fun h=>hall fun j h0 _ hj=>h.2.2.2.2 j h0 hj]
 ·rw[iN (by rw[ZD h1];simp),ZD fun h=>h1 h.1]
theorem P.Yx (t:Ty)(w:List Data)(hw:w.length<=1048576):F.f97 t w=some (!dec (ZCB w.length t)):=by
 unfold F.f97
 rw[P.YAU w t hw];rfl
theorem P.YAZ (w:List Data)(hw:w.length<=1048576)(s:List Ty):∃v,F.f99 s w=some v/\(0<=v↔¬∀j,0<=j->(h:j<s.length)->ZCB w.length s[j]):=by
 unfold F.f99
 have key:∀(m k:Nat),s.length-k=m->∃r,vM s w k=some r/\
   match r with| .ret j=>0<=j/\¬∀j,k<=j->(h:j<s.length)->ZCB w.length s[j]| .go _=>∀j,k<=j->(h:j<s.length)->ZCB w.length s[j]:=by
  intro m
  induction m with
  |zero=>
   intro k hm
   rw[vM,iN (by omega)]
   exact⟨_,rfl,fun j hj h=>by omega⟩
  |succ m ih=>
   intro k hm
   have hk:k<s.length:=by omega
   rw[vM,iP hk,gQ hk]
   simp only[oE,oS]
   rw[P.Yx _ _ hw]
   simp only[oS]
   by_cases h:ZCB w.length s[k]
   ·rw[iN (by rw[dec_of h];simp)]
    obtain⟨r,hr,hx⟩:=ih (k+1) (by omega)
    refine⟨r,hr,?_⟩
    cases r with
    |ret j=>exact⟨hx.1,fun hh=>hx.2 fun j hj hl=>hh j (by omega) hl⟩
    |go _=>
     intro j hj hl
     by_cases e:k=j
     ·subst e;exact h
     ·exact hx j (by omega) hl
   ·rw[iP (by rw[ZD h];simp)]
    exact⟨_,rfl,by omega,fun hh=>h (hh k (zB _) hk)⟩
 obtain⟨r,hr,hx⟩:=key _ 0 rfl
 rw[hr]
 cases r with
 |ret j=>exact⟨j,rfl,fun _=>hx.2,fun _=>hx.1⟩
 |go _=>exact⟨-1,rfl,fun h=>by omega,fun h=>absurd hx h⟩
theorem P.Yg (w:List Data)(c:Ctor)(hw:w.length<=1048576)(hs:c.name.size<=1048576):F.f101 w c=some (dec (ZER w.length c)):=by
 unfold F.f101
 rw[P.Yq _ hs]
 simp only[oE,oS]
 by_cases h1:ZFM c.name
 ·rw[iP (dec_of h1)]
  by_cases h2:c.args.length<=3
  ·rw[iP h2,P.YK]
   simp only[oS]
   by_cases h3:0<=c.index/\c.index<=3
   ·rw[iP (dec_of h3)]
    unfold F.f100
    obtain⟨v,hv,hx⟩:=P.YAZ w hw c.args
    rw[hv]
    simp only[oE,oS]
    by_cases hall:∀j,0<=j->(h:j<c.args.length)->ZCB w.length c.args[j]
    ·have:¬0<=v:=fun h=>(hx.1 h) hall
     rw[dec_of ⟨h1,h2,h3.1,h3.2,hall⟩];simp[this]
    ·have:0<=v:=hx.2 hall
     rw[ZD fun h=>hall h.2.2.2.2];simp[this]
   ·rw[iN (by rw[ZD h3];simp),ZD fun h=>h3 ⟨h.2.2.1,h.2.2.2.1⟩]
  ·rw[iN h2,ZD fun h=>h2 h.2.1]
 ·rw[iN (by rw[ZD h1];simp),ZD fun h=>h1 h.1]
abbrev ZAO (d:Data):List ByteArray:=d.ctors.map (·.name)
structure ctorAt (w:List Data)(i:Nat)(d:Data)(k:Nat)(c:Ctor):Prop where
 ok:ZER w.length c
 new:c.name∉(w.take i).flatMap ZAO++(d.ctors.take k).map (·.name)
structure dataAt (w:List Data)(i:Nat)(d:Data):Prop where
 name:ZEw d.name
 new:d.name∉(w.take i).map (·.name)
 some:1<=d.ctors.length
 few:d.ctors.length<=4
 ctors:∀k,0<=k->k<d.ctors.length->∀h:k<d.ctors.length,ctorAt w i d k d.ctors[k]
def ZK (w:List Data):Prop:=w.length<=4/\∀i,0<=i->i<w.length->∀h:i<w.length,dataAt w i w[i]
def ZAr (w:List Data):Prop:=w.length<=1048576/\∀d,d∈w->∀c,c∈d.ctors->c.name.size<=1048576
theorem P.YT (w:List Data)(hw:ZAr w)(met4:List ByteArray)(i:Nat)(hi:i<w.length):yK w met4 i w[i] ((w.take i).flatMap ZAO) 0=
  some (if dec (∀k,0<=k->k<w[i].ctors.length->∀h:k<w[i].ctors.length,ctorAt w i w[i] k w[i].ctors[k])=true then .go ((w.take i).flatMap ZAO++ZAO w[i])else .ret false):=by
 have key:=ZPr (n:=w[i].ctors.length) (r:=false) (p:=(w.take i).flatMap ZAO++ZAO w[i]) (Q:=fun k=>∀h:k<w[i].ctors.length,ctorAt w i w[i] k w[i].ctors[k]) (L:=fun k=>yK w met4 i w[i] ((w.take i).flatMap ZAO++(w[i].ctors.take k).map (·.name)) k)
  (fun k hk=>by
   show yK w met4 i w[i] ((w.take i).flatMap ZAO++(w[i].ctors.take k).map (·.name)) k=_
   rw[yK,iN (by omega),zR hk])
  (fun k hk hq=>by
   show yK w met4 i w[i] ((w.take i).flatMap ZAO++(w[i].ctors.take k).map (·.name)) k=yK w met4 i w[i] ((w.take i).flatMap ZAO++(w[i].ctors.take (k+1)).map (·.name)) (k+1)
   have hc:=hq hk
   rw[yK,iP hk,gQ hk]
   simp only[oE,oS]
   rw[P.Yg w _ hw.1 (hw.2 _ (gM hi) _ (gM hk))]
   simp only[oS]
   rw[iP (dec_of hc.ok),iN (by rw[ZD hc.new];simp),ZCP,iN (by rw[ZD hc.new];simp),ZCD hk,List.append_assoc])
  (fun k hk hq=>by
   show yK w met4 i w[i] ((w.take i).flatMap ZAO++(w[i].ctors.take k).map (·.name)) k=_
   rw[yK,iP hk,gQ hk]
   simp only[oE,oS]
   rw[P.Yg w _ hw.1 (hw.2 _ (gM hi) _ (gM hk))]
   simp only[oS]
   by_cases h1:ZER w.length w[i].ctors[k]
   ·rw[iP (dec_of h1),iP (dec_of ?_)]
    apply yH
    intro h2
    exact hq fun _=>⟨h1,h2⟩
   ·rw[iN (by rw[ZD h1];simp)]) _ 0 rfl
 simpa using key
theorem P.Yt (w:List Data)(hw:ZAr w):yJ w [] [] 0=some (if dec (∀i,0<=i->i<w.length->∀h:i<w.length,dataAt w i w[i])=true then .go (w.flatMap ZAO,w.map (·.name))else .ret false):=by
 have key:=ZPr (n:=w.length) (r:=false) (p:=(w.flatMap ZAO,w.map (·.name))) (Q:=fun i=>∀h:i<w.length,dataAt w i w[i]) (L:=fun i=>yJ w ((w.take i).flatMap ZAO) ((w.take i).map (·.name)) i)
  (fun i hi=>by
   show yJ w ((w.take i).flatMap ZAO) ((w.take i).map (·.name)) i=_
   rw[yJ,iN (by omega),zR hi])
  (fun i hi hq=>by
   show yJ w ((w.take i).flatMap ZAO) ((w.take i).map (·.name)) i=yJ w ((w.take (i+1)).flatMap ZAO) ((w.take (i+1)).map (·.name)) (i+1)
   have hd:=hq hi
   have hn:=hd.name
   have hbig:=hn.2.1
   unfold ZNI at hbig
   have:=hw.1
   rw[yJ,iP hi,gQ hi]
   simp only[oE,oS]
   have:=hd.some;have:=hd.few
   rw[iP hn.1,iP (by have:=hn.1;omega),iN (by omega),iN (by omega),iN (fun h=>hn.2.2 (ZAP.1 h)),iN (by rw[ZD hd.new];simp),P.YK]
   simp only[oS]
   rw[iP (dec_of (by omega)),P.YT w hw _ i hi,iP (dec_of hd.ctors)]
   simp only[oS]
   rw[iP (by omega),ZCP,iN (by rw[ZD hd.new];simp),ZCD hi,ZCa hi])
  (fun i hi hq=>by
   show yJ w ((w.take i).flatMap ZAO) ((w.take i).map (·.name)) i=_
   have:=hw.1
   rw[yJ,iP hi,gQ hi]
   simp only[oE,oS]
   by_cases h1:w[i].name.size=1
   ·rw[iP h1,iP (by omega)]
    by_cases h2:byteAt w[i].name 0<65
    ·rw[iP h2]
    by_cases h3:90<byteAt w[i].name 0
    ·rw[iN h2,iP h3]
    by_cases h4:w[i].name.toList=(⟨#[73]⟩:ByteArray).toList
    ·rw[iN h2,iN h3,iP h4]
    by_cases h5:w[i].name∈(w.take i).map (·.name)
    ·rw[iN h2,iN h3,iN h4,iP (dec_of h5)]
    rw[iN h2,iN h3,iN h4,iN (by rw[ZD h5];simp),P.YK]
    simp only[oS]
    by_cases h6:1<=(w[i].ctors.length:Int)/\(w[i].ctors.length:Int)<=4
    ·rw[iP (dec_of h6),P.YT w hw _ i hi,iN (by
      rw[ZD fun hh=>hq fun _=>⟨⟨h1,⟨by omega,by omega⟩,fun e=>h4 (by rw[e])⟩,h5,by omega,by omega,hh⟩];simp)]
     rfl
    ·rw[iN (by rw[ZD h6];simp)]
   ·rw[iN h1]) _ 0 rfl
 simpa using key
theorem P.Yj (w:List Data)(hw:ZAr w):F.f104 w=some (dec (ZK w)):=by
 unfold F.f104
 by_cases h:4<w.length
 ·rw[iP h,ZD fun hh=>by have:=hh.1;omega]
 rw[iN h,P.Yt w hw]
 simp only[oE,oS]
 by_cases hall:∀i,0<=i->i<w.length->∀h:i<w.length,dataAt w i w[i]
 ·rw[iP (dec_of hall),dec_of ⟨by omega,hall⟩]
 ·rw[iN (by rw[ZD hall];simp),ZD fun hh=>hall hh.2]
theorem P.YAK (w:List Data)(hw:ZAr w)(d k i:Nat)(hd:d<w.length)(hk:k<w[d].ctors.length)(hi:i<d)(hl:w[d].ctors.length<=4)(hli:w[i].ctors.length<=4):xB w d k i 0=
  some (if dec (∀j,0<=j->j<w[i].ctors.length->∀h:j<w[i].ctors.length,w[i].ctors[j].name≠w[d].ctors[k].name)=true then .go ()else .ret true):=by
 have hi':i<w.length:=by omega
 refine ZIT (n:=w[i].ctors.length) (r:=true) (Q:=fun j=>∀h:j<w[i].ctors.length,w[i].ctors[j].name≠w[d].ctors[k].name) (L:=xB w d k i) (fun j hj=> ?_) (fun j hj hq=> ?_) (fun j hj hq=> ?_) _ 0 rfl
 ·rw[xB,gQ hi']
  simp only[oE,oS]
  rw[iN (by omega)]
 ·rw[xB,gQ hi']
  simp only[oE,oS]
  rw[iP hj,iP (by omega),ZD3 hd]
  simp only[oS]
  rw[iP (by omega),gQ hj,ZD3 hk]
  simp only[oS]
  rw[iN (fun h=>hq hj (ZAP.1 h)),iP (by omega)]
 ·rw[xB,gQ hi']
  simp only[oE,oS]
  rw[iP hj,iP (by omega),ZD3 hd]
  simp only[oS]
  rw[iP (by omega),gQ hj,ZD3 hk]
  simp only[oS]
  rw[iP (ZAP.2 (yH fun h=>hq fun _=>h))]
theorem P.YAJ (w:List Data)(hw:ZAr w)(d k:Nat)(hd:d<w.length)(hk:k<w[d].ctors.length)(hl:w[d].ctors.length<=4):xA w d k d 0=
  some (if dec (∀j,0<=j->j<k->∀h:j<w[d].ctors.length,w[d].ctors[j].name≠w[d].ctors[k].name)=true then .go ()else .ret true):=by
 refine ZIT (n:=k) (r:=true) (Q:=fun j=>∀h:j<w[d].ctors.length,w[d].ctors[j].name≠w[d].ctors[k].name) (L:=xA w d k d) (fun j hj=> ?_) (fun j hj hq=> ?_) (fun j hj hq=> ?_) _ 0 rfl
 ·rw[xA,gQ hd]
  simp only[oE,oS]
  rcases Nat.lt_or_ge j w[d].ctors.length with h|h
  ·rw[iP h,iN (by omega),iN (by omega)]
  ·rw[iN (by omega)]
 ·have hj':j<w[d].ctors.length:=zE hj hk
  rw[xA,gQ hd]
  simp only[oE,oS]
  rw[iP hj',iN (by omega),iP (by omega),ZD3 hd]
  simp only[oS]
  rw[iP (by omega),gQ hj',ZD3 hk]
  simp only[oS]
  rw[iN (fun h=>hq hj' (ZAP.1 h)),iP (by omega)]
 ·have hj':j<w[d].ctors.length:=zE hj hk
  rw[xA,gQ hd]
  simp only[oE,oS]
  rw[iP hj',iN (by omega),iP (by omega),ZD3 hd]
  simp only[oS]
  rw[iP (by omega),gQ hj',ZD3 hk]
  simp only[oS]
  rw[iP (ZAP.2 (yH fun h=>hq fun _=>h))]
structure fresh (w:List Data)(d k i:Nat)(hd:d<w.length)(hk:k<w[d].ctors.length):Prop where
 data:i<d->∀h:i<w.length,w[i].name≠w[d].name
 ctor:i<d->∀h:i<w.length,∀j,0<=j->j<w[i].ctors.length->∀h:j<w[i].ctors.length,w[i].ctors[j].name≠w[d].ctors[k].name
 own:i=d->∀j,0<=j->j<k->∀h:j<w[d].ctors.length,w[d].ctors[j].name≠w[d].ctors[k].name
theorem P.YZ (w:List Data)(hw:ZAr w)(d k:Nat)(hd:d<w.length)(hk:k<w[d].ctors.length)(hw4:w.length<=4)(hl:∀i,i<=d->∀h:i<w.length,w[i].ctors.length<=4):F.f34 w d k=some (!dec (∀i,0<=i->i<d+1->fresh w d k i hd hk)):=by
 unfold F.f34
 have key:yZ w d k 0=some (if dec (∀i,0<=i->i<d+1->fresh w d k i hd hk)=true then .go ()else .ret true):=by
  refine ZIT (n:=d+1) (r:=true) (Q:=fun i=>fresh w d k i hd hk) (L:=yZ w d k) (fun i hi=> ?_) (fun i hi hq=> ?_) (fun i hi hq=> ?_) _ 0 rfl
  ·rw[yZ,iN (by omega)]
  ·rw[yZ,iP (by omega)]
   by_cases h:i<d
   ·have hi':i<w.length:=by omega
    rw[iP (by omega),gQ hi',ZD3 hd]
    simp only[oE,oS]
    rw[iN (fun e=>hq.data h hi' (ZAP.1 e)),P.YAK w hw d k i hd hk h (hl d (zB _) hd) (hl i (by omega) hi'),iP (dec_of (hq.ctor h hi'))]
    simp only[oS]
    rw[iP (by omega)]
   ·obtain rfl:i=d:=by omega
    rw[iN (by omega),P.YAJ w hw i k hd hk (hl i (zB _) hd),iP (dec_of (hq.own rfl))]
    simp only[oE,oS]
    rw[iP (by omega)]
  ·rw[yZ,iP (by omega)]
   by_cases h:i<d
   ·have hi':i<w.length:=by omega
    rw[iP (by omega),gQ hi',ZD3 hd]
    simp only[oE,oS]
    by_cases hn:w[i].name=w[d].name
    ·rw[iP (ZAP.2 hn)]
    ·rw[iN (fun e=>hn (ZAP.1 e)),P.YAK w hw d k i hd hk h (hl d (zB _) hd) (hl i (by omega) hi'),iN (by rw[ZD fun hh=>hq ⟨fun _ _=>hn,fun _ _=>hh,fun e=>by omega⟩];simp)]
     rfl
   ·obtain rfl:i=d:=by omega
    rw[iN (by omega),P.YAJ w hw i k hd hk (hl i (zB _) hd),iN (by rw[ZD fun hh=>hq ⟨fun e=>by omega,fun e=>by omega,fun _=>hh⟩];simp)]
    rfl
 rw[key]
 simp only[oE,oS]
 by_cases hall:∀i,0<=i->i<d+1->fresh w d k i hd hk
 ·rw[iP (dec_of hall),dec_of hall];rfl
 ·rw[iN (by rw[ZD hall];simp),ZD hall];rfl
theorem ZDZ (w:List Data)(d k:Nat)(hd:d<w.length)(hk:k<w[d].ctors.length):(∀i,0<=i->i<d+1->fresh w d k i hd hk)↔w[d].name∉(w.take d).map (·.name)/\w[d].ctors[k].name∉(w.take d).flatMap ZAO++(w[d].ctors.take k).map (·.name):=by
 constructor
 ·intro h
  refine⟨fun hm=> ?_,fun hm=> ?_⟩
  ·obtain⟨x,hx,e⟩:=zK.1 hm
   obtain⟨i,hi,rfl⟩:=zJ.1 hx
   exact(h i (by omega) (by omega)).data (by omega) (by omega) e
  ·rcases zW.1 hm with hm|hm
   ·obtain⟨x,hx,hc⟩:=yF.1 hm
    obtain⟨i,hi,rfl⟩:=zJ.1 hx
    obtain⟨c,hc,e⟩:=zK.1 hc
    obtain⟨j,hj,rfl⟩:=zI hc
    exact(h i (by omega) (by omega)).ctor (by omega) (by omega) j (by omega) hj hj e
   ·obtain⟨c,hc,e⟩:=zK.1 hm
    obtain⟨j,hj,rfl⟩:=zJ.1 hc
    exact(h d (by omega) (by omega)).own rfl j (by omega) (by omega) (by omega) e
 ·rintro⟨h1,h2⟩ i _ hi
  refine⟨fun hid hiw e=>h1 (zK.2 ⟨w[i],zJ.2 ⟨i,by omega,rfl⟩,e⟩),fun hid hiw j _ hj hj' e=>h2 (List.mem_append_left _ (yF.2 ⟨w[i],zJ.2 ⟨i,by omega,rfl⟩,zK.2 ⟨_,gM hj,e⟩⟩)),fun e j _ hj hj' e=>h2 (List.mem_append_right _ (zK.2 ⟨_,zJ.2 ⟨j,by omega,rfl⟩,e⟩))⟩
theorem P.Yr (w:List Data)(hw:ZAr w)(d:Nat)(hd:d<w.length)(hw4:w.length<=4)(hl:∀i,i<=d->∀h:i<w.length,w[i].ctors.length<=4):yY w d 0=
  some (if dec (∀k,0<=k->k<w[d].ctors.length->∀h:k<w[d].ctors.length,w[d].name∉(w.take d).map (·.name)/\ctorAt w d w[d] k w[d].ctors[k])=true then .go ()else .ret false):=by
 have hl0:=hl d (zB _) hd
 refine ZIT (n:=w[d].ctors.length) (r:=false) (Q:=fun k=>∀h:k<w[d].ctors.length,w[d].name∉(w.take d).map (·.name)/\ctorAt w d w[d] k w[d].ctors[k]) (L:=yY w d) (fun k hk=> ?_) (fun k hk hq=> ?_) (fun k hk hq=> ?_) _ 0 rfl
 ·rw[yY,gQ hd]
  simp only[oE,oS]
  rw[iN (by omega)]
 ·obtain⟨h1,h2⟩:=hq hk
  rw[yY,gQ hd]
  simp only[oE,oS]
  rw[iP hk,gQ hk]
  simp only[oS]
  rw[P.Ye _ _ (hw.2 _ (gM hd) _ (gM hk))]
  simp only[oS]
  rw[iP (dec_of h2.ok),P.YZ w hw d k hd hk hw4 hl]
  simp only[oS]
  rw[dec_of ((ZDZ w d k hd hk).2 ⟨h1,h2.new⟩),iN (by simp),iP (by omega)]
 ·rw[yY,gQ hd]
  simp only[oE,oS]
  rw[iP hk,gQ hk]
  simp only[oS]
  rw[P.Ye _ _ (hw.2 _ (gM hd) _ (gM hk))]
  simp only[oS]
  by_cases h1:ZER w.length w[d].ctors[k]
  ·rw[iP (dec_of h1),P.YZ w hw d k hd hk hw4 hl]
   simp only[oS]
   rw[ZD fun hh=>hq fun _=>⟨((ZDZ w d k hd hk).1 hh).1,⟨h1,((ZDZ w d k hd hk).1 hh).2⟩⟩,iP (by simp)]
  ·rw[iN (by rw[ZD h1];simp)]
theorem P.Yi (w:List Data)(hw:ZAr w):F.f37 w=some (dec (ZK w)):=by
 unfold F.f37
 by_cases h4:4<w.length
 ·rw[iP h4,ZD fun hh=>by have:=hh.1;omega]
 rw[iN h4]
 -- the loop runs only on over types that are right
 have key:∀(m d:Nat),w.length-d=m->(∀i,i<d->∀h:i<w.length,w[i].ctors.length<=4)->uA w d=some (if dec (∀i,d<=i->i<w.length->∀h:i<w.length,dataAt w i w[i])=true then .go ()else .ret false):=by
  intro m
  induction m with
  |zero=>
   intro d hm hl
   rw[uA,iN (by omega),iP (dec_of fun i h1 h2=>by omega)]
  |succ m ih=>
   intro d hm hl
   have hd:d<w.length:=by omega
   rw[uA,iP hd,gQ hd]
   simp only[oE,oS]
   rw[P.YAL]
   simp only[oS]
   have no:¬dataAt w d w[d]->¬∀i,d<=i->i<w.length->∀h:i<w.length,dataAt w i w[i]:=fun h hh=>h (hh d (zB _) hd hd)
   by_cases h1:ZEw w[d].name
   ·rw[iP (dec_of h1)]
    by_cases h2:w[d].ctors.length=0
    ·rw[iP h2,iN (by rw[ZD (no fun h=>by have:=h.some;omega)];simp)]
    by_cases h3:4<w[d].ctors.length
    ·rw[iN h2,iP h3,iN (by rw[ZD (no fun h=>by have:=h.few;omega)];simp)]
    have hl':∀i,i<=d->∀h:i<w.length,w[i].ctors.length<=4:=fun i hi h=>by
     by_cases e:i=d
     ·subst e;omega
     ·exact hl i (by omega) h
    rw[iN h2,iN h3,P.Yr w hw d hd (by omega) hl']
    simp only[oS]
    by_cases hq:∀k,0<=k->k<w[d].ctors.length->∀h:k<w[d].ctors.length,w[d].name∉(w.take d).map (·.name)/\ctorAt w d w[d] k w[d].ctors[k]
    ·have hda:dataAt w d w[d]:=⟨h1,(hq 0 (by omega) (by omega) (by omega)).1,by omega,by omega,fun k a b c=>(hq k a b c).2⟩
     rw[iP (dec_of hq)]
     simp only
     rw[iP (by omega),ih (d+1) (by omega) fun i hi h=>hl' i (by omega) h]
     by_cases hall:∀i,d+1<=i->i<w.length->∀h:i<w.length,dataAt w i w[i]
     ·rw[iP (dec_of hall),iP (dec_of fun i a b c=> ?_)]
      by_cases e:i=d
      ·subst e;exact hda
      ·exact hall i (by omega) b c
     ·rw[iN (by rw[ZD hall];simp),iN (by rw[ZD fun hh=>hall fun i a b c=>hh i (by omega) b c];simp)]
    ·rw[iN (by rw[ZD hq];simp)]
     simp only
     rw[iN (by rw[ZD (no fun h=>hq fun k a b c=>⟨h.new,h.ctors k a b c⟩)];simp)]
   ·rw[iN (by rw[ZD h1];simp),iN (by rw[ZD (no fun h=>h1 h.name)];simp)]
 rw[key _ 0 rfl fun i hi=>by omega]
 simp only[oE,oS]
 by_cases hall:∀i,0<=i->i<w.length->∀h:i<w.length,dataAt w i w[i]
 ·rw[iP (dec_of hall),dec_of ⟨by omega,hall⟩]
 ·rw[iN (by rw[ZD hall];simp),ZD fun hh=>hall hh.2]
def ZX (w:List Data)(t:Ty):Prop:=ZCB w.length t/\0<=t.index
theorem P.YAf (w:List Data)(t:Ty):F.f38 w t=some (dec (ZX w t)):=by
 unfold F.f38
 rw[P.YV]
 simp only[oE,oS]
 by_cases h:ZCB w.length t
 ·rw[iP (dec_of h),←ZAu];congr 1;exact ZM ⟨fun h'=>⟨h,h'⟩,fun h'=>h'.2⟩
 ·rw[iN (by rw[ZD h];simp),ZD fun h'=>h h'.1]
theorem P.YAM (w:List Data)(t:Ty)(hw:w.length<=1048576):F.f105 w t=some (dec (ZX w t)):=by
 unfold F.f105
 by_cases h:eq2 (t.data,t.index) (-1,0)
 ·rw[iP (dec_of h),dec_of ⟨.inl h,by have:=h.2;simp at this;omega⟩]
 rw[iN (by rw[ZD h];simp),P.YK,ZB (by omega) (by omega)]
 simp only[oE,oS]
 by_cases h1:0<=t.data/\t.data<=(w.length:Int) -1
 ·rw[iP (dec_of h1),P.YK]
  simp only[oS]
  congr 1;exact ZM ⟨fun h'=>⟨.inr ⟨h1.1,by omega,by omega,h'.2⟩,h'.1⟩,fun h'=>h'.1.elim (fun h'=>absurd h' h) (fun h2=>⟨h'.2,h2.2.2.2⟩)⟩
 ·rw[iN (by rw[ZD h1];simp),ZD fun h'=>h'.1.elim (fun h'=>h h') (fun h'=>h1 ⟨h'.1,by have:=h'.2.1;omega⟩)]
def ZAM (w:List Data)(t:Ty):Prop:=ZK w/\ZX w t
theorem P.Ym (w:List Data)(t:Ty)(hw:ZAr w):F.f39 w t=some (dec (ZAM w t)):=by
 unfold F.f39
 rw[P.Yi w hw]
 simp only[oE,oS]
 by_cases h:ZK w
 ·rw[iP (dec_of h),P.YAf]
  simp only[oS]
  congr 1;exact ZM ⟨fun h'=>⟨h,h'⟩,fun h'=>h'.2⟩
 ·rw[iN (by rw[ZD h];simp),ZD fun h'=>h h'.1]
theorem P.Yp (w:List Data)(t:Ty)(hw:ZAr w):F.f106 w t=some (dec (ZAM w t)):=by
 unfold F.f106
 rw[P.Yj w hw]
 simp only[oE,oS]
 by_cases h:ZK w
 ·rw[iP (dec_of h),P.YAM w t hw.1]
  simp only[oS]
  congr 1;exact ZM ⟨fun h'=>⟨h,h'⟩,fun h'=>h'.2⟩
 ·rw[iN (by rw[ZD h];simp),ZD fun h'=>h h'.1]
variable {w:List Data}
theorem ZIo (h:wtL Data.wt w<=1048576):ZAr w:=by
 refine⟨by have:=ZCZ Data.wt w;omega,fun d hd c hc=> ?_⟩
 have h1:=ZAz Data.wt hd
 have h2:=ZAz Ctor.wt hc
 have e1:d.wt=d.name.size+wtL Ctor.wt d.ctors:=rfl
 have e2:c.wt=c.name.size+wtL Ty.wt c.args:=rfl
 omega
def tOk (w:List Data)(t:Ty):Prop:=t.data= -1∨(0<=t.data/\t.data<w.length)
variable {t:Ty}
theorem Zg (h:ZCB w.length t):tOk w t:=h.elim (fun h=>.inl h.1) (fun h=>.inr ⟨h.1,h.2.1⟩)
def ZNH (i:Int)(c:Ctor):Prop:=i=0∨c.index=0∨c.index=i
noncomputable def ZGF (i:Int):Nat->List Ctor->List Int
 |_,[]=>[]
 |k,c::r=>(if dec (ZNH i c)=true then[(k:Int)]else[])++ZGF i (k+1) r
theorem ZHH (i:Int):∀(k:Nat) (l:List Ctor),(ZGF i k l).length<=l.length
 |_,[]=>by simp[ZGF]
 |k,c::r=>by
  have:=ZHH i (k+1) r
  unfold ZGF
  split<;>simp<;>omega
theorem ZHG (i:Int){x:Int}:∀{k:Nat} {l:List Ctor},x∈ZGF i k l->(k:Int)<=x/\x<k+l.length
 |_,[],h=>by simp[ZGF]at h
 |k,c::r,h=>by
  unfold ZGF at h
  rcases zW.1 h with h|h
  ·split at h
   ·simp at h;subst h;simp;omega
   ·simp at h
  ·have:=ZHG i h
   simp;omega
def ZZ (w:List Data)(t:Ty):Data:=w.getD t.data.toNat Data.z
noncomputable def ZI (w:List Data)(t:Ty):List Int:=if t.data= -1 then[]else ZGF t.index 0 (ZZ w t).ctors
def Ze (w:List Data)(t:Ty)(c:Int):Ctor:=(ZZ w t).ctors.getD c.toNat Ctor.z
def ZC6 (t:Ty)(c:Ctor)(a:Ty):Ty:=if a.index= -1 then⟨a.data,if c.index=0 then t.index else c.index⟩else a
def ZH (w:List Data)(t:Ty)(c:Int):List Ty:=(Ze w t c).args.map (ZC6 t (Ze w t c))
theorem ZCo (h:tOk w t)(hn:t.data≠-1):at? w t.data=some (ZZ w t)/\ZZ w t∈w/\∃h:t.data.toNat<w.length,ZZ w t=w[t.data.toNat]:=by
 obtain⟨h1,h2⟩:=h.resolve_left hn
 have hlt:t.data.toNat<w.length:=by omega
 unfold at? ZZ
 rw[iP h1,gQ hlt,zZ,gQ hlt]
 exact⟨rfl,gM hlt,hlt,rfl⟩
theorem ZAE (hw:ZK w)(h:tOk w t)(hn:t.data≠-1):(ZZ w t).ctors.length<=4/\∀c,c∈(ZZ w t).ctors->ZER w.length c:=by
 obtain⟨_,_,hlt,e⟩:=ZCo h hn
 have hd:=hw.2 t.data.toNat (by omega) hlt hlt
 rw[e]
 refine⟨hd.few,fun c hc=> ?_⟩
 obtain⟨k,hk,rfl⟩:=zI hc
 exact(hd.ctors k (by omega) hk hk).ok
theorem P.Ys (w:List Data)(hw:ZK w)(t:Ty)(h:tOk w t)(hn:t.data≠-1):∀(m k:Nat) (out:List Int),(ZZ w t).ctors.length-k=m->out.length<=k->k<=(ZZ w t).ctors.length->
  vZ w t out k=some (out++ZGF t.index k ((ZZ w t).ctors.drop k)):=by
 have h4:=(ZAE hw h hn).1
 intro m
 induction m with
 |zero=>
  intro k out hm ho hk
  rw[vZ,(ZCo h hn).1]
  simp only[oE,oS]
  rw[iN (by omega),zG (by omega)];simp[ZGF]
 |succ m ih=>
  intro k out hm ho hk
  have hlt:k<(ZZ w t).ctors.length:=by omega
  rw[vZ,(ZCo h hn).1]
  simp only[oE,oS]
  rw[iP hlt,gQ hlt,zF hlt]
  simp only[oS,ZGF]
  have hf:F.f40 (ZZ w t).ctors[k] t.index=some (dec (ZNH t.index (ZZ w t).ctors[k])):=by
   unfold F.f40
   by_cases h1:(ZZ w t).ctors[k].index=0
   ·rw[iP h1,dec_of (.inr (.inl h1))]
   ·by_cases h2:t.index=0
    ·rw[iN h1,iP h2,dec_of (.inl h2)]
    ·rw[iN h1,iN h2,←ZAu];congr 1;exact ZM ⟨fun h=>.inr (.inr h),fun h=>h.elim (fun h=>absurd h h2) (fun h=>h.elim (fun h=>absurd h h1) id)⟩
  rw[hf]
  simp only[oS]
  by_cases hfit:ZNH t.index (ZZ w t).ctors[k]
  ·rw[iP (dec_of hfit),iP (by omega),iP (by omega),ih (k+1) _ (by omega) (by simp;omega) (by omega),iP (dec_of hfit)];simp
  ·rw[iN (by rw[ZD hfit];simp),iP (by omega),ih (k+1) _ (by omega) (by omega) (by omega),iN (by rw[ZD hfit];simp)];simp
theorem P.YF (w:List Data)(hw:ZK w)(t:Ty)(h:tOk w t):F.f42 w t=some (ZI w t):=by
 unfold F.f42 ZI
 by_cases hn:t.data= -1
 ·rw[iP hn,iP hn]
 ·rw[iN hn,iN hn,P.Ys w hw t h hn _ 0 [] rfl (by simp) (by omega)];simp
theorem P.Yw (w:List Data)(hw:ZK w)(t:Ty)(h:tOk w t)(hn:t.data≠-1):∀(m k:Nat) (out:List Int),(ZZ w t).ctors.length-k=m->out.length<=k->k<=(ZZ w t).ctors.length->
  xK t (ZZ w t) k out=some (out++ZGF t.index k ((ZZ w t).ctors.drop k)):=by
 have h4:=(ZAE hw h hn).1
 intro m
 induction m with
 |zero=>
  intro k out hm ho hk
  rw[xK,iN (by omega),zG (by omega)];simp[ZGF]
 |succ m ih=>
  intro k out hm ho hk
  have hlt:k<(ZZ w t).ctors.length:=by omega
  rw[xK,iP hlt,gQ hlt,zF hlt]
  simp only[oE,oS,ZGF]
  have yes:ZNH t.index (ZZ w t).ctors[k]->(if out.length+1<=67108864 then xK t (ZZ w t) (k+1) (out++[(k:Int)])else none)=
    some (out++((if dec (ZNH t.index (ZZ w t).ctors[k])=true then[(k:Int)]else[])++ZGF t.index (k+1) ((ZZ w t).ctors.drop (k+1)))):=by
   intro hfit
   rw[iP (by omega),ih (k+1) _ (by omega) (by simp;omega) (by omega),iP (dec_of hfit)];simp
  by_cases h1:t.index=0
  ·rw[iP h1];exact yes (.inl h1)
  by_cases h2:(ZZ w t).ctors[k].index=0
  ·rw[iN h1,iP h2];exact yes (.inr (.inl h2))
  by_cases h3:(ZZ w t).ctors[k].index=t.index
  ·rw[iN h1,iN h2,iP h3];exact yes (.inr (.inr h3))
  ·have hfit:¬ZNH t.index (ZZ w t).ctors[k]:=fun h=>h.elim h1 (fun h=>h.elim h2 h3)
   rw[iN h1,iN h2,iN h3,ih (k+1) _ (by omega) (by omega) (by omega),iN (by rw[ZD hfit];simp)];simp
theorem P.YG (w:List Data)(hw:ZK w)(t:Ty)(h:tOk w t):vL w t=some (ZI w t):=by
 unfold vL ZI
 by_cases hn:t.data= -1
 ·rw[iP hn,iP hn]
 ·rw[iN hn,iN hn,(ZCo h hn).1]
  simp only[oE,oS]
  rw[P.Yw w hw t h hn _ 0 [] rfl (by simp) (by omega)];simp
variable {c:Int}
theorem Zo (h:c∈ZI w t):t.data≠-1/\0<=c/\c<(ZZ w t).ctors.length:=by
 unfold ZI at h
 split at h
 ·cases h
 ·next hn=>
  have:=ZHG t.index h
  exact⟨hn,by omega,by omega⟩
theorem ZCp (h:c∈ZI w t):at? (ZZ w t).ctors c=some (Ze w t c)/\Ze w t c∈(ZZ w t).ctors:=by
 obtain⟨_,h1,h2⟩:=Zo h
 have hlt:c.toNat<(ZZ w t).ctors.length:=by omega
 unfold at? Ze
 rw[iP h1,gQ hlt,zZ,gQ hlt]
 exact⟨rfl,gM hlt⟩
theorem ZDl (hw:ZK w)(ht:tOk w t)(h:c∈ZI w t):(ZH w t c).length<=3/\∀a,a∈ZH w t c->tOk w a:=by
 have hc:=(ZAE hw ht (Zo h).1).2 _ (ZCp h).2
 refine⟨by unfold ZH;rw[List.length_map];exact hc.2.1,fun a ha=> ?_⟩
 obtain⟨b,hb,rfl⟩:=zK.1 ha
 obtain⟨j,hj,rfl⟩:=zI hb
 have:=Zg (hc.2.2.2.2 j (by omega) hj)
 unfold ZC6
 split
 ·exact this
 ·exact this
theorem P.YA (w:List Data)(hw:ZK w)(t:Ty)(ht:tOk w t)(c:Int)(h:c∈ZI w t):F.f48 w t c=some (ZH w t c):=by
 have hc:=(ZAE hw ht (Zo h).1).2 _ (ZCp h).2
 unfold F.f48
 rw[(ZCo ht (Zo h).1).1]
 simp only[oE,oS]
 rw[(ZCp h).1]
 simp only[oS]
 rw[ZGz (L:=F.f47 t (Ze w t c)) (a:=(Ze w t c).args) (g:=ZC6 t (Ze w t c)) (f:=fun a=>some (ZC6 t (Ze w t c) a)) (fun out i=> ?_) (fun _ _=>rfl) _ 0 [] rfl (by have:=hc.2.1;simp;omega)]
 ·simp[ZH]
 ·rw[F.f47]
  split
  ·cases(Ze w t c).args[i]? with
   |none=>rfl
   |some a=>
    simp only[oE,oS,F.f46,ZC6]
    split
    ·split<;>simp
    ·simp
  ·rfl
theorem P.YB (w:List Data)(hw:ZK w)(t:Ty)(ht:tOk w t)(c:Int)(h:c∈ZI w t):vG w t c=some (ZH w t c):=by
 have hc:=(ZAE hw ht (Zo h).1).2 _ (ZCp h).2
 unfold vG
 rw[(ZCo ht (Zo h).1).1]
 simp only[oE,oS]
 rw[(ZCp h).1]
 simp only[oS]
 by_cases h0:(Ze w t c).index=0
 ·rw[iP h0,ZGz (L:=fun out i=>vI t (Ze w t c) i out) (a:=(Ze w t c).args) (g:=ZC6 t (Ze w t c)) (f:=fun a=>some (ZC6 t (Ze w t c) a)) (fun out i=> ?_) (fun _ _=>rfl) _ 0 [] rfl (by have:=hc.2.1;simp;omega)]
  ·simp[ZH]
  ·show vI t (Ze w t c) i out=_
   rw[vI]
   split
   ·cases(Ze w t c).args[i]? with
    |none=>rfl
    |some a=>
     simp only[oE,oS,ZC6]
     split
     ·first|rfl|rw[iP h0]
     ·rfl
   ·rfl
 ·rw[iN h0,ZGz (L:=fun out i=>vH (Ze w t c) i out) (a:=(Ze w t c).args) (g:=ZC6 t (Ze w t c)) (f:=fun a=>some (ZC6 t (Ze w t c) a)) (fun out i=> ?_) (fun _ _=>rfl) _ 0 [] rfl (by have:=hc.2.1;simp;omega)]
  ·simp[ZH]
  ·show vH (Ze w t c) i out=_
   rw[vH]
   split
   ·cases(Ze w t c).args[i]? with
    |none=>rfl
    |some a=>
     simp only[oE,oS,ZC6]
     split
     ·first|rfl|rw[iN h0]
     ·rfl
   ·rfl
theorem P.Yk (l:List Int)(n:Int):F.f44 l n=some (dec (n∈l)):=by
 unfold F.f44
 rw[ZIT (n:=l.length) (r:=true) (Q:=fun j=>∀h:j<l.length,l[j]≠n) (L:=xV l n) (fun k hk=>by rw[xV,iN (by omega)])
  (fun k hk hq=>by
   rw[xV,iP hk,gQ hk]
   simp only[oE,oS]
   rw[iN (hq hk)])
  (fun k hk hq=>by
   rw[xV,iP hk,gQ hk]
   simp only[oE,oS]
   rw[iP (yH fun h=>hq fun _=>h)]) _ 0 rfl]
 simp only[oE,oS]
 by_cases hm:n∈l
 ·obtain⟨j,hj,e⟩:=zI hm
  rw[iN (by rw[ZD fun hh=>hh j (by omega) hj hj e];simp),dec_of hm]
 ·rw[iP (dec_of fun j _ hj h e=>hm (by rw[←e];exact gM h)),ZD hm]
theorem P.YD (l:List Int)(n:Int):vJ l n=some (dec (n∈l)):=by
 unfold vJ F.f112
 have key:∀(m k:Nat),l.length-k=m->∃r,vK l n k=some r/\match r with| .ret j=>0<=j/\n∈l| .go _=>∀j,k<=j->∀h:j<l.length,l[j]≠n:=by
  intro m
  induction m with
  |zero=>intro k hm;rw[vK,iN (by omega)];exact⟨_,rfl,fun j h1 h2=>by omega⟩
  |succ m ih=>
   intro k hm
   have hk:k<l.length:=by omega
   rw[vK,iP hk,gQ hk]
   simp only[oE,oS]
   by_cases h:n=l[k]
   ·rw[iP h];exact⟨_,rfl,by omega,h▸gM hk⟩
   ·rw[iN h]
    obtain⟨r,hr,hx⟩:=ih (k+1) (by omega)
    refine⟨r,hr,?_⟩
    cases r with
    |ret j=>exact hx
    |go _=>
     intro j hj hl
     by_cases e:k=j
     ·subst e;exact fun e=>h e.symm
     ·exact hx j (by omega) hl
 obtain⟨r,hr,hx⟩:=key _ 0 rfl
 rw[hr]
 cases r with
 |ret j=>
  simp only[oE,oS]
  rw[dec_of hx.2];simp[hx.1]
 |go _=>
  simp only[oE,oS]
  rw[ZD fun hm=>by obtain⟨j,hj,e⟩:=zI hm;exact hx j (by omega) hj e];simp
def pv (w:List Data)(holes:Bool):Nat->Ty->Value->Prop
 |0,_,_=>False
 |d+1,t,v=>(holes=true/\v.ctor= -2/\v.n=0/\v.kids.length=0)∨(¬(holes=true/\v.ctor= -2)/\
   ((t.data= -1/\v.ctor= -1/\0<=v.n/\v.n<=9/\v.kids.length=0)∨
   (t.data≠-1/\v.n=0/\v.ctor∈ZI w t/\v.kids.length=(ZH w t v.ctor).length/\
    ∀i,0<=i->i<(ZH w t v.ctor).length->∀(h:i<(ZH w t v.ctor).length) (h':i<v.kids.length),pv w holes d (ZH w t v.ctor)[i] v.kids[i])))
theorem P.YO (w:List Data)(hw:ZK w):∀(d:Nat) (t:Ty) (v:Value),tOk w t->d<=10->xN w t v d=some (dec (pv w false d t v))
 |0,t,v,ht,hd=>by
  rw[xN,iP (by omega),ZD (by simp[pv])]
 |d+1,t,v,ht,hd=>by
  rw[xN,iN (by omega)]
  by_cases h1:t.data= -1
  ·rw[iP h1]
   by_cases a1:v.ctor= -1
   ·by_cases a2:0<=v.n
    ·by_cases a3:v.n<=9
     ·rw[iP a1,iP a2,iP a3,←ZAu];congr 1
      exact ZM ⟨fun h=>.inr ⟨by simp,.inl ⟨h1,a1,a2,a3,h⟩⟩,fun h=>h.elim (fun h=>by simp at h) (fun h=>h.2.elim (fun h=>h.2.2.2.2) (fun h=>absurd h1 h.1))⟩
     ·rw[iP a1,iP a2,iN a3,ZD fun h=>h.elim (fun h=>by simp at h) (fun h=>h.2.elim (fun h=>a3 h.2.2.2.1) (fun h=>h.1 h1))]
    ·rw[iP a1,iN a2,ZD fun h=>h.elim (fun h=>by simp at h) (fun h=>h.2.elim (fun h=>a2 h.2.2.1) (fun h=>h.1 h1))]
   ·rw[iN a1,ZD fun h=>h.elim (fun h=>by simp at h) (fun h=>h.2.elim (fun h=>a1 h.2.1) (fun h=>h.1 h1))]
  rw[iN h1]
  by_cases h2:v.n=0
  ·rw[iP h2,P.YF w hw t ht]
   simp only[oE,oS]
   rw[P.Yk]
   simp only[oS]
   by_cases h3:v.ctor∈ZI w t
   ·rw[iP (dec_of h3),P.YA w hw t ht _ h3]
    simp only[oS]
    by_cases h4:v.kids.length=(ZH w t v.ctor).length
    ·rw[iP h4,ZIT (n:=(ZH w t v.ctor).length) (r:=false) (Q:=fun i=>∀(h:i<(ZH w t v.ctor).length) (h':i<v.kids.length),pv w false d (ZH w t v.ctor)[i] v.kids[i]) (L:=xM w v ((d+1:Nat):Int) (ZH w t v.ctor))
      (fun k hk=>by rw[xM,iN (by omega)])
      (fun k hk hq=>by
       have hk':k<v.kids.length:=by rw[h4];exact hk
       rw[xM,iP hk,gQ hk,gQ hk']
       simp only[oE,oS]
       rw[ZB (by omega) (by omega),show((d+1:Nat):Int) -1=(d:Int)from by omega,P.YO w hw d _ _ ((ZDl hw ht h3).2 _ (gM hk)) (by omega)]
       simp only[oS]
       rw[iP (dec_of (hq hk hk'))])
      (fun k hk hq=>by
       have hk':k<v.kids.length:=by rw[h4];exact hk
       rw[xM,iP hk,gQ hk,gQ hk']
       simp only[oE,oS]
       rw[ZB (by omega) (by omega),show((d+1:Nat):Int) -1=(d:Int)from by omega,P.YO w hw d _ _ ((ZDl hw ht h3).2 _ (gM hk)) (by omega)]
       simp only[oS]
       rw[iN (by rw[ZD fun h=>hq fun _ _=>h];simp)]) _ 0 rfl]
     simp only[oS]
     by_cases hall:∀i,0<=i->i<(ZH w t v.ctor).length->∀(h:i<(ZH w t v.ctor).length) (h':i<v.kids.length),pv w false d (ZH w t v.ctor)[i] v.kids[i]
     ·rw[iP (dec_of hall),dec_of (.inr ⟨by simp,.inr ⟨h1,h2,h3,h4,hall⟩⟩)]
     ·rw[iN (by rw[ZD hall];simp),ZD fun h=>h.elim (fun h=>by simp at h) (fun h=>h.2.elim (fun h=>h1 h.1) (fun h=>hall h.2.2.2.2))]
    ·rw[iN h4,ZD fun h=>h.elim (fun h=>by simp at h) (fun h=>h.2.elim (fun h=>h1 h.1) (fun h=>h4 h.2.2.2.1))]
   ·rw[iN (by rw[ZD h3];simp),ZD fun h=>h.elim (fun h=>by simp at h) (fun h=>h.2.elim (fun h=>h1 h.1) (fun h=>h3 h.2.2.1))]
  ·rw[iN h2,ZD fun h=>h.elim (fun h=>by simp at h) (fun h=>h.2.elim (fun h=>h1 h.1) (fun h=>h2 h.2.1))]
theorem P.YAT (v:Value)(hv:v.wt<=4000000):∀(most:Nat),most<=60->∃c:Nat,vO v most=some (c:Int)/\1<=c/\c<=1+v.wt/\(1+v.wt<=most->c=1+v.wt)/\(most<1+v.wt->most<c):=by
 induction v using Value.ind with
 |_ v ih=>
  intro most hm
  have hw:=v.wt_eq
  have key:∀(m i:Nat) (n:Nat),v.kids.length-i=m->1<=n->n+((v.kids.drop i).map fun k=>1+k.wt).sum<=1+v.wt->
    ∃c:Nat,xL v most n i=some (c:Int)/\n<=c/\c<=n+((v.kids.drop i).map fun k=>1+k.wt).sum/\(n+((v.kids.drop i).map fun k=>1+k.wt).sum<=most->c=n+((v.kids.drop i).map fun k=>1+k.wt).sum)/\(most<n+((v.kids.drop i).map fun k=>1+k.wt).sum->most<c):=by
   intro m
   induction m with
   |zero=>
    intro i n hmi hn hb
    rw[xL,iN (by omega),zG (by omega)]
    exact⟨n,rfl,by omega,by simp,by simp,by simp⟩
   |succ m ih2=>
    intro i n hmi hn hb
    have hi:i<v.kids.length:=by omega
    rw[zF hi]at hb ⊢
    simp only[zP,zU]at hb ⊢
    rw[xL,iP hi]
    by_cases hle:n<=most
    ·rw[iP (by omega),gQ hi]
     simp only[oE,oS]
     have hk:v.kids[i].wt<=4000000:=by omega
     obtain⟨c,h1,h2,h3,h4,h5⟩:=ih v.kids[i] (gM hi) hk (most-n) (by omega)
     rw[ZB (by omega) (by omega),show((most:Int) - (n:Int))=((most-n:Nat):Int)from by omega,h1]
     simp only[oS]
     rw[ZB (by omega) (by omega),show((n:Int)+(c:Int))=((n+c:Nat):Int)from by omega]
     obtain⟨c',g1,g2,g3,g4,g5⟩:=ih2 (i+1) (n+c) (by omega) (by omega) (by omega)
     refine⟨c',g1,by omega,by omega,fun h=> ?_,fun h=> ?_⟩
     ·have:=h4 (by omega)
      have:=g4 (by omega)
      omega
     ·by_cases hx:1+v.kids[i].wt<=most-n
      ·have:=h4 hx
       exact g5 (by omega)
      ·have:=h5 (by omega)
       omega
    ·rw[iN (by omega)]
     exact⟨n,rfl,by omega,by omega,fun h=>by omega,fun h=>by omega⟩
  have hs:((v.kids.drop 0).map fun k=>1+k.wt).sum=v.wt:=by
   rw[zH,hw]
   have:∀l:List Value,(l.map fun k=>1+k.wt).sum=wtL Value.wt l:=by
    intro l
    induction l with
    |nil=>rfl
    |cons a r ih=>simp[ih]
   exact this _
  obtain⟨c,h1,h2,h3,h4,h5⟩:=key _ 0 1 rfl (by omega) (by omega)
  rw[hs]at h3 h4 h5
  unfold vO
  have h1':xL v most 1 0=some (c:Int):=h1
  rw[h1']
  exact⟨c,rfl,by omega,h3,h4,h5⟩
theorem ZLd (v:Value):v.wt=((v.kids.drop 0).map fun k=>1+k.wt).sum:=by
 rw[zH,v.wt_eq]
 have:∀l:List Value,(l.map fun k=>1+k.wt).sum=wtL Value.wt l:=by
  intro l
  induction l with
  |nil=>rfl
  |cons a r ih=>simp[ih]
 exact(this _).symm
def ZCb (w:List Data)(holes:Bool)(d:Nat)(t:Ty)(v:Value)(count:Nat)(b:Bool)(c:Nat):Prop:=
 (b=true↔pv w holes d t v/\count+(1+v.wt)<=60)/\(b=true->c=count+(1+v.wt))
theorem P.YAg (w:List Data)(hw:ZK w)(holes:Bool)(d:Nat)(hd:d+1<=10)(v:Value)(args:List Ty)(hl:args.length=v.kids.length)(hargs:∀a,a∈args->tOk w a)
  (L:Int->Nat->Option (Lo (Bool×Int) Int))
  (hL:∀z i,L z i=if i<v.kids.length then v.kids[i]? >>=fun x=>args[i]? >>=fun y=>yN w y x (i64.wrap (((11- (d+1):Nat):Int)+1)) holes z>>=fun r=>if r.1=true then L r.2 (i+1)else some (.ret (false,r.2))else some (.go z))
  (ih:∀(t:Ty) (x:Value) (count:Nat),tOk w t->count<=60->∃b c,yN w t x ((11-d:Nat):Int) holes (count:Int)=some (b,((c:Nat):Int))/\ZCb w holes d t x count b c):
  ∀(m i:Nat) (z:Nat),v.kids.length-i=m->z<=60->∃o,L z i=some o/\
   match o with
   | .ret (b,c)=>b=false/\∃c':Nat,c=(c':Int)/\¬((∀j,i<=j->j<args.length->∀(h:j<args.length) (h':j<v.kids.length),pv w holes d args[j] v.kids[j])/\z+((v.kids.drop i).map fun k=>1+k.wt).sum<=60)
   | .go c=>c=((z+((v.kids.drop i).map fun k=>1+k.wt).sum:Nat):Int)/\(∀j,i<=j->j<args.length->∀(h:j<args.length) (h':j<v.kids.length),pv w holes d args[j] v.kids[j])/\z+((v.kids.drop i).map fun k=>1+k.wt).sum<=60:=by
 intro m
 induction m with
 |zero=>
  intro i z hm hz
  rw[hL,iN (by omega)]
  refine⟨_,rfl,?_⟩
  rw[zG (by omega)]
  exact⟨by simp,fun j h1 h2=>by omega,by simpa using hz⟩
 |succ m ihm=>
  intro i z hm hz
  have hi:i<v.kids.length:=by omega
  have hi':i<args.length:=by omega
  rw[hL,iP hi,gQ hi,gQ hi',zF hi]
  simp only[oE,oS,zP,zU]
  rw[ZB (by omega) (by omega),show(((11- (d+1):Nat):Int)+1)=((11-d:Nat):Int)from by omega]
  obtain⟨b,c,h1,h2,h3⟩:=ih args[i] v.kids[i] z (hargs _ (gM hi')) hz
  rw[h1]
  simp only[oS]
  cases b with
  |true=>
   rw[iP rfl]
   have hc:=h3 rfl
   obtain⟨hp,hle⟩:=h2.1 rfl
   obtain⟨o,g1,g2⟩:=ihm (i+1) c (by omega) (by omega)
   refine⟨o,g1,?_⟩
   cases o with
   |ret r=>
    obtain⟨b',c'⟩:=r
    obtain⟨q1,c2,q2,q3⟩:=g2
    exact⟨q1,c2,q2,fun hh=>q3 ⟨fun j a b e f=>hh.1 j (by omega) b e f,by omega⟩⟩
   |go r=>
    obtain⟨q1,q2,q3⟩:=g2
    refine⟨by rw[q1];congr 1;omega,fun j a b e f=> ?_,by omega⟩
    by_cases hj:i=j
    ·subst hj;exact hp
    ·exact q2 j (by omega) b e f
  |false=>
   rw[iN (by simp)]
   refine⟨_,rfl,rfl,c,rfl,fun hh=> ?_⟩
   have:=h2.2 ⟨hh.1 i (zB _) hi' hi' hi,by omega⟩
   cases this
theorem P.Yz (w:List Data)(hw:ZK w)(holes:Bool):∀(d:Nat) (t:Ty) (v:Value) (count:Nat),d<=10->tOk w t->count<=60->
  ∃b c,yN w t v ((11-d:Nat):Int) holes (count:Int)=some (b,((c:Nat):Int))/\ZCb w holes d t v count b c
 |d,t,v,count,hd,ht,hc=>by
  have e1:i64.wrap ((count:Int)+1)=((count+1:Nat):Int):=by rw[ZB (by omega) (by omega)];omega
  have no:∀(h:¬(pv w holes d t v/\count+(1+v.wt)<=60)),∃b c,(some (false,((count+1:Nat):Int)):Option (Bool×Int))=some (b,((c:Nat):Int))/\ZCb w holes d t v count b c:=
   fun h=>⟨false,count+1,rfl,⟨fun h=>(by cases h),fun hh=>absurd hh h⟩,fun h=>by cases h⟩
  rw[yN,e1]
  by_cases h60:60<((count+1:Nat):Int)
  ·rw[iP h60];exact no fun h=>by omega
  rw[iN h60]
  match d,hd with
  |0,_=>
   rw[iP (by omega)]
   exact no fun h=>h.1.elim
  |d+1,hd=>
   rw[iN (by omega)]
   -- a value without kids
   have leaf:v.kids.length=0->v.wt=0:=by
    intro h
    rw[v.wt_eq,List.length_eq_zero_iff.1 h];rfl
   have yes:∀(p:Prop) [Decidable p],(p->pv w holes (d+1) t v/\v.wt=0)->(pv w holes (d+1) t v->p)->
     ∃b c,(some (decide p,((count+1:Nat):Int)):Option (Bool×Int))=some (b,((c:Nat):Int))/\ZCb w holes (d+1) t v count b c:=by
    intro p _ h1 h2
    refine⟨decide p,count+1,rfl,⟨fun h=> ?_,fun h=>by simpa using h2 h.1⟩,fun h=> ?_⟩
    ·have:=h1 (by simpa using h);exact⟨this.1,by omega⟩
    ·have:=h1 (by simpa using h);omega
   have ints:t.data= -1->¬(holes=true/\v.ctor= -2)->
     ∃b c,(if v.ctor= -1 then(vN v.n 0 9)>>=fun r=>if r=true then some (decide (v.kids.length=0),((count+1:Nat):Int))else some (false,((count+1:Nat):Int))else some (false,((count+1:Nat):Int)))=some (b,((c:Nat):Int))/\ZCb w holes (d+1) t v count b c:=by
    intro h1 hno
    by_cases a1:v.ctor= -1
    ·rw[iP a1,P.YK]
     simp only[oE,oS]
     by_cases a2:0<=v.n/\v.n<=9
     ·rw[iP (dec_of a2)]
      exact yes _ (fun h=>⟨.inr ⟨hno,.inl ⟨h1,a1,a2.1,a2.2,h⟩⟩,leaf h⟩) (fun h=>h.elim (fun h=>h.2.2.2) (fun h=>h.2.elim (fun h=>h.2.2.2.2) (fun h=>absurd h1 h.1)))
     ·rw[iN (by rw[ZD a2];simp)]
      exact no fun h=>h.1.elim (fun h=>hno ⟨h.1,h.2.1⟩) (fun h=>h.2.elim (fun h=>a2 ⟨h.2.2.1,h.2.2.2.1⟩) (fun h=>h.1 h1))
    ·rw[iN a1]
     exact no fun h=>h.1.elim (fun h=>hno ⟨h.1,h.2.1⟩) (fun h=>h.2.elim (fun h=>a1 h.2.1) (fun h=>h.1 h1))
   -- a value with a constructor
   have ctors:∀(L:List Ty->Int->Nat->Option (Lo (Bool×Int) Int)),(∀a z i,L a z i=if i<v.kids.length then v.kids[i]? >>=fun x=>a[i]? >>=fun y=>yN w y x (i64.wrap (((11- (d+1):Nat):Int)+1)) holes z>>=fun r=>if r.1=true then L a r.2 (i+1)else some (.ret (false,r.2))else some (.go z))->
     ¬(holes=true/\v.ctor= -2)->t.data≠-1->
     ∃b c,(if v.n=0 then(vL w t)>>=fun x=>(vJ x v.ctor)>>=fun y=>if y=true then(vG w t v.ctor)>>=fun a=>if a.length=v.kids.length then(L a ((count+1:Nat):Int) 0)>>=fun o=>match o with| .ret r=>some r| .go s=>some (true,s)else some (false,((count+1:Nat):Int))else some (false,((count+1:Nat):Int))else some (false,((count+1:Nat):Int)))=some (b,((c:Nat):Int))/\ZCb w holes (d+1) t v count b c:=by
    intro L hL hno h1
    by_cases h2:v.n=0
    ·rw[iP h2,P.YG w hw t ht]
     simp only[oE,oS]
     rw[P.YD]
     simp only[oS]
     by_cases h3:v.ctor∈ZI w t
     ·rw[iP (dec_of h3),P.YB w hw t ht _ h3]
      simp only[oS]
      by_cases h4:(ZH w t v.ctor).length=v.kids.length
      ·rw[iP h4]
       obtain⟨o,g1,g2⟩:=P.YAg w hw holes d hd v (ZH w t v.ctor) h4 (ZDl hw ht h3).2 (L (ZH w t v.ctor)) (hL _) (fun t x c ht hc=>P.Yz w hw holes d t x c (by omega) ht hc) _ 0 (count+1) rfl (by omega)
       rw[g1]
       simp only[oS]
       have hwt:=ZLd v
       cases o with
       |ret r=>
        obtain⟨b,c⟩:=r
        obtain⟨rfl,c',rfl,q3⟩:=g2
        refine⟨false,c',rfl,⟨fun h=>(by cases h),fun hh=>absurd ⟨?_,?_⟩ q3⟩,fun h=>by cases h⟩
        ·exact hh.1.elim (fun h=>absurd ⟨h.1,h.2.1⟩ hno) (fun h=>h.2.elim (fun h=>absurd h.1 h1) (fun h=>h.2.2.2.2))
        ·have:=hh.2;omega
       |go c=>
        obtain⟨rfl,q2,q3⟩:=g2
        exact⟨true,_,rfl,⟨fun _=>⟨.inr ⟨hno,.inr ⟨h1,h2,h3,h4.symm,q2⟩⟩,by omega⟩,fun _=>rfl⟩,fun _=>by omega⟩
      ·rw[iN h4]
       exact no fun h=>h.1.elim (fun h=>hno ⟨h.1,h.2.1⟩) (fun h=>h.2.elim (fun h=>h1 h.1) (fun h=>h4 h.2.2.2.1.symm))
     ·rw[iN (by rw[ZD h3];simp)]
      exact no fun h=>h.1.elim (fun h=>hno ⟨h.1,h.2.1⟩) (fun h=>h.2.elim (fun h=>h1 h.1) (fun h=>h3 h.2.2.1))
    ·rw[iN h2]
     exact no fun h=>h.1.elim (fun h=>hno ⟨h.1,h.2.1⟩) (fun h=>h.2.elim (fun h=>h1 h.1) (fun h=>h2 h.2.1))
   by_cases hh:holes=true
   ·rw[iP hh]
    by_cases h0:v.ctor= -2
    ·rw[iP h0]
     by_cases hn:v.n=0
     ·rw[iP hn]
      exact yes _ (fun h=>⟨.inl ⟨hh,h0,hn,h⟩,leaf h⟩) (fun h=>h.elim (fun h=>h.2.2.2) (fun h=>absurd ⟨hh,h0⟩ h.1))
     ·rw[iN hn]
      exact no fun h=>h.1.elim (fun h=>hn h.2.2.1) (fun h=>h.1 ⟨hh,h0⟩)
    rw[iN h0]
    have hno:¬(holes=true/\v.ctor= -2):=fun h=>h0 h.2
    by_cases h1:t.data= -1
    ·rw[iP h1];exact ints h1 hno
    ·rw[iN h1]
     exact ctors (fun a=>xX w v ((11- (d+1):Nat):Int) holes a) (fun a z i=>by
      show xX w v ((11- (d+1):Nat):Int) holes a z i=_
      rw[xX]) hno h1
   ·rw[iN hh]
    have hno:¬(holes=true/\v.ctor= -2):=fun h=>hh h.1
    by_cases h1:t.data= -1
    ·rw[iP h1];exact ints h1 hno
    ·rw[iN h1]
     exact ctors (fun a=>xW w v ((11- (d+1):Nat):Int) holes a) (fun a z i=>by
      show xW w v ((11- (d+1):Nat):Int) holes a z i=_
      rw[xW]) hno h1
termination_by d=>d
noncomputable def ZD2 (l:List VarType)(n:Int):Int:=match ZGf (fun x=>x.var=n) 0 l with
 |some j=>(j:Int)
 |none=> -1
theorem P.YN (l:List VarType)(n:Int):F.f61 l n=some (ZD2 l n):=by
 unfold F.f61 ZD2
 rw[ZMg (a:=l) (p:=fun x=>x.var=n) (L:=xQ l n) (fun k hk=>by rw[xQ,iN (by omega)])
  (fun k hk hp=>by rw[xQ,iP hk,gQ hk];simp only[oE,oS];rw[iN hp])
  (fun k hk hp=>by rw[xQ,iP hk,gQ hk];simp only[oE,oS];rw[iP hp]) _ 0 rfl,zH]
 cases ZGf (fun x=>x.var=n) 0 l<;>rfl
theorem ZDc (l:List VarType)(n:Int):ZD2 l n= -1∨∃(j:Nat) (h:j<l.length),ZD2 l n=(j:Int)/\l[j].var=n/\∀i (hi:i<l.length),i<j->l[i].var≠n:=by
 unfold ZD2
 cases h:ZGf (fun x:VarType=>x.var=n) 0 l with
 |none=>exact .inl rfl
 |some j=>
  obtain⟨_,h2,h3,h4⟩:=ZBZ h
  exact .inr ⟨j,h2,rfl,h3,h4⟩
theorem ZEM (l:List VarType)(j:Nat)(hj:j<l.length):ZD2 l l[j].var=(j:Int)↔∀i (hi:i<l.length),i<j->l[i].var≠l[j].var:=by
 constructor
 ·intro h
  rcases ZDc l l[j].var with q|⟨k,hk,q1,q2,q3⟩
  ·omega
  ·have:k=j:=by omega
   subst this;exact q3
 ·intro h
  unfold ZD2
  cases hf:ZGf (fun x:VarType=>x.var=l[j].var) 0 l with
  |none=>exact absurd rfl (ZBa hf l[j] (gM hj))
  |some k=>
   obtain⟨_,h2,h3,h4⟩:=ZBZ hf
   show(k:Int)=j
   have:¬k<j:=fun hlt=>h k h2 hlt h3
   have:¬j<k:=fun hlt=>h4 j hj (by omega) rfl
   omega
theorem P.YBE (v:Int):F.f108 v=some (dec (0<=v/\v<=5)):=by
 unfold F.f108;rw[P.YK];rfl
theorem ZAj (hw:ZK w)(ht:ZX w t)(h:c∈ZI w t):∀a,a∈ZH w t c->ZX w a:=by
 have hc:=(ZAE hw (Zg ht.1) (Zo h).1).2 _ (ZCp h).2
 have hn:=(Zo h).1
 intro a ha
 obtain⟨b,hb,rfl⟩:=zK.1 ha
 obtain⟨j,hj,rfl⟩:=zI hb
 have:=hc.2.2.2.2 j (by omega) hj
 have ht2:=ht.2
 rcases ht.1 with q|⟨q1,q2,q3,q4⟩
 ·exact absurd q.1 hn
 unfold ZC6
 rcases this with⟨p1,p2⟩|⟨p1,p2,p3,p4⟩
 ·rw[iN (by omega)];exact⟨.inl ⟨p1,p2⟩,by omega⟩
 ·split
  ·next e=>
   have hx:0<=(if(Ze w t c).index=0 then t.index else(Ze w t c).index)/\(if(Ze w t c).index=0 then t.index else(Ze w t c).index)<=3:=by
    split
    ·exact⟨ht2,q4⟩
    ·exact⟨hc.2.2.1,hc.2.2.2.1⟩
   exact⟨.inr ⟨p1,p2,by show -1<=(if(Ze w t c).index=0 then t.index else(Ze w t c).index);omega,hx.2⟩,hx.1⟩
  ·next e=>exact⟨.inr ⟨p1,p2,p3,p4⟩,by omega⟩
def ZA1 (w:List Data)(t:Ty)(p:Pattern):Prop:=
 (p.op=1/\p.var=0/\p.n=0/\p.m=0/\p.ctor=0)∨
 (p.op=2/\0<=p.var/\p.var<=5/\p.n=0/\p.m=0/\p.ctor=0)∨
 (p.op=3/\p.var=0/\p.ctor=0/\t.data= -1/\0<=p.n/\p.n<=p.m/\p.m<=9)∨
 (p.op=4/\p.var=0/\p.n=0/\p.m=0/\p.ctor∈ZI w t)∨
 (p.op=5/\p.var=0/\p.n=0/\p.m=0/\p.ctor=0)∨
 (p.op=6/\0<=p.var/\p.var<=5/\p.n=0/\p.m=0/\p.ctor=0)
noncomputable def ZF (w:List Data)(t:Ty)(p:Pattern):List Ty:=if p.op=4 then ZH w t p.ctor else if p.op=5 then[t,t]else if p.op=6 then[t]else[]
theorem P.YAS (w:List Data)(hw:ZK w)(t:Ty)(ht:tOk w t)(p:Pattern):F.f45 w t p=some (dec (ZA1 w t p)):=by
 unfold F.f45
 rw[P.YF w hw t ht]
 simp only[oE,oS,P.Yk]
 have yes:ZA1 w t p->some true=some (dec (ZA1 w t p)):=fun h=>by rw[dec_of h]
 have no:¬ZA1 w t p->some false=some (dec (ZA1 w t p)):=fun h=>by rw[ZD h]
 repeat' split
 all_goals first
  |(refine no fun h=> ?_;unfold ZA1 at h;omega)
  |(refine yes ?_;unfold ZA1;omega)
  |skip
 ·rw[←ZAu];congr 1;refine ZM ?_;unfold ZA1;omega
 ·congr 1;refine ZM ⟨fun h=>.inr (.inr (.inr (.inl ⟨by assumption,by assumption,by assumption,by assumption,h⟩))),fun h=> ?_⟩
  unfold ZA1 at h
  rcases h with h|h|h|h|h|h
  ·omega
  ·omega
  ·omega
  ·exact h.2.2.2.2
  ·omega
  ·omega
theorem P.YE (w:List Data)(hw:ZK w)(t:Ty)(ht:tOk w t)(p:Pattern)(h:ZA1 w t p):F.f51 w t p=some (ZF w t p):=by
 unfold F.f51 ZF
 by_cases h4:p.op=4
 ·rw[iP h4,iP h4]
  have hc:p.ctor∈ZI w t:=by
   unfold ZA1 at h
   rcases h with h|h|h|h|h|h
   ·omega
   ·omega
   ·omega
   ·exact h.2.2.2.2
   ·omega
   ·omega
  rw[P.YA w hw t ht _ hc];rfl
 ·rw[iN h4,iN h4]
  have k:F.f49 p.op=some (if p.op=5 then 2 else if p.op=6 then 1 else 0):=by
   unfold F.f49;split
   ·rfl
   ·split
    ·rfl
    ·rfl
  by_cases h5:p.op=5
  ·rw[iP h5]
   rw[iP h5]at k
   rw[yU,k]
   simp only[oE,oS]
   rw[iP (by omega),iP (by simp),iP (by omega),yU,k]
   simp only[oE,oS]
   rw[iP (by omega),iP (by simp),iP (by omega),yU,k]
   simp only[oE,oS]
   rw[iN (by omega)];simp
  ·rw[iN h5]
   rw[iN h5]at k
   by_cases h6:p.op=6
   ·rw[iP h6]
    rw[iP h6]at k
    rw[yU,k]
    simp only[oE,oS]
    rw[iP (by omega),iP (by simp),iP (by omega),yU,k]
    simp only[oE,oS]
    rw[iN (by omega)];simp
   ·rw[iN h6]
    rw[iN h6]at k
    rw[yU,k]
    simp only[oE,oS]
    rw[iN (by omega)];simp
variable {p:Pattern}
theorem Zz (hw:ZK w)(ht:ZX w t)(h:ZA1 w t p):∀a,a∈ZF w t p->ZX w a:=by
 unfold ZF
 intro a ha
 split at ha
 ·next h4=>
  have hc:p.ctor∈ZI w t:=by
   unfold ZA1 at h
   rcases h with h|h|h|h|h|h
   ·omega
   ·omega
   ·omega
   ·exact h.2.2.2.2
   ·omega
   ·omega
  exact ZAj hw ht hc a ha
 ·split at ha
  ·simp at ha;subst ha;exact ht
  ·split at ha
   ·simp at ha;subst ha;exact ht
   ·cases ha
theorem P.YAk (p:Pattern)(c n v:Bool)(k:Int):F.f107 p c n v k=some (dec ((c=true∨p.ctor=0)/\(n=true∨(p.n=0/\p.m=0))/\(v=true∨p.var=0)/\(p.kids.length:Int)=k)):=by
 unfold F.f107
 cases c<;>cases n<;>cases v<;>simp only[yI,if_true,if_false,false_or,true_or,true_and]
 all_goals(repeat' split)
 all_goals first
  |(rw[←ZAu];done)
  |(rw[←ZAu];congr 1;refine ZM ?_;omega)
  |(rw[ZD];omega)
theorem P.YW (w:List Data)(hw:ZK w)(t:Ty)(ht:tOk w t)(p:Pattern):
  ∃ts,F.f117 w t p=some (ts,dec (ZA1 w t p/\p.kids.length=(ZF w t p).length))/\(ZA1 w t p->ts=ZF w t p):=by
 unfold F.f117
 simp only[P.YAk,P.YBE,P.YG w hw t ht,P.YD,oE,oS,Zq]
 by_cases h1:p.op=1
 ·rw[iP h1]
  have e:ZF w t p=[]:=by unfold ZF;rw[iN (by omega),iN (by omega),iN (by omega)]
  rw[e]
  refine⟨[],?_,fun _=>rfl⟩
  congr 2;refine ZM ?_;unfold ZA1;simp only[yI,false_or,zN];omega
 rw[iN h1]
 by_cases h2:p.op=2
 ·rw[iP h2]
  have e:ZF w t p=[]:=by unfold ZF;rw[iN (by omega),iN (by omega),iN (by omega)]
  rw[e]
  refine⟨[],?_,fun _=>rfl⟩
  split
  ·next hh=>
   simp only[yI,false_or,true_or,true_and]at hh
   congr 2;refine ZM ?_;unfold ZA1;simp only[zN,zL];omega
  ·next hh=>
   simp only[yI,false_or,true_or,true_and]at hh
   rw[ZD];unfold ZA1;simp only[zN,zL];omega
 rw[iN h2]
 by_cases h3:p.op=3
 ·rw[iP h3]
  have e:ZF w t p=[]:=by unfold ZF;rw[iN (by omega),iN (by omega),iN (by omega)]
  rw[e]
  refine⟨[],?_,fun _=>rfl⟩
  simp only[yI,false_or,true_or,true_and,zN]
  repeat' split
  all_goals first
   |(rw[←ZAu];congr 2;refine ZM ?_;unfold ZA1;omega)
   |(rw[ZD];unfold ZA1;omega)
 rw[iN h3]
 by_cases h4:p.op=4
 ·rw[iP h4]
  have e:ZF w t p=ZH w t p.ctor:=by unfold ZF;rw[iP h4]
  rw[e]
  by_cases hc:p.ctor∈ZI w t
  ·rw[iP hc,P.YB w hw t ht _ hc]
   simp only[oS]
   refine⟨ZH w t p.ctor,?_,fun _=>rfl⟩
   congr 2;refine ZM ⟨fun h=>⟨.inr (.inr (.inr (.inl ⟨h4,?_,?_,?_,hc⟩))),?_⟩,fun h=> ?_⟩
   ·simp at h;exact h.2.1
   ·simp at h;exact h.1.1
   ·simp at h;exact h.1.2
   ·simp at h;omega
   ·obtain⟨h,hl⟩:=h
    unfold ZA1 at h
    rcases h with h|h|h|h|h|h
    ·omega
    ·omega
    ·omega
    ·exact⟨.inl trivial,.inr ⟨h.2.2.1,h.2.2.2.1⟩,.inr h.2.1,by omega⟩
    ·omega
    ·omega
  ·rw[iN hc]
   have hn:¬ZA1 w t p:=by
    intro h
    unfold ZA1 at h
    rcases h with h|h|h|h|h|h
    ·omega
    ·omega
    ·omega
    ·exact hc h.2.2.2.2
    ·omega
    ·omega
   exact⟨[],by rw[ZD fun h=>hn h.1],fun h=>absurd h hn⟩
 rw[iN h4]
 by_cases h5:p.op=5
 ·rw[iP h5]
  have e:ZF w t p=[t,t]:=by unfold ZF;rw[iN (by omega),iP (by omega)]
  rw[e]
  refine⟨[t,t],?_,fun _=>rfl⟩
  congr 2;refine ZM ?_;unfold ZA1;simp only[yI,false_or,zN,zL];omega
 rw[iN h5]
 by_cases h6:p.op=6
 ·rw[iP h6]
  have e:ZF w t p=[t]:=by unfold ZF;rw[iN (by omega),iN (by omega),iP (by omega)]
  rw[e]
  refine⟨[t],?_,fun _=>rfl⟩
  split
  ·next hh=>
   simp only[yI,false_or,true_or,true_and]at hh
   congr 2;refine ZM ?_;unfold ZA1;simp only[zN,zL];omega
  ·next hh=>
   simp only[yI,false_or,true_or,true_and]at hh
   rw[ZD];unfold ZA1;simp only[zN,zL];omega
 rw[iN h6]
 have hn:¬ZA1 w t p:=by unfold ZA1;omega
 exact⟨[],by rw[ZD fun h=>hn h.1],fun h=>absurd h hn⟩
def Zj (w:List Data):Nat->Ty->Pattern->Prop
 |0,_,_=>False
 |d+1,t,p=>ZA1 w t p/\p.kids.length=(ZF w t p).length/\∀i,0<=i->i<(ZF w t p).length->∀(h:i<(ZF w t p).length) (h':i<p.kids.length),Zj w d (ZF w t p)[i] p.kids[i]
theorem P.YM (w:List Data)(hw:ZK w):∀(d:Nat) (t:Ty) (p:Pattern),ZX w t->d<=10->xU w t p d=some (dec (Zj w d t p))
 |0,t,p,ht,hd=>by rw[xU,iP (by omega),ZD (by simp[Zj])]
 |d+1,t,p,ht,hd=>by
  rw[xU,iN (by omega),P.YAS w hw t (Zg ht.1)]
  simp only[oE,oS]
  by_cases ho:ZA1 w t p
  ·rw[iP (dec_of ho),P.YE w hw t (Zg ht.1) p ho]
   simp only[oS]
   have hts:=Zz hw ht ho
   by_cases h4:p.kids.length=(ZF w t p).length
   ·rw[iP h4,ZIT (n:=(ZF w t p).length) (r:=false) (Q:=fun i=>∀(h:i<(ZF w t p).length) (h':i<p.kids.length),Zj w d (ZF w t p)[i] p.kids[i]) (L:=xT w p ((d+1:Nat):Int) (ZF w t p))
     (fun k hk=>by rw[xT,iN (by omega)])
     (fun k hk hq=>by
      have hk':k<p.kids.length:=by omega
      rw[xT,iP hk,gQ hk,gQ hk']
      simp only[oE,oS]
      rw[ZB (by omega) (by omega),show((d+1:Nat):Int) -1=(d:Int)from by omega,P.YM w hw d _ _ (hts _ (gM hk)) (by omega)]
      simp only[oS]
      rw[iP (dec_of (hq hk hk'))])
     (fun k hk hq=>by
      have hk':k<p.kids.length:=by omega
      rw[xT,iP hk,gQ hk,gQ hk']
      simp only[oE,oS]
      rw[ZB (by omega) (by omega),show((d+1:Nat):Int) -1=(d:Int)from by omega,P.YM w hw d _ _ (hts _ (gM hk)) (by omega)]
      simp only[oS]
      rw[iN (by rw[ZD fun h=>hq fun _ _=>h];simp)]) _ 0 rfl]
    simp only[oS]
    by_cases hall:∀i,0<=i->i<(ZF w t p).length->∀(h:i<(ZF w t p).length) (h':i<p.kids.length),Zj w d (ZF w t p)[i] p.kids[i]
    ·rw[iP (dec_of hall),dec_of ⟨ho,h4,hall⟩]
    ·rw[iN (by rw[ZD hall];simp),ZD fun h=>hall h.2.2]
   ·rw[iN h4,ZD fun h=>h4 h.2.1]
  ·rw[iN (by rw[ZD ho];simp),ZD fun h=>ho h.1]
theorem P.YAi (v:Pattern)(hv:v.wt<=1048576):∀(most:Nat),most<=60->∃c:Nat,vY v most=some (c:Int)/\1<=c/\c<=1+v.wt/\(1+v.wt<=most->c=1+v.wt)/\(most<1+v.wt->most<c):=by
 induction v using uC with
 |_ v ih=>
  intro most hm
  have hw:=v.wt_eq
  have key:∀(m i:Nat) (n:Nat),v.kids.length-i=m->1<=n->n+((v.kids.drop i).map fun k=>1+k.wt).sum<=1+v.wt->
    ∃c:Nat,xS v most n i=some (c:Int)/\n<=c/\c<=n+((v.kids.drop i).map fun k=>1+k.wt).sum/\(n+((v.kids.drop i).map fun k=>1+k.wt).sum<=most->c=n+((v.kids.drop i).map fun k=>1+k.wt).sum)/\(most<n+((v.kids.drop i).map fun k=>1+k.wt).sum->most<c):=by
   intro m
   induction m with
   |zero=>
    intro i n hmi hn hb
    rw[xS,iN (by omega),zG (by omega)]
    exact⟨n,rfl,by omega,by simp,by simp,by simp⟩
   |succ m ih2=>
    intro i n hmi hn hb
    have hi:i<v.kids.length:=by omega
    rw[zF hi]at hb ⊢
    simp only[zP,zU]at hb ⊢
    rw[xS,iP hi]
    by_cases hle:n<=most
    ·rw[iP (by omega),gQ hi]
     simp only[oE,oS]
     have hk:v.kids[i].wt<=1048576:=by omega
     obtain⟨c,h1,h2,h3,h4,h5⟩:=ih v.kids[i] (gM hi) hk (most-n) (by omega)
     rw[ZB (by omega) (by omega),show((most:Int) - (n:Int))=((most-n:Nat):Int)from by omega,h1]
     simp only[oS]
     rw[ZB (by omega) (by omega),show((n:Int)+(c:Int))=((n+c:Nat):Int)from by omega]
     obtain⟨c',g1,g2,g3,g4,g5⟩:=ih2 (i+1) (n+c) (by omega) (by omega) (by omega)
     refine⟨c',g1,by omega,by omega,fun h=> ?_,fun h=> ?_⟩
     ·have:=h4 (by omega)
      have:=g4 (by omega)
      omega
     ·by_cases hx:1+v.kids[i].wt<=most-n
      ·have:=h4 hx
       exact g5 (by omega)
      ·have:=h5 (by omega)
       omega
    ·rw[iN (by omega)]
     exact⟨n,rfl,by omega,by omega,fun h=>by omega,fun h=>by omega⟩
  have hs:((v.kids.drop 0).map fun k=>1+k.wt).sum=v.wt:=by
   rw[zH,hw]
   have:∀l:List Pattern,(l.map fun k=>1+k.wt).sum=wtL uB l:=by
    intro l
    induction l with
    |nil=>rfl
    |cons a r ih=>simp[ih]
   exact this _
  obtain⟨c,h1,h2,h3,h4,h5⟩:=key _ 0 1 rfl (by omega) (by omega)
  rw[hs]at h3 h4 h5
  unfold vY
  have h1':xS v most 1 0=some (c:Int):=h1
  rw[h1']
  exact⟨c,rfl,by omega,h3,h4,h5⟩
theorem ZG6 (v:Pattern):v.wt=((v.kids.drop 0).map fun k=>1+k.wt).sum:=by
 rw[zH,v.wt_eq]
 have:∀l:List Pattern,(l.map fun k=>1+k.wt).sum=wtL uB l:=by
  intro l
  induction l with
  |nil=>rfl
  |cons a r ih=>simp[ih]
 exact(this _).symm
noncomputable def Zv (w:List Data):Nat->Ty->Pattern->List VarType
 |0,_,_=>[]
 |d+1,t,p=>(if p.op=2∨p.op=6 then[⟨p.var,t⟩]else[])++(((ZF w t p).zip p.kids).take (if p.op=5 then 1 else p.kids.length)).flatMap fun x=>Zv w d x.1 x.2
theorem ZFg {f:Ty×Pattern->List VarType}(hf:∀x,(f x).length<=1+x.2.wt):∀(ts:List Ty) (ks:List Pattern) (n:Nat),(((ts.zip ks).take n).flatMap f).length<=wtL uB ks
 | [],ks,n=>by simp
 |t::ts,[],n=>by simp
 |t::ts,k::ks,0=>by simp
 |t::ts,k::ks,n+1=>by
  have h1:=ZFg hf ts ks n
  have h2:=hf (t,k)
  simp only[yC,yB,yD,zT,ZT]at h1 h2 ⊢
  omega
theorem ZCN (w:List Data):∀(d:Nat) (t:Ty) (p:Pattern),(Zv w d t p).length<=1+p.wt
 |0,t,p=>by simp[Zv]
 |d+1,t,p=>by
  have:=ZFg (f:=fun x=>Zv w d x.1 x.2) (fun x=>ZCN w d x.1 x.2) (ZF w t p) p.kids (if p.op=5 then 1 else p.kids.length)
  rw[Zv,zT,p.wt_eq]
  have h1:(if p.op=2∨p.op=6 then[(⟨p.var,t⟩:VarType)]else[]).length<=1:=by split<;>simp
  omega
theorem ZDG {ts:List Ty}(hl:p.kids.length=ts.length)(h5:p.op≠5){f:Ty×Pattern->List VarType}{L:List VarType->Nat->Option (List VarType)}(hL:∀out i,L out i=if i<ts.length then(if i=0 then ts[i]? >>=fun x=>p.kids[i]? >>=fun y=>yP out w x y>>=fun v=>L v (i+1)else(if p.op=5 then some out else ts[i]? >>=fun x=>p.kids[i]? >>=fun y=>yP out w x y>>=fun v=>L v (i+1)))else some out)(hf:∀x:Ty×Pattern,(f x).length<=1+x.2.wt)(ih:∀i (h:i<ts.length) (h':i<p.kids.length) (out:List VarType),out.length+(1+p.kids[i].wt)<=67108864->yP out w ts[i] p.kids[i]=some (out++f (ts[i],p.kids[i]))):
  ∀(m i:Nat) (out:List VarType),ts.length-i=m->out.length+((p.kids.drop i).map fun k=>1+k.wt).sum<=67108864->L out i=some (out++((ts.zip p.kids).drop i).flatMap f):=by
 intro m
 induction m with
 |zero=>
  intro i out hm hb
  rw[hL,iN (by omega),zG (by simp;omega)];simp
 |succ m ihm=>
  intro i out hm hb
  have hi:i<ts.length:=by omega
  have hi':i<p.kids.length:=by omega
  rw[zF hi']at hb
  simp only[zP,zU]at hb
  have e:(ts[i]? >>=fun x=>p.kids[i]? >>=fun y=>yP out w x y>>=fun v=>L v (i+1))=some (out++((ts.zip p.kids).drop i).flatMap f):=by
   rw[gQ hi,gQ hi']
   simp only[oE,oS]
   rw[ih i hi hi' out (by omega)]
   simp only[oS]
   have:=hf (ts[i],p.kids[i])
   simp only at this
   rw[ihm (i+1) _ (by omega) (by rw[zT];omega),zF (l:=ts.zip p.kids) (i:=i) (by simp;omega)]
   simp
  rw[hL,iP hi,iN h5,e]
  split<;>rfl
theorem ZA7 (h:ZA1 w t p)(h5:p.op=5):ZF w t p=[t,t]:=by unfold ZF;rw[iN (by omega),iP h5]
theorem P.YJ (w:List Data)(hw:ZK w):∀(d:Nat) (t:Ty) (p:Pattern) (out:List VarType),ZX w t->Zj w d t p->out.length+(1+p.wt)<=67108864->yP out w t p=some (out++Zv w d t p)
 |0,t,p,out,ht,hs,hb=>hs.elim
 |d+1,t,p,out,ht,hs,hb=>by
  obtain⟨ho,hl,hk⟩:=hs
  have hts:=Zz hw ht ho
  have hsum:=ZG6 p
  have ih:∀i (h:i<(ZF w t p).length) (h':i<p.kids.length) (out:List VarType),out.length+(1+p.kids[i].wt)<=67108864->yP out w (ZF w t p)[i] p.kids[i]=some (out++(fun x:Ty×Pattern=>Zv w d x.1 x.2) ((ZF w t p)[i],p.kids[i])):=
   fun i h h' out hb=>P.YJ w hw d _ _ out (hts _ (gM h)) (hk i (by omega) h h h') hb
  have hf:∀x:Ty×Pattern,((fun x:Ty×Pattern=>Zv w d x.1 x.2) x).length<=1+x.2.wt:=fun x=>ZCN w d x.1 x.2
  have full:∀n,p.kids.length<=n->((ZF w t p).zip p.kids).take n=(ZF w t p).zip p.kids:=fun n hn=>zR (by simp;omega)
  rw[yP,P.YE w hw t (Zg ht.1) p ho]
  simp only[oE,oS]
  by_cases h2:p.op=2
  ·rw[iP h2,iP (by omega),ZDG (f:=fun x=>Zv w d x.1 x.2) (L:=F.f59 w p (ZF w t p)) hl (by omega) (fun out i=>by rw[F.f59]) hf ih _ 0 _ rfl (by simp at hsum ⊢;omega)]
   simp only[oS]
   rw[Zv,iP (.inl h2),iN (by omega),full _ (zB _)];simp
  ·rw[iN h2]
   by_cases h6:p.op=6
   ·rw[iP h6,iP (by omega),ZDG (f:=fun x=>Zv w d x.1 x.2) (L:=F.f57 w p (ZF w t p)) hl (by omega) (fun out i=>by rw[F.f57]) hf ih _ 0 _ rfl (by simp at hsum ⊢;omega)]
    simp only[oS]
    rw[Zv,iP (.inr h6),iN (by omega),full _ (zB _)];simp
   ·rw[iN h6]
    by_cases h5:p.op=5
    ·have et:=ZA7 ho h5
     rw[et]at hl
     have h0:0<p.kids.length:=by rw[hl];simp
     have h0':0<(ZF w t p).length:=by rw[et];simp
     have hw0:1+p.kids[0].wt<=p.wt:=by
      rw[hsum,zH]
      obtain⟨a,r,e⟩:=zM h0
      simp[e]
     have e0:=ih 0 h0' h0 out (by omega)
     rw[xR,iP h0',iP rfl,gQ h0',gQ h0]
     simp only[oE,oS]
     rw[e0]
     simp only[oS]
     rw[xR,iP (by rw[et];simp),iN (by omega),iP h5]
     simp only[oS]
     rw[Zv,iN (by omega),iP h5]
     have e1:((ZF w t p).zip p.kids).take 1=[((ZF w t p)[0],p.kids[0])]:=by
      obtain⟨a,r,e⟩:=zM h0
      obtain⟨b,r',e'⟩:=zM h0'
      simp[e,e']
     rw[e1];simp
    ·rw[ZDG (f:=fun x=>Zv w d x.1 x.2) (L:=xR w p (ZF w t p)) hl h5 (fun out i=>by rw[xR]) hf ih _ 0 _ rfl (by simp at hsum ⊢;omega)]
     simp only[oS]
     rw[Zv,iN (by omega),iN h5,full _ (zB _)];simp
def ZIc (l:List VarType):Prop:=(l.map VarType.var).Nodup
def ZHp (a b:List VarType):Prop:=a.length=b.length/\∀x,x∈a->x∈b
theorem ZHO (l:List VarType):ZIc l↔∀i j (hi:i<l.length) (hj:j<l.length),i<j->l[i].var≠l[j].var:=by
 unfold ZIc List.Nodup
 rw[List.pairwise_map,List.pairwise_iff_getElem]
theorem ZIH {l:List VarType}{n:Int}(h:ZD2 l n= -1):∀x,x∈l->x.var≠n:=by
 unfold ZD2 at h
 cases hf:ZGf (fun x:VarType=>x.var=n) 0 l with
 |none=>exact ZBa hf
 |some j=>rw[hf]at h;simp only at h;omega
theorem ZO7 {a b:VarType}(h:a.var=b.var)(h2:eq2 (a.type.data,a.type.index) (b.type.data,b.type.index)):a=b:=by
 obtain⟨v,d,i⟩:=a
 obtain⟨v',d',i'⟩:=b
 simp only[eq2]at h h2
 obtain⟨rfl,rfl⟩:=h2
 subst h;rfl
theorem P.Yc (l:List VarType):yW l 0=some (if dec (ZIc l)=true then .go ()else .ret false):=by
 rw[ZIT (n:=l.length) (r:=false) (Q:=fun j=>∀h:j<l.length,ZD2 l l[j].var=(j:Int)) (L:=yW l) (fun k hk=>by rw[yW,iN (by omega)])
  (fun k hk hq=>by
   rw[yW,iP hk,gQ hk]
   simp only[oE,oS,P.YN]
   rw[iP (hq hk)])
  (fun k hk hq=>by
   rw[yW,iP hk,gQ hk]
   simp only[oE,oS,P.YN]
   rw[iN fun h=>hq fun _=>h]) _ 0 rfl]
 congr 2
 rw[ZM]
 rw[ZHO]
 constructor
 ·intro h i j hi hj hij
  exact(ZEM l j hj).1 (h j (by omega) hj hj) i hi hij
 ·intro h j _ _ hj
  exact(ZEM l j hj).2 fun i hi hij=>h i j hi hj hij
theorem P.YAF (a b:List VarType)(hb:ZIc b):F.f63 a b=some (dec (ZHp a b)):=by
 unfold F.f63
 have step:∀k (hk:k<a.length),yX a b k=if dec (a[k]∈b)=true then yX a b (k+1)else some (.ret false):=by
  intro k hk
  rw[yX,iP hk,gQ hk]
  simp only[oE,oS,P.YN]
  rcases ZDc b a[k].var with h|⟨j,hj,h1,h2,h3⟩
  ·rw[iP (by omega),iN]
   rw[ZD fun hm=>ZIH h _ hm rfl];simp
  ·rw[iN (by omega),h1,ZJz,gQ hj]
   simp only[oS]
   by_cases he:eq2 (b[j].type.data,b[j].type.index) (a[k].type.data,a[k].type.index)
   ·rw[iP (dec_of he),iP (dec_of (by rw[←ZO7 h2 he];exact gM hj))]
   ·rw[iN (by rw[ZD he];simp),iN]
    rw[ZD fun hm=> ?_];· simp
    obtain⟨i,hi,e⟩:=zI hm
    have hij:i=j:=by
     rw[ZHO]at hb
     rcases Nat.lt_trichotomy i j with hlt|heq|hlt
     ·exact absurd (by rw[e,h2]) (hb i j hi hj hlt)
     ·exact heq
     ·exact absurd (by rw[e,h2]) (hb j i hj hi hlt)
    subst hij
    exact he (by rw[e];exact⟨rfl,rfl⟩)
 rw[ZIT (n:=a.length) (r:=false) (Q:=fun j=>∀h:j<a.length,a[j]∈b) (L:=yX a b) (fun k hk=>by rw[yX,iN (by omega)])
  (fun k hk hq=>by rw[step k hk,iP (dec_of (hq hk))])
  (fun k hk hq=>by rw[step k hk,iN (by rw[ZD fun h=>hq fun _=>h];simp)]) _ 0 rfl]
 simp only[oE,oS]
 by_cases h:∀j,0<=j->j<a.length->∀h:j<a.length,a[j]∈b
 ·rw[iP (dec_of h),←ZAu]
  have hx:∀x,x∈a->x∈b:=fun x hx=>by obtain⟨j,hj,e⟩:=zI hx;rw[←e];exact h j (by omega) hj hj
  show some (dec (a.length=b.length))=some (dec (ZHp a b))
  congr 1;exact ZM ⟨fun hl=>⟨hl,hx⟩,fun hs=>hs.1⟩
 ·rw[iN (by rw[ZD h];simp),ZD fun hs=>h fun j _ hj _=>hs.2 _ (gM hj)]
theorem ZLL {a b:VarType}:eq3 (a.var,a.type.data,a.type.index) (b.var,b.type.data,b.type.index)↔a=b:=by
 obtain⟨v,d,i⟩:=a
 obtain⟨v',d',i'⟩:=b
 simp[eq3]
theorem P.YL (l:List VarType)(n:VarType):F.f120 l n=some (dec (n∈l)):=by
 unfold F.f120 F.f119
 rw[ZMg (a:=l) (p:=fun x=>n=x) (L:=xJ l n) (fun k hk=>by rw[xJ,iN (by omega)])
  (fun k hk hp=>by
   rw[xJ,iP hk,gQ hk]
   simp only[oE,oS]
   rw[iN (by rw[ZD fun h=>hp (ZLL.1 h)];simp)])
  (fun k hk hp=>by
   rw[xJ,iP hk,gQ hk]
   simp only[oE,oS]
   rw[iP (dec_of (ZLL.2 hp))]) _ 0 rfl,zH]
 cases h:ZGf (fun x:VarType=>n=x) 0 l with
 |none=>
  simp only[oE,oS]
  rw[ZD fun hm=>ZBa h _ hm rfl];simp
 |some j=>
  obtain⟨_,h2,h3,_⟩:=ZBZ h
  simp only[oE,oS]
  rw[dec_of (by rw[h3];exact gM h2)];simp
theorem P.Yu (a b:List VarType):xH a b=some (dec (ZHp a b)):=by
 unfold xH
 by_cases hl:a.length=b.length
 ·rw[iP hl]
  unfold F.f124 F.f123
  have one:∀q,F.f121 q b=some (!dec (q∈b)):=by
   intro q;unfold F.f121;rw[P.YL];rfl
  rw[ZMg (a:=a) (p:=fun x=>¬x∈b) (L:=xI a b) (fun k hk=>by rw[xI,iN (by omega)])
   (fun k hk hp=>by
    rw[xI,iP hk,gQ hk]
    simp only[oE,oS,one]
    rw[iN (by rw[dec_of (yH hp)];simp)])
   (fun k hk hp=>by
    rw[xI,iP hk,gQ hk]
    simp only[oE,oS,one]
    rw[iP (by rw[ZD hp];simp)]) _ 0 rfl,zH]
  cases h:ZGf (fun x:VarType=>¬x∈b) 0 a with
  |none=>
   simp only[oE,oS]
   rw[dec_of ⟨hl,fun x hx=>yH (ZBa h x hx)⟩];simp
  |some j=>
   obtain⟨_,h2,h3,_⟩:=ZBZ h
   simp only[oE,oS]
   rw[ZD fun hs=>h3 (hs.2 _ (gM h2))];simp
 ·rw[iN hl,ZD fun h=>hl h.1]
def ZF4 (w:List Data):Nat->Ty->Pattern->Prop
 |0,_,_=>False
 |d+1,t,p=>(∀i,0<=i->i<(ZF w t p).length->∀(h:i<(ZF w t p).length) (h':i<p.kids.length),ZF4 w d (ZF w t p)[i] p.kids[i])/\
   if p.op=5 then(∀(h0:0<p.kids.length) (h1:1<p.kids.length),ZHp (Zv w d t p.kids[0]) (Zv w d t p.kids[1]))else ZIc (Zv w (d+1) t p)
theorem ZEl {d:Nat}(ho:ZA1 w t p)(h5:p.op=5)(h0:0<p.kids.length):Zv w (d+1) t p=Zv w d t p.kids[0]:=by
 have et:=ZA7 ho h5
 rw[Zv,iN (by omega),iP h5,et]
 obtain⟨a,r,e⟩:=zM h0
 simp[e]
theorem ZEn {w:List Data}:∀{d:Nat} {t:Ty} {p:Pattern},Zj w d t p->ZF4 w d t p->ZIc (Zv w d t p)
 |0,t,p,hs,hl=>hs.elim
 |d+1,t,p,hs,hl=>by
  obtain⟨ho,hlen,hk⟩:=hs
  obtain⟨h1,h2⟩:=hl
  by_cases h5:p.op=5
  ·have et:=ZA7 ho h5
   have h0:0<p.kids.length:=by rw[hlen,et];simp
   have h0':0<(ZF w t p).length:=by rw[et];simp
   rw[ZEl ho h5 h0]
   have e0:(ZF w t p)[0]=t:=by simp[et]
   have a:=hk 0 (zB _) h0' h0' h0
   have b:=h1 0 (zB _) h0' h0' h0
   rw[e0]at a b
   exact ZEn a b
  ·rw[iN h5]at h2;exact h2
theorem P.YR (w:List Data)(hw:ZK w):∀(d:Nat) (t:Ty) (p:Pattern),ZX w t->Zj w d t p->p.wt<=1048576->vX w t p=some (dec (ZF4 w d t p))
 |0,t,p,ht,hs,hb=>hs.elim
 |d+1,t,p,ht,hs,hb=>by
  have hs':=hs
  obtain⟨ho,hl,hk⟩:=hs
  have hts:=Zz hw ht ho
  have hsum:=p.wt_eq
  have hkw:∀k (h:k<p.kids.length),1+p.kids[k].wt<=p.wt:=fun k h=>by have:=ZAz uB (gM h);omega
  have ih:∀k (h:k<(ZF w t p).length) (h':k<p.kids.length),vX w (ZF w t p)[k] p.kids[k]=some (dec (ZF4 w d (ZF w t p)[k] p.kids[k])):=
   fun k h h'=>P.YR w hw d _ _ (hts _ (gM h)) (hk k (by omega) h h h') (by have:=hkw k h';omega)
  rw[vX,P.YE w hw t (Zg ht.1) p ho]
  simp only[oE,oS]
  rw[ZIT (n:=(ZF w t p).length) (r:=false) (Q:=fun i=>∀(h:i<(ZF w t p).length) (h':i<p.kids.length),ZF4 w d (ZF w t p)[i] p.kids[i]) (L:=xP w t p (ZF w t p))
   (fun k hk=>by rw[xP,iN (by omega)])
   (fun k hk hq=>by
    have hk':k<p.kids.length:=by omega
    rw[xP,iP hk,gQ hk,gQ hk']
    simp only[oE,oS]
    rw[ih k hk hk']
    simp only[oS]
    rw[iP (dec_of (hq hk hk'))])
   (fun k hk hq=>by
    have hk':k<p.kids.length:=by omega
    rw[xP,iP hk,gQ hk,gQ hk']
    simp only[oE,oS]
    rw[ih k hk hk']
    simp only[oS]
    rw[iN (by rw[ZD fun h=>hq fun _ _=>h];simp)]) _ 0 rfl]
  simp only[oS]
  by_cases hall:∀i,0<=i->i<(ZF w t p).length->∀(h:i<(ZF w t p).length) (h':i<p.kids.length),ZF4 w d (ZF w t p)[i] p.kids[i]
  ·rw[iP (dec_of hall)]
   simp only
   by_cases h5:p.op=5
   ·have et:=ZA7 ho h5
    have h0:0<p.kids.length:=by rw[hl,et];simp
    have h1:1<p.kids.length:=by rw[hl,et];simp
    have h0':0<(ZF w t p).length:=by rw[et];simp
    have h1':1<(ZF w t p).length:=by rw[et];simp
    have e0:(ZF w t p)[0]=t:=by simp[et]
    have e1:(ZF w t p)[1]=t:=by simp[et]
    have a0:=hk 0 (zB _) h0' h0' h0
    have a1:=hk 1 (by omega) h1' h1' h1
    have b1:=hall 1 (by omega) h1' h1' h1
    rw[e0]at a0
    rw[e1]at a1 b1
    rw[iP h5,gQ h0,gQ h1]
    simp only[oS]
    rw[P.YJ w hw d t _ [] ht a0 (by have:=hkw 0 h0;simp;omega),P.YJ w hw d t _ [] ht a1 (by have:=hkw 1 h1;simp;omega)]
    simp only[oS,zY]
    rw[P.YAF _ _ (ZEn a1 b1)]
    simp only[oS]
    congr 1
    refine ZM ⟨fun h=>⟨hall,?_⟩,fun h=> ?_⟩
    ·rw[iP h5];exact fun _ _=>h
    ·have:=h.2;rw[iP h5]at this;exact this h0 h1
   ·rw[iN h5,P.YJ w hw (d+1) t p [] ht hs' (by simp;omega)]
    simp only[oS,zY]
    rw[P.Yc]
    simp only[oS]
    by_cases hn:ZIc (Zv w (d+1) t p)
    ·rw[iP (dec_of hn),dec_of ⟨hall,by rw[iN h5];exact hn⟩]
    ·rw[iN (by rw[ZD hn];simp),ZD fun h=>hn (by have:=h.2;rwa[iN h5]at this)]
  ·rw[iN (by rw[ZD hall];simp),ZD fun h=>hall h.1]
theorem ZG5 {f:Ty×Pattern->List VarType}{x:VarType}:∀{ts:List Ty} {ks:List Pattern} {n:Nat},x∈(((ts.zip ks).take n).flatMap f)->∃i,∃(h:i<ts.length) (h':i<ks.length),x∈f (ts[i],ks[i])
 | [],ks,n,h=>by simp at h
 |t::ts,[],n,h=>by simp at h
 |t::ts,k::ks,0,h=>by simp at h
 |t::ts,k::ks,n+1,h=>by
  simp only[yC,yB,yD,zW]at h
  rcases h with h|h
  ·exact⟨0,by simp,by simp,by simpa using h⟩
  ·obtain⟨i,h1,h2,h3⟩:=ZG5 h
   exact⟨i+1,by simpa using h1,by simpa using h2,by simpa using h3⟩
theorem ZEm {w:List Data}(hw:ZK w):∀{d:Nat} {t:Ty} {p:Pattern},ZX w t->Zj w d t p->∀x,x∈Zv w d t p->0<=x.var/\x.var<=5/\ZX w x.type
 |0,t,p,ht,hs=>hs.elim
 |d+1,t,p,ht,hs=>by
  obtain⟨ho,hl,hk⟩:=hs
  intro x hx
  rw[Zv,zW]at hx
  rcases hx with hx|hx
  ·split at hx
   ·next h=>
    simp at hx;subst hx
    unfold ZA1 at ho
    refine⟨?_,?_,ht⟩<;>simp only<;>omega
   ·cases hx
  ·obtain⟨i,h,h',hm⟩:=ZG5 hx
   exact ZEm hw (Zz hw ht ho _ (gM h)) (hk i (by omega) h h h') x hm
theorem ZPv {R:Type}{vs:List VarType}{r:R}{M:(Nat->Bool)->Nat->Option (Lo R Unit)}(hv:∀x,x∈vs->0<=x.var/\x.var<=5)
  (hM:∀s i,M s i=if i<vs.length then vs[i]? >>=fun x=>if 0<=x.var/\x.var.toNat<6 then(if s x.var.toNat=true then some (.ret r)else M (updF s x.var.toNat true) (i+1))else none else some (.go ())):
  ∀(m i:Nat) (s:Nat->Bool),vs.length-i=m->M s i=some (if dec (ZIc (vs.drop i)/\∀x,x∈vs.drop i->s x.var.toNat=false)=true then .go ()else .ret r):=by
 intro m
 induction m with
 |zero=>
  intro i s hm
  rw[hM,iN (by omega),zG (by omega),iP (dec_of ⟨by simp[ZIc],by simp⟩)]
 |succ m ih=>
  intro i s hm
  have hi:i<vs.length:=by omega
  have hr:=hv _ (gM hi)
  rw[hM,iP hi,gQ hi]
  simp only[oE,oS]
  rw[iP (by omega),zF hi]
  by_cases h:s vs[i].var.toNat=true
  ·rw[iP h,iN]
   rw[ZD fun hh=> ?_];· simp
   have:=hh.2 vs[i] (zQ ..)
   rw[h]at this;cases this
  ·rw[iN h,ih (i+1) _ (by omega)]
   congr 2
   rw[ZM]
   have hs:s vs[i].var.toNat=false:=by simpa using h
   constructor
   ·rintro⟨h1,h2⟩
    refine⟨?_,fun x hx=> ?_⟩
    ·unfold ZIc at h1 ⊢
     rw[zP,yG]
     refine⟨fun hm=> ?_,h1⟩
     obtain⟨y,hy,e⟩:=zK.1 hm
     have:=h2 y hy
     rw[e]at this
     simp[updF]at this
    ·rcases zV.1 hx with rfl|hx
     ·exact hs
     ·have:=h2 x hx
      unfold updF at this
      split at this
      ·cases this
      ·exact this
   ·rintro⟨h1,h2⟩
    unfold ZIc at h1 ⊢
    rw[zP,yG]at h1
    refine⟨h1.2,fun x hx=> ?_⟩
    unfold updF
    have hx':=hv x (List.mem_of_mem_drop hx)
    rw[iN fun e=>h1.1 (zK.2 ⟨x,hx,by omega⟩)]
    exact h2 x (zO _ hx)
abbrev ZOy (w:List Data)(d:Nat)(ts:List Ty)(ks:List Pattern)(i:Nat):Prop:=∀j,i<=j->j<ts.length->∀(h:j<ts.length) (h':j<ks.length),Zj w d ts[j] ks[j]/\ZF4 w d ts[j] ks[j]
def ZCK (w:List Data)(d:Nat)(t:Ty)(p:Pattern)(count:Nat)(vs:List VarType)(b:Bool)(c:Nat):Prop:=
 (b=true↔Zj w d t p/\ZF4 w d t p/\count+(1+p.wt)<=60)/\(b=true->c=count+(1+p.wt)/\vs=Zv w d t p)
theorem P.YAh (w:List Data)(d:Nat)(hd:d+1<=10)(p:Pattern)(hp:p.wt<=1048576)(ts:List Ty)(hl:ts.length=p.kids.length)(hts:∀a,a∈ts->ZX w a)(h5:p.op≠5)
  (L:Int->List VarType->Nat->Option (Lo ((List VarType)×Bool×Int) (Int×(List VarType))))
  (hL:∀z vars i,L z vars i=if i<p.kids.length then p.kids[i]? >>=fun x=>ts[i]? >>=fun y=>yM w y x (i64.wrap (((11- (d+1):Nat):Int)+1)) z>>=fun r=>if r.2.1=true then(if p.op=5 then(if i=1 then xH vars r.1>>=fun b=>if b=true then L r.2.2 vars (i+1)else some (.ret ([],false,r.2.2))else(if vars.length+r.1.length<=67108864 then L r.2.2 (vars++r.1) (i+1)else none))else(if vars.length+r.1.length<=67108864 then L r.2.2 (vars++r.1) (i+1)else none))else some (.ret ([],false,r.2.2))else some (.go (z,vars)))
  (ih:∀(t:Ty) (x:Pattern) (count:Nat),ZX w t->x.wt<=1048576->count<=60->∃vs b c,yM w t x ((11-d:Nat):Int) (count:Int)=some (vs,b,((c:Nat):Int))/\ZCK w d t x count vs b c):
  ∀(m i z:Nat) (vars:List VarType),p.kids.length-i=m->z<=60->vars.length+((p.kids.drop i).map fun k=>1+k.wt).sum<=67108864->∃o,L z vars i=some o/\
   match o with
   | .ret (vs,b,c)=>b=false/\∃c':Nat,c=(c':Int)/\¬(ZOy w d ts p.kids i/\z+((p.kids.drop i).map fun k=>1+k.wt).sum<=60)
   | .go (c,vs)=>c=((z+((p.kids.drop i).map fun k=>1+k.wt).sum:Nat):Int)/\vs=vars++((ts.zip p.kids).drop i).flatMap (fun x=>Zv w d x.1 x.2)/\ZOy w d ts p.kids i/\z+((p.kids.drop i).map fun k=>1+k.wt).sum<=60:=by
 intro m
 induction m with
 |zero=>
  intro i z vars hm hz hb
  rw[hL,iN (by omega)]
  refine⟨_,rfl,?_⟩
  rw[zG (by omega),zG (by simp;omega)]
  exact⟨by simp,by simp,fun j h1 h2=>by omega,by simpa using hz⟩
 |succ m ihm=>
  intro i z vars hm hz hb
  have hi:i<p.kids.length:=by omega
  have hi':i<ts.length:=by omega
  have hkw:=ZAz uB (gM hi)
  have hpw:=p.wt_eq
  rw[zF hi]at hb ⊢
  simp only[zP,zU]at hb ⊢
  rw[hL,iP hi,gQ hi,gQ hi']
  simp only[oE,oS]
  rw[ZB (by omega) (by omega),show(((11- (d+1):Nat):Int)+1)=((11-d:Nat):Int)from by omega]
  obtain⟨vs,b,c,h1,h2,h3⟩:=ih ts[i] p.kids[i] z (hts _ (gM hi')) (by omega) hz
  rw[h1]
  simp only[oS]
  cases b with
  |true=>
   rw[iP rfl,iN h5]
   obtain⟨hc,hv⟩:=h3 rfl
   obtain⟨hp1,hp2,hle⟩:=h2.1 rfl
   have hvl:=ZCN w d ts[i] p.kids[i]
   rw[←hv]at hvl
   rw[iP (by omega)]
   obtain⟨o,g1,g2⟩:=ihm (i+1) c (vars++vs) (by omega) (by omega) (by rw[zT];omega)
   refine⟨o,g1,?_⟩
   cases o with
   |ret r=>
    obtain⟨vs',b',c'⟩:=r
    obtain⟨q1,c2,q2,q3⟩:=g2
    exact⟨q1,c2,q2,fun hh=>q3 ⟨fun j a b e f=>hh.1 j (by omega) b e f,by omega⟩⟩
   |go r=>
    obtain⟨c2,vs2⟩:=r
    obtain⟨q1,q2,q3,q4⟩:=g2
    refine⟨by rw[q1];congr 1;omega,?_,fun j a b e f=> ?_,by omega⟩
    ·rw[q2,zF (l:=ts.zip p.kids) (i:=i) (by simp;omega),hv];simp
    ·by_cases hj:i=j
     ·subst hj;exact⟨hp1,hp2⟩
     ·exact q3 j (by omega) b e f
  |false=>
   rw[iN (by simp)]
   refine⟨_,rfl,rfl,c,rfl,fun hh=> ?_⟩
   have hk:=hh.1 i (zB _) hi' hi' hi
   have:=h2.2 ⟨hk.1,hk.2,by omega⟩
   cases this
theorem P.Yf (w:List Data)(hw:ZK w):∀(d:Nat) (t:Ty) (p:Pattern) (count:Nat),d<=10->ZX w t->p.wt<=1048576->count<=60->
  ∃vs b c,yM w t p ((11-d:Nat):Int) (count:Int)=some (vs,b,((c:Nat):Int))/\ZCK w d t p count vs b c
 |d,t,p,count,hd,ht,hp,hc=>by
  have e1:i64.wrap ((count:Int)+1)=((count+1:Nat):Int):=by rw[ZB (by omega) (by omega)];omega
  have no:∀(h:¬(Zj w d t p/\ZF4 w d t p/\count+(1+p.wt)<=60)) (c:Nat),∃vs b c',(some (([]:List VarType),false,(c:Int)):Option (List VarType×Bool×Int))=some (vs,b,((c':Nat):Int))/\ZCK w d t p count vs b c':=
   fun h c=>⟨[],false,c,rfl,⟨fun h=>(by cases h),fun hh=>absurd hh h⟩,fun h=>by cases h⟩
  rw[yM,e1]
  by_cases h60:60<((count+1:Nat):Int)
  ·rw[iP h60];exact no (fun h=>by omega) _
  rw[iN h60]
  match d,hd with
  |0,_=>
   rw[iP (by omega)]
   exact no (fun h=>h.1.elim) _
  |d+1,hd=>
   rw[iN (by omega)]
   obtain⟨ts,h1,h2⟩:=P.YW w hw t (Zg ht.1) p
   rw[h1]
   simp only[oE,oS]
   by_cases hs:ZA1 w t p/\p.kids.length=(ZF w t p).length
   ·rw[iP (dec_of hs)]
    obtain⟨ho,hl⟩:=hs
    obtain rfl:=h2 ho
    have hts:=Zz hw ht ho
    have hwt:=ZG6 p
    have ihx:∀(t:Ty) (x:Pattern) (count:Nat),ZX w t->x.wt<=1048576->count<=60->∃vs b c,yM w t x ((11-d:Nat):Int) (count:Int)=some (vs,b,((c:Nat):Int))/\ZCK w d t x count vs b c:=
     fun t x c ht hx hc=>P.Yf w hw d t x c (by omega) ht hx hc
    have shape_of:∀{i:Nat},ZOy w d (ZF w t p) p.kids 0->Zj w (d+1) t p:=fun h=>⟨ho,hl,fun i _ hi h1 h2=>(h i (by omega) hi h1 h2).1⟩
    by_cases h5:p.op=5
    ·rw[iN (by omega),iN (by omega)]
     have et:=ZA7 ho h5
     have h0:0<p.kids.length:=by rw[hl,et];simp
     have h1':1<p.kids.length:=by rw[hl,et];simp
     have hl2:p.kids.length=2:=by rw[hl,et];rfl
     have e0:(ZF w t p)[0]? =some t:=by rw[et];rfl
     have e1:(ZF w t p)[1]? =some t:=by rw[et];rfl
     have hsum:p.wt=(1+p.kids[0].wt)+(1+p.kids[1].wt):=by
      have e:p.kids=[p.kids[0],p.kids[1]]:=List.ext_getElem (by simp[hl2]) (fun i h1 h2=>by
       have:i=0∨i=1:=by omega
       rcases this with rfl|rfl<;>rfl)
      rw[hwt,zH]
      conv=>lhs;rw[e]
      simp
     have ed:i64.wrap (((11- (d+1):Nat):Int)+1)=((11-d:Nat):Int):=by rw[ZB (by omega) (by omega)];omega
     obtain⟨v0,b0,c0,a1,a2,a3⟩:=ihx t p.kids[0] (count+1) ht (by omega) (by omega)
     have kid0:Zj w (d+1) t p->ZF4 w (d+1) t p->(Zj w d t p.kids[0]/\ZF4 w d t p.kids[0])/\(Zj w d t p.kids[1]/\ZF4 w d t p.kids[1])/\ZHp (Zv w d t p.kids[0]) (Zv w d t p.kids[1]):=by
      rintro⟨_,_,hk⟩ ⟨q1,q2⟩
      rw[iP h5]at q2
      have x0':0<(ZF w t p).length:=by rw[et];simp
      have x1':1<(ZF w t p).length:=by rw[et];simp
      have y0:(ZF w t p)[0]=t:=by simp[et]
      have y1:(ZF w t p)[1]=t:=by simp[et]
      have k0:=hk 0 (zB _) x0' x0' h0
      have k1:=hk 1 (by omega) x1' x1' h1'
      have l0:=q1 0 (zB _) x0' x0' h0
      have l1:=q1 1 (by omega) x1' x1' h1'
      rw[y0]at k0 l0
      rw[y1]at k1 l1
      exact⟨⟨k0,l0⟩,⟨k1,l1⟩,q2 h0 h1'⟩
     rw[yS,iP h0,gQ h0,e0]
     simp only[oE,oS]
     rw[ed,a1]
     simp only[oS]
     cases b0 with
     |false=>
      rw[iN (by simp)]
      simp only[oS]
      exact no (fun h=>by
       have:=a2.2 ⟨(kid0 h.1 h.2.1).1.1,(kid0 h.1 h.2.1).1.2,by omega⟩
       cases this) _
     |true=>
      obtain⟨hc0,rfl⟩:=a3 rfl
      obtain⟨s0,l0,z0⟩:=a2.1 rfl
      have hv0:=ZCN w d t p.kids[0]
      rw[iP rfl,iP h5,iN (by omega),iP (by simp;omega),yS,iP h1',gQ h1',e1]
      simp only[oE,oS]
      obtain⟨v1,b1,c1,g1,g2,g3⟩:=ihx t p.kids[1] c0 ht (by omega) (by omega)
      rw[ed,g1]
      simp only[oS]
      cases b1 with
      |false=>
       rw[iN (by simp)]
       simp only[oS]
       exact no (fun h=>by
        have:=g2.2 ⟨(kid0 h.1 h.2.1).2.1.1,(kid0 h.1 h.2.1).2.1.2,by omega⟩
        cases this) _
      |true=>
       obtain⟨hc1,rfl⟩:=g3 rfl
       obtain⟨s1,l1,z1⟩:=g2.1 rfl
       rw[iP rfl,iP h5,iP trivial,P.Yu]
       simp only[oS,zY]
       by_cases hsv:ZHp (Zv w d t p.kids[0]) (Zv w d t p.kids[1])
       ·rw[iP (dec_of hsv),yS,iN (by omega)]
        simp only[oS]
        have kk:∀i,0<=i->i<(ZF w t p).length->∀(h:i<(ZF w t p).length) (h':i<p.kids.length),Zj w d (ZF w t p)[i] p.kids[i]/\ZF4 w d (ZF w t p)[i] p.kids[i]:=by
         intro i _ _ h h'
         have ei:(ZF w t p)[i]=t:=by
          have:i=0∨i=1:=by omega
          rcases this with rfl|rfl<;>simp[et]
         rw[ei]
         have:i=0∨i=1:=by omega
         rcases this with rfl|rfl
         ·exact⟨s0,l0⟩
         ·exact⟨s1,l1⟩
        have sh:Zj w (d+1) t p:=⟨ho,hl,fun i a b c e=>(kk i a b c e).1⟩
        have li:ZF4 w (d+1) t p:=⟨fun i a b c e=>(kk i a b c e).2,by rw[iP h5];exact fun _ _=>hsv⟩
        have hnd:=ZEn sh li
        have hvk:=ZEm hw ht sh
        rw[ZEl ho h5 h0]at hnd hvk
        rw[ZPv (vs:=Zv w d t p.kids[0]) (M:=xG ((c1:Int),Zv w d t p.kids[0])) (r:=([],false,(c1:Int))) (fun x hx=>⟨(hvk x hx).1,(hvk x hx).2.1⟩) (fun s i=>by rw[xG]) _ 0 _ rfl,zH,iP (dec_of ⟨hnd,fun _ _=>rfl⟩)]
        exact⟨_,true,c1,rfl,⟨fun _=>⟨sh,li,by omega⟩,fun _=>rfl⟩,fun _=>⟨by omega,(ZEl ho h5 h0).symm⟩⟩
       ·rw[iN (by rw[ZD hsv];simp)]
        simp only[oS]
        exact no (fun h=>hsv (kid0 h.1 h.2.1).2.2) _
    ·have kidx:Zj w (d+1) t p->ZF4 w (d+1) t p->ZOy w d (ZF w t p) p.kids 0:=fun a b i hi hlt h h'=>⟨a.2.2 i hi hlt h h',b.1 i hi hlt h h'⟩
     have fin:∀(v00:List VarType) (hv00:v00.length<=1) (hv:v00=if p.op=2∨p.op=6 then[(⟨p.var,t⟩:VarType)]else[])
       (L:Int->List VarType->Nat->Option (Lo ((List VarType)×Bool×Int) (Int×(List VarType))))
       (hL:∀z vars i,L z vars i=if i<p.kids.length then p.kids[i]? >>=fun x=>(ZF w t p)[i]? >>=fun y=>yM w y x (i64.wrap (((11- (d+1):Nat):Int)+1)) z>>=fun r=>if r.2.1=true then(if p.op=5 then(if i=1 then xH vars r.1>>=fun b=>if b=true then L r.2.2 vars (i+1)else some (.ret ([],false,r.2.2))else(if vars.length+r.1.length<=67108864 then L r.2.2 (vars++r.1) (i+1)else none))else(if vars.length+r.1.length<=67108864 then L r.2.2 (vars++r.1) (i+1)else none))else some (.ret ([],false,r.2.2))else some (.go (z,vars)))
       (M:Int×List VarType->(Nat->Bool)->Nat->Option (Lo ((List VarType)×Bool×Int) Unit))
       (hM:∀q s i,M q s i=if i<q.2.length then q.2[i]? >>=fun x=>if 0<=x.var/\x.var.toNat<6 then(if s x.var.toNat=true then some (.ret ([],false,q.1))else M q (updF s x.var.toNat true) (i+1))else none else some (.go ())),
       ∃vs b c,((L ((count+1:Nat):Int) v00 0).bind fun o=>match o with
        | .ret r0=>some r0
        | .go s=>(M s (fun _=>false) 0).bind fun o=>match o with
         | .ret r0=>some r0
         | .go _=>some (s.2,true,s.1))=some (vs,b,((c:Nat):Int))/\ZCK w (d+1) t p count vs b c:=by
      intro v00 hv00 hv L hL M hM
      obtain⟨o,g1,g2⟩:=P.YAh w d hd p hp (ZF w t p) hl.symm hts h5 L hL ihx _ 0 (count+1) v00 rfl (by omega) (by rw[←hwt];omega)
      rw[g1]
      simp only[oS]
      rw[←hwt]at g2
      cases o with
      |ret r=>
       obtain⟨vs,b,c⟩:=r
       obtain⟨rfl,c',rfl,q3⟩:=g2
       exact⟨vs,false,c',rfl,⟨fun h=>(by cases h),fun hh=>absurd ⟨kidx hh.1 hh.2.1,by have:=hh.2.2;omega⟩ q3⟩,fun h=>by cases h⟩
      |go s=>
       obtain⟨c,vs⟩:=s
       obtain⟨rfl,q2,q3,q4⟩:=g2
       have hvs:vs=Zv w (d+1) t p:=by
        rw[q2,Zv,hv,iN h5,zR (by simp;omega)];simp
       have sh:Zj w (d+1) t p:=⟨ho,hl,fun i a b c e=>(q3 i a b c e).1⟩
       have hvk:=ZEm hw ht sh
       rw[←hvs]at hvk
       dsimp only
       rw[ZPv (vs:=vs) (M:=M (((count+1+p.wt:Nat):Int),vs)) (r:=([],false,((count+1+p.wt:Nat):Int))) (fun x hx=>⟨(hvk x hx).1,(hvk x hx).2.1⟩) (fun s i=>by rw[hM]) _ 0 _ rfl,zH]
       simp only[oS]
       by_cases hn:ZIc vs
       ·rw[iP (dec_of ⟨hn,fun _ _=>by first|rfl|trivial⟩)]
        exact⟨vs,true,count+1+p.wt,rfl,⟨fun _=>⟨sh,⟨fun i a b c e=>(q3 i a b c e).2,by rw[iN h5,←hvs];exact hn⟩,by omega⟩,fun _=>rfl⟩,fun _=>⟨by omega,hvs⟩⟩
       ·rw[iN (by rw[ZD fun h=>hn h.1];simp)]
        exact no (fun h=>hn (by have:=h.2.1.2;rw[iN h5,←hvs]at this;exact this)) _
     by_cases h2:p.op=2
     ·rw[iP h2]
      exact fin [⟨p.var,t⟩] (by simp) (by rw[iP (.inl h2)]) (F.f132 w p ((11- (d+1):Nat):Int) (ZF w t p,dec (ZA1 w t p/\p.kids.length=(ZF w t p).length))) (fun z vars i=>by rw[F.f132]) F.f128 (fun q s i=>by rw[F.f128])
     ·rw[iN h2]
      by_cases h6:p.op=6
      ·rw[iP h6]
       exact fin [⟨p.var,t⟩] (by simp) (by rw[iP (.inr h6)]) (F.f130 w p ((11- (d+1):Nat):Int) (ZF w t p,dec (ZA1 w t p/\p.kids.length=(ZF w t p).length))) (fun z vars i=>by rw[F.f130]) F.f126 (fun q s i=>by rw[F.f126])
      ·rw[iN h6]
       exact fin [] (by simp) (by rw[iN (by omega)]) (yS w p ((11- (d+1):Nat):Int) (ZF w t p,dec (ZA1 w t p/\p.kids.length=(ZF w t p).length))) (fun z vars i=>by rw[yS]) xG (fun q s i=>by rw[xG])
   ·rw[iN (by rw[ZD hs];simp)]
    exact no (fun h=>hs ⟨h.1.1,h.1.2.1⟩) _
termination_by d=>d
def ZDy (w:List Data)(t:Ty)(p:Pattern):Prop:=Zj w 10 t p/\ZF4 w 10 t p/\1+p.wt<=60
theorem P.YAd (w:List Data)(hw:ZK w)(t:Ty)(ht:ZX w t)(p:Pattern)(hp:p.wt<=1048576):F.f67 w t p=some (dec (ZDy w t p)):=by
 unfold F.f67
 have e10:xU w t p 10=some (dec (Zj w 10 t p)):=P.YM w hw 10 t p ht (by omega)
 rw[e10]
 simp only[oE,oS]
 by_cases h1:Zj w 10 t p
 ·rw[iP (dec_of h1)]
  obtain⟨c,g1,g2,g3,g4,g5⟩:=P.YAi p hp 60 (by omega)
  have g1':vY p 60=some (c:Int):=g1
  rw[g1']
  simp only[oS]
  by_cases hc:1+p.wt<=60
  ·rw[iP (by have:=g4 hc;omega),P.YR w hw 10 t p ht h1 hp]
   simp only[oS]
   congr 1;exact ZM ⟨fun h=>⟨h1,h,hc⟩,fun h=>h.2.1⟩
  ·rw[iN (by have:=g5 (by omega);omega),ZD fun h=>hc h.2.2]
 ·rw[iN (by rw[ZD h1];simp),ZD fun h=>h1 h.1]
theorem P.Yd (w:List Data)(hw:ZK w)(t:Ty)(ht:ZX w t)(p:Pattern)(hp:p.wt<=1048576):∃vs,F.f133 w t p=some (vs,dec (ZDy w t p))/\(ZDy w t p->vs=Zv w 10 t p):=by
 unfold F.f133
 obtain⟨vs,b,c,g1,g2,g3⟩:=P.Yf w hw 10 t p 0 (by omega) ht hp (by omega)
 have g1':yM w t p 1 0=some (vs,b,(c:Int)):=g1
 rw[g1']
 simp only[oE,oS]
 have hb:b=dec (ZDy w t p):=by
  cases b with
  |true=>rw[dec_of];obtain⟨a,b,c⟩:=g2.1 rfl;exact⟨a,b,by omega⟩
  |false=>rw[ZD];intro h;have:=g2.2 ⟨h.1,h.2.1,by have:=h.2.2;omega⟩;cases this
 subst hb
 exact⟨vs,rfl,fun h=>(g3 (dec_of h)).2⟩
def ZPx (v:Int):Nat->Pattern->Prop
 |0,_=>False
 |d+1,p=>(∃i,∃h:i<p.kids.length,ZPx v d p.kids[i])∨((p.op=2∨p.op=6)/\p.var=v)
theorem P.Yo (w:List Data)(hw:ZK w)(t:Ty)(ht:ZX w t)(p:Pattern)(hp:p.wt<=1048576):F.f134 w t p=some (dec (ZDy w t p)):=by
 unfold F.f134
 obtain⟨vs,h1,_⟩:=P.Yd w hw t ht p hp
 rw[h1];rfl
def hv (d:Nat)(p:Pattern):Prop:=∃v,ZPx v d p
def Tree.nodes :Tree->Nat
 |⟨_,_,_,_,branches,els⟩=>1+(branches.attach.map fun⟨b,_⟩=>Tree.nodes b.tree).sum+(els.attach.map fun⟨k,_⟩=>Tree.nodes k).sum
termination_by t=>SizeOf.sizeOf t
decreasing_by
 ·rename_i h
  have:=yA h
  cases b
  simp at this ⊢
  omega
 ·rename_i h
  have:=yA h
  simp
  omega
def ZIr :Nat->Tree->Prop
 |0,_=>False
 |n+1,x=>(0<=x.op/\x.op<=2/\x.els.length<=1/\x.branches.length<=10)/\(∀b,b∈x.branches->ZIr n b.tree)/\∀y,y∈x.els->ZIr n y
def right (x:Tree):Prop:=ZIr x.nodes x
theorem P.Yb (w:List Data)(hw:ZAr w)(t:Ty)(p:Pattern)(hp:p.wt<=1048576):F.f135 w t p=some (dec (ZAM w t/\ZDy w t p)):=by
 unfold F.f135
 rw[P.Yp w t hw]
 simp only[oE,oS]
 by_cases h:ZAM w t
 ·rw[iP (dec_of h),P.Yo w h.1 t h.2 p hp]
  simp only[oS]
  by_cases h2:ZDy w t p
  ·rw[dec_of h2,dec_of ⟨h,h2⟩]
  ·rw[ZD h2,ZD fun q=>h2 q.2]
 ·rw[iN (by rw[ZD h];decide),ZD fun q=>h q.1]
theorem P.YAG (w:List Data)(t:Ty)(v:Value)(ht:ZAM w t)(hv:v.wt<=4000000):F.f158 w t v=some (dec (pv w false 10 t v/\1+v.wt<=60)):=by
 unfold F.f158
 obtain⟨b,c,h1,h2,_⟩:=P.Yz w ht.1 false 10 t v 0 (by omega) (Zg ht.2.1) (by omega)
 have h1':yN w t v 1 false 0=some (b,(c:Int)):=h1
 rw[h1']
 simp only[oE,oS]
 congr 1
 cases b with
 |true=>rw[dec_of ⟨(h2.1 rfl).1,by have:=(h2.1 rfl).2;omega⟩]
 |false=>rw[ZD fun hh=>by have:=h2.2 ⟨hh.1,by have:=hh.2;omega⟩;cases this]
theorem P.YAe (w:List Data)(t:Ty)(v:Value)(ht:ZAM w t)(hv:v.wt<=4000000):F.f91 w t v=some (dec (pv w false 10 t v/\1+v.wt<=60)):=by
 unfold F.f91
 have e:xN w t v 10=some (dec (pv w false 10 t v)):=P.YO w ht.1 10 t v (Zg ht.2.1) (by omega)
 rw[e]
 simp only[oE,oS]
 by_cases hp:pv w false 10 t v
 ·rw[iP (dec_of hp)]
  obtain⟨c,h1,h2,h3,h4,h5⟩:=P.YAT v hv 60 (by omega)
  have h1':vO v 60=some (c:Int):=h1
  rw[h1']
  simp only[oS]
  rw[←ZAu];congr 1
  refine ZM ⟨fun hc=>⟨hp,?_⟩,fun hh=> ?_⟩
  ·apply yH
   intro hn
   have:=h5 (by omega);omega
  ·have:=h4 hh.2;have:=hh.2;omega
 ·rw[iN (by rw[ZD hp];simp),ZD fun hh=>hp hh.1]
def Zp (s:Nat):Ty:=⟨((s/4:Nat):Int),((s%4:Nat):Int)⟩
def slotN (t:Ty):Nat:=t.data.toNat*4+t.index.toNat
def dpt (g:Nat->Nat)(t:Ty):Nat:=if t.data= -1 then 1 else g (slotN t)
def mst (g:Nat->Nat):Nat->List Ty->Nat
 |m,[]=>m+1
 |m,a::r=>if dpt g a=0 then 0 else mst g (if m<dpt g a then dpt g a else m) r
noncomputable def ZAq (w:List Data)(s:Nat)(g:Nat->Nat)(c:Int):Nat->Nat:=
 if 0<mst g 0 (ZH w (Zp s) c)/\(g s=0∨mst g 0 (ZH w (Zp s) c)<g s)then updF g s (mst g 0 (ZH w (Zp s) c))else g
noncomputable def upS (w:List Data)(g:Nat->Nat)(s:Nat):Nat->Nat:=(ZI w (Zp s)).foldl (ZAq w s) g
noncomputable def foldS (w:List Data):Nat->Nat->(Nat->Nat)->Nat->Nat
 |0,_,g=>g
 |k+1,s,g=>foldS w k (s+1) (upS w g s)
theorem ZFd (w:List Data):∀(a b s:Nat) (g:Nat->Nat),foldS w (a+b) s g=foldS w b (s+a) (foldS w a s g)
 |0,b,s,g=>by simp[foldS]
 |a+1,b,s,g=>by
  rw[Nat.add_right_comm,foldS,foldS,ZFd w a b (s+1),Nat.add_right_comm s 1 a,Nat.add_assoc s a 1]
noncomputable def itr (w:List Data):Nat->Nat->Nat
 |0=>fun _=>0
 |k+1=>foldS w (4*w.length) 0 (itr w k)
def Hs (w:List Data):Nat->Nat->Prop
 |0,_=>False
 |k+1,s=>∃c,c∈ZI w (Zp s)/\∀a,a∈ZH w (Zp s) c->(a.data= -1/\1<=k)∨(a.data≠-1/\Hs w k (slotN a))
theorem Hs.succ :∀{k s:Nat},Hs w k s->Hs w (k+1) s
 |0,_,h=>h.elim
 |k+1,s,⟨c,hc,h⟩=>⟨c,hc,fun a ha=>(h a ha).imp (fun q=>⟨q.1,by omega⟩) fun q=>⟨q.1,q.2.succ⟩⟩
variable {k s:Nat}
theorem Hs.mono {j:Nat}(h:Hs w k s)(hj:k<=j):Hs w j s:=by
 induction hj with
 |refl=>exact h
 |step _ ih=>exact ih.succ
theorem ZJP {g:Nat->Nat}:∀(ts:List Ty) (m:Nat),0<mst g m ts->m+1<=mst g m ts/\∀a,a∈ts->dpt g a≠0/\dpt g a+1<=mst g m ts
 | [],m,h=>⟨zB _,fun a ha=>by cases ha⟩
 |x::r,m,h=>by
  rw[mst]at h ⊢
  by_cases h0:dpt g x=0
  ·rw[iP h0]at h;omega
  ·rw[iN h0]at h ⊢
   obtain⟨h1,h2⟩:=ZJP r _ h
   have h3:m<=(if m<dpt g x then dpt g x else m)/\dpt g x<=(if m<dpt g x then dpt g x else m):=by split<;>omega
   refine⟨by omega,fun a ha=> ?_⟩
   rcases zV.1 ha with rfl|ha
   ·exact⟨h0,by omega⟩
   ·exact h2 a ha
theorem ZLY {g:Nat->Nat}{k:Nat}:∀(ts:List Ty) (m:Nat),m<=k->(∀a,a∈ts->dpt g a≠0/\dpt g a<=k)->0<mst g m ts/\mst g m ts<=k+1
 | [],m,h,_=>by rw[mst];omega
 |x::r,m,h,ha=>by
  obtain⟨h0,h1⟩:=ha x (zQ ..)
  rw[mst,iN h0]
  exact ZLY r _ (by split<;>omega) fun a h=>ha a (zO _ h)
theorem ZHQ {g:Nat->Nat}{L:Nat}(hL:1<=L)(hg:∀s,g s<=L):∀(ts:List Ty) (m:Nat),m<=L->mst g m ts<=L+1
 | [],m,h=>by rw[mst];omega
 |x::r,m,h=>by
  rw[mst]
  have:dpt g x<=L:=by
   unfold dpt
   split
   ·exact hL
   ·exact hg _
  split
  ·omega
  ·exact ZHQ hL hg r _ (by split<;>omega)
def btr (g f:Nat->Nat):Prop:=∀s,f s≠0->g s≠0/\g s<=f s
theorem btr.refl (g:Nat->Nat):btr g g:=fun s h=>⟨h,zB _⟩
theorem btr.trans {a b c:Nat->Nat}(h:btr a b)(h':btr b c):btr a c:=fun s hs=>
 let⟨h1,h2⟩:=h' s hs;let⟨h3,h4⟩:=h s h1;⟨h3,zD h4 h2⟩
variable {g:Nat->Nat}
theorem ZG9 :btr (ZAq w s g c) g:=by
 unfold ZAq
 split
 ·next h=>
  intro k hk
  unfold updF
  by_cases e:k=s
  ·subst e;rw[iP rfl];exact⟨by omega,by have:=h.2.resolve_left hk;omega⟩
  ·rw[iN e];exact⟨hk,zB _⟩
 ·exact .refl _
theorem ZDD {w:List Data}{s:Nat}:∀(l:List Int) (g:Nat->Nat),btr (l.foldl (ZAq w s) g) g
 | [],g=>.refl _
 |c::r,g=>(ZDD r _).trans ZG9
theorem ZDa {w:List Data}:∀(k s:Nat) (g:Nat->Nat),btr (foldS w k s g) g
 |0,_,g=>.refl _
 |k+1,s,g=>(ZDa k (s+1) _).trans (ZDD _ _)
theorem ZJW {w:List Data}(k:Nat):∀m,btr (itr w (k+m)) (itr w k)
 |0=>.refl _
 |m+1=>(ZDa _ _ _).trans (ZJW k m)
def Snd (w:List Data)(g:Nat->Nat):Prop:=∀s,0<g s->Hs w (g s) s
theorem ZLZ (h:Snd w g)(hc:c∈ZI w (Zp s))(hp:0<mst g 0 (ZH w (Zp s) c)):Hs w (mst g 0 (ZH w (Zp s) c)) s:=by
 obtain⟨_,h2⟩:=ZJP _ _ hp
 obtain⟨k,hk⟩:∃k,mst g 0 (ZH w (Zp s) c)=k+1:=⟨_,(Nat.succ_pred_eq_of_pos hp).symm⟩
 rw[hk]at h2 ⊢
 refine⟨c,hc,fun a ha=> ?_⟩
 obtain⟨h3,h4⟩:=h2 a ha
 unfold dpt at h3 h4
 by_cases e:a.data= -1
 ·rw[iP e]at h4;exact .inl ⟨e,by omega⟩
 ·rw[iN e]at h3 h4
  exact .inr ⟨e,(h _ (by omega)).mono (by omega)⟩
theorem ZKD (h:Snd w g)(hc:c∈ZI w (Zp s)):Snd w (ZAq w s g c):=by
 unfold ZAq
 split
 ·next hq=>
  intro k hk
  unfold updF at hk ⊢
  by_cases e:k=s
  ·subst e;rw[iP rfl];exact ZLZ h hc hq.1
  ·rw[iN e]at hk ⊢;exact h k hk
 ·exact h
theorem ZHa {w:List Data}{s:Nat}:∀(l:List Int) (g:Nat->Nat),(∀c,c∈l->c∈ZI w (Zp s))->Snd w g->Snd w (l.foldl (ZAq w s) g)
 | [],g,_,h=>h
 |c::r,g,hl,h=>ZHa r _ (fun x hx=>hl x (zO _ hx)) (ZKD h (hl c (zQ ..)))
theorem ZFe {w:List Data}:∀(k s:Nat) (g:Nat->Nat),Snd w g->Snd w (foldS w k s g)
 |0,_,g,h=>h
 |k+1,s,g,h=>ZFe k (s+1) _ (ZHa _ _ (fun c hc=>hc) h)
theorem ZJX {w:List Data}:∀k,Snd w (itr w k)
 |0=>fun s h=>by simp[itr]at h
 |k+1=>ZFe _ _ _ (ZJX k)
theorem ZAs (h:s<4*w.length):ZX w (Zp s):=by
 refine⟨.inr ⟨?_,?_,?_,?_⟩,?_⟩<;>simp only[Zp]<;>omega
theorem ZEa (h:ZX w t)(hd:t.data≠-1):slotN t<4*w.length:=by
 have h1:=h.1.resolve_left fun q=>hd q.1
 have h2:=h.2
 unfold slotN;omega
def Cmp (w:List Data)(k:Nat)(g:Nat->Nat):Prop:=∀s,s<4*w.length->Hs w k s->g s≠0/\g s<=k
theorem Cmp.btr {f:Nat->Nat}(h:Cmp w k f)(hg:btr g f):Cmp w k g:=fun s hs hh=>
 let⟨h1,h2⟩:=h s hs hh;let⟨h3,h4⟩:=hg s h1;⟨h3,zD h4 h2⟩
theorem ZHb {w:List Data}(hw:ZK w){k s:Nat}(hs:s<4*w.length){c:Int}(hc:c∈ZI w (Zp s))(ha:∀a,a∈ZH w (Zp s) c->(a.data= -1/\1<=k)∨(a.data≠-1/\Hs w k (slotN a))):
  ∀(l:List Int) (g:Nat->Nat),Cmp w k g->c∈l->(l.foldl (ZAq w s) g) s≠0/\(l.foldl (ZAq w s) g) s<=k+1
 | [],g,_,h=>by cases h
 |x::r,g,hg,h=>by
  rw[zX]
  by_cases e:c=x
  ·subst e
   have hm:=ZLY (g:=g) (k:=k) (ZH w (Zp s) c) 0 (zC _) fun a h=>by
    unfold dpt
    rcases ha a h with⟨q1,q2⟩|⟨q1,q2⟩
    ·rw[iP q1];omega
    ·rw[iN q1]
     exact hg _ (ZEa (ZAj hw (ZAs hs) hc a h) q1) q2
   have h1:ZAq w s g c s≠0/\ZAq w s g c s<=k+1:=by
    unfold ZAq
    split
    ·unfold updF;rw[iP rfl];omega
    ·next hq=>
     refine⟨fun h0=>hq ⟨hm.1,.inl h0⟩,?_⟩
     apply yH
     intro hn
     exact hq ⟨hm.1,.inr (by omega)⟩
   obtain⟨h2,h3⟩:=ZDD r _ s h1.1
   exact⟨h2,by omega⟩
  ·exact ZHb hw hs hc ha r _ (hg.btr ZG9) ((zV.1 h).resolve_left e)
theorem ZFf {w:List Data}(hw:ZK w){k s:Nat}(hs:s<4*w.length)(hh:Hs w (k+1) s):∀(m a:Nat) (g:Nat->Nat),Cmp w k g->a<=s->s<a+m->(foldS w m a g) s≠0/\(foldS w m a g) s<=k+1
 |0,a,g,hg,h1,h2=>by omega
 |m+1,a,g,hg,h1,h2=>by
  rw[foldS]
  by_cases e:a=s
  ·subst e
   obtain⟨c,hc,ha⟩:=hh
   have h3:=ZHb hw hs hc ha _ g hg hc
   obtain⟨h4,h5⟩:=ZDa (w:=w) m (a+1) (upS w g a) a h3.1
   have h6:upS w g a a<=k+1:=h3.2
   exact⟨h4,by omega⟩
  ·exact ZFf hw hs hh m (a+1) _ (hg.btr (ZDD _ _)) (by omega) (by omega)
theorem ZGa {w:List Data}(hw:ZK w):∀k,Cmp w k (itr w k)
 |0=>fun s _ h=>h.elim
 |k+1=>fun s hs hh=>ZFf hw hs hh _ _ _ (ZGa hw k) (zC _) (by omega)
noncomputable def ZHc (p:Nat->Prop):Nat->Nat
 |0=>0
 |n+1=>ZHc p n+if dec (p n)=true then 1 else 0
theorem ZJt (p:Nat->Prop):∀n,ZHc p n<=n
 |0=>zB _
 |n+1=>by have:=ZJt p n;rw[ZHc];split<;>omega
theorem ZFp {p q:Nat->Prop}:∀n,(∀s,s<n->p s->q s)->ZHc p n<=ZHc q n
 |0,_=>zB _
 |n+1,h=>by
  have:=ZFp n fun s hs=>h s (by omega)
  rw[ZHc,ZHc]
  by_cases hp:p n
  ·rw[iP (dec_of hp),iP (dec_of (h n (by omega) hp))];omega
  ·rw[iN (by rw[ZD hp];decide)];omega
theorem ZJs {p q:Nat->Prop}{s0:Nat}(hq:q s0)(hp:¬p s0):∀n,s0<n->(∀s,s<n->p s->q s)->ZHc p n<ZHc q n
 |0,h,_=>by omega
 |n+1,h,hi=>by
  rw[ZHc,ZHc]
  by_cases e:s0=n
  ·subst e
   have:=ZFp s0 fun s hs=>hi s (by omega)
   rw[iN (by rw[ZD hp];decide),iP (dec_of hq)];omega
  ·have:=ZJs hq hp n (by omega) fun s hs=>hi s (by omega)
   by_cases hpn:p n
   ·rw[iP (dec_of hpn),iP (dec_of (hi n (by omega) hpn))];omega
   ·rw[iN (by rw[ZD hpn];decide)];omega
theorem ZOs (hw:ZK w)(hs:s<4*w.length)(h:Hs w k s):Hs w (4*w.length+1) s:=by
 have st:∃j,1<=j/\j<=4*w.length+1/\∀s,s<4*w.length->Hs w (j+1) s->Hs w j s:=by
  apply yH
  intro hn
  have grow:∀j,j<=4*w.length+1->j<=ZHc (Hs w (j+1)) (4*w.length):=by
   intro j
   induction j with
   |zero=>intro _;omega
   |succ j ih=>
    intro hj
    have h1:=ih (by omega)
    have h2:∃s0,s0<4*w.length/\Hs w (j+2) s0/\¬Hs w (j+1) s0:=by
     apply yH
     intro hx
     exact hn ⟨j+1,by omega,hj,fun s hs hh=>yH fun hq=>hx ⟨s,hs,hh,hq⟩⟩
    obtain⟨s0,q1,q2,q3⟩:=h2
    have h3:ZHc (Hs w (j+1)) (4*w.length)<ZHc (Hs w (j+1+1)) (4*w.length):=ZJs q2 q3 _ q1 fun s _ h=>h.succ
    omega
  have h1:=grow (4*w.length+1) (zB _)
  have h2:=ZJt (Hs w (4*w.length+1+1)) (4*w.length)
  omega
 obtain⟨j,h1,h2,h3⟩:=st
 have stay:∀m s,s<4*w.length->Hs w (j+m) s->Hs w j s:=by
  intro m
  induction m with
  |zero=>exact fun s _ h=>h
  |succ m ih=>
   intro s hs hh
   obtain⟨c,hc,ha⟩:=hh
   refine h3 s hs ⟨c,hc,fun a h=> ?_⟩
   rcases ha a h with⟨q1,q2⟩|⟨q1,q2⟩
   ·exact .inl ⟨q1,h1⟩
   ·exact .inr ⟨q1,ih _ (ZEa (ZAj hw (ZAs hs) hc a h) q1) q2⟩
 by_cases hk:k<=j
 ·exact(h.mono hk).mono h2
 ·exact(stay (k-j) s hs (by rwa[show j+(k-j)=k by omega])).mono h2
theorem ZMP (hw:ZK w)(hs:s<4*w.length)(hc:c∈ZI w (Zp s)):ZAq w s (itr w (4*w.length+1)) c=itr w (4*w.length+1):=by
 unfold ZAq
 refine iN ?_
 rintro⟨hp,hq⟩
 have h1:=ZLZ (ZJX _) hc hp
 obtain⟨h2,h3⟩:=ZGa hw _ s hs (ZOs hw hs h1)
 have h4:=hq.resolve_left h2
 generalize mst (itr w (4*w.length+1)) 0 (ZH w (Zp s) c)=d at h1 h4
 obtain⟨h5,h6⟩:=ZGa hw d s hs h1
 obtain⟨h7,h8⟩:=ZJW (w:=w) d (4*w.length+1-d) s h5
 rw[show d+(4*w.length+1-d)=4*w.length+1 by omega]at h8
 omega
theorem ZGA {w:List Data}{s:Nat}{g:Nat->Nat}:∀(l:List Int),(∀c,c∈l->ZAq w s g c=g)->l.foldl (ZAq w s) g=g
 | [],_=>rfl
 |c::r,h=>by rw[zX,h c (zQ ..)];exact ZGA r fun x hx=>h x (zO _ hx)
def Bdd (L:Nat)(g:Nat->Nat):Prop:=1<=L/\∀s,g s<=L
variable {L:Nat}
theorem ZEY (h:Bdd L g):Bdd (L+1) (ZAq w s g c):=by
 refine⟨by omega,fun k=> ?_⟩
 have:=ZHQ h.1 h.2 (ZH w (Zp s) c) 0 (by omega)
 unfold ZAq
 split
 ·unfold updF;split
  ·exact this
  ·have:=h.2 k;omega
 ·have:=h.2 k;omega
theorem ZDE {w:List Data}{s:Nat}:∀(l:List Int) (L:Nat) (g:Nat->Nat),Bdd L g->Bdd (L+l.length) (l.foldl (ZAq w s) g)
 | [],L,g,h=>h
 |c::r,L,g,h=>by
  have:=ZDE (w:=w) (s:=s) r (L+1) _ (ZEY (w:=w) (s:=s) (c:=c) h)
  rw[zL,show L+(r.length+1)=L+1+r.length by omega];exact this
theorem Bdd.mono {M:Nat}(h:Bdd L g)(hm:L<=M):Bdd M g:=⟨by have:=h.1;omega,fun s=>zD (h.2 s) hm⟩
theorem ZCm (hw:ZK w)(hs:s<4*w.length):(ZI w (Zp s)).length<=4:=by
 have h:=ZAs hs
 unfold ZI
 split
 ·simp
 ·next hn=>exact zD (ZHH _ _ _) (ZAE hw (Zg h.1) hn).1
theorem ZDb {w:List Data}(hw:ZK w):∀(k s L:Nat) (g:Nat->Nat),s+k<=4*w.length->Bdd L g->Bdd (L+4*k) (foldS w k s g)
 |0,s,L,g,_,h=>h
 |k+1,s,L,g,hs,h=>by
  have:=ZDb hw k (s+1) (L+4) (upS w g s) (by omega) ((ZDE _ L g h).mono (by have:=ZCm hw (s:=s) (by omega);omega))
  rw[foldS,show L+4*(k+1)=L+4+4*k by omega];exact this
theorem ZDX {w:List Data}(hw:ZK w):∀k,Bdd (1+64*k) (itr w k)
 |0=>⟨by omega,fun s=>by simp[itr]⟩
 |k+1=>(ZDb hw _ _ _ _ (by omega) (ZDX hw k)).mono (by have:=hw.1;omega)
/-! The reference's table. -/
def tbl (n:Nat)(g:Nat->Nat):List Int:=(List.range n).map fun s=>((g s:Nat):Int)
theorem ZBU (n:Nat)(g:Nat->Nat):(tbl n g).length=n:=by simp[tbl]
theorem ZDI (g:Nat->Nat)(h:s<n):(tbl n g)[s]? =some ((g s:Nat):Int):=by
 unfold tbl;rw[List.getElem?_map,List.getElem?_range h];rfl
theorem ZIi (g:Nat->Nat)(d:Nat)(h:s<n):(tbl n g).set s (d:Int)=tbl n (updF g s d):=by
 refine yE fun k=> ?_
 rw[List.getElem?_set,ZBU]
 by_cases hk:k<n
 ·rw[ZDI _ hk,ZDI _ hk]
  unfold updF
  by_cases e:s=k
  ·subst e;rw[iP rfl,iP h,iP rfl]
  ·rw[iN e,iN (Ne.symm e)]
 ·have e1:(tbl n g)[k]? =none:=zS (by rw[ZBU];omega)
  have e2:(tbl n (updF g s d))[k]? =none:=zS (by rw[ZBU];omega)
  rw[e1,e2,iN (by omega)]
theorem P.YC (hw:ZK w)(g:Nat->Nat)(ht:ZX w t):vW (tbl (4*w.length) g) t=some ((dpt g t:Nat):Int):=by
 unfold vW F.f69 dpt
 by_cases hd:t.data= -1
 ·rw[iP hd,iP hd];rfl
 ·have hl:=ZEa ht hd
  have h1:=ht.1.resolve_left fun q=>hd q.1
  have h2:=ht.2
  have h4:=hw.1
  rw[iN hd,iN hd,ZB (n:=t.data*4) (by omega) (by omega),ZB (by omega) (by omega)]
  simp only[oE,oS]
  have e:t.data*4+t.index=((slotN t:Nat):Int):=by unfold slotN;omega
  rw[e,ZJz,ZDI g hl];rfl
theorem P.YAt (hw:ZK w)(g:Nat->Nat)(ts:List Ty)(ht:∀a,a∈ts->ZX w a):∀(n i m:Nat),ts.length-i=n->xO (tbl (4*w.length) g) ts (m:Int) i=some (if mst g m (ts.drop i)=0 then .ret 0 else .go ((mst g m (ts.drop i) -1:Nat):Int)):=by
 intro n
 induction n with
 |zero=>
  intro i m hn
  rw[xO,iN (by omega),zG (by omega),mst,iN (by omega)];rfl
 |succ n ih=>
  intro i m hn
  have hi:i<ts.length:=by omega
  rw[xO,iP hi,gQ hi,zF hi,mst]
  simp only[oE,oS]
  rw[P.YC hw g (ht _ (gM hi))]
  simp only[oS]
  by_cases h0:dpt g ts[i]=0
  ·rw[iP (show((dpt g ts[i]:Nat):Int)=0 by omega),iP h0,iP rfl]
  ·rw[iN (show ¬((dpt g ts[i]:Nat):Int)=0 by omega),iN h0]
   by_cases hm:m<dpt g ts[i]
   ·rw[iP (show(m:Int)<((dpt g ts[i]:Nat):Int) by omega),iP hm];exact ih (i+1) _ (by omega)
   ·rw[iN (show ¬(m:Int)<((dpt g ts[i]:Nat):Int) by omega),iN hm];exact ih (i+1) _ (by omega)
theorem P.YAb (hw:ZK w)(hg:Bdd L g)(hL:L<=1000000)(ht:ZX w t)(hc:c∈ZI w t):F.f72 w (tbl (4*w.length) g) t c=some ((mst g 0 (ZH w t c):Nat):Int):=by
 unfold F.f72
 rw[P.YA w hw t (Zg ht.1) c hc]
 simp only[oE,oS]
 have e:=P.YAt hw g (ZH w t c) (ZAj hw ht hc) _ 0 0 rfl
 rw[zH]at e
 have hb:=ZHQ hg.1 hg.2 (ZH w t c) 0 (by omega)
 have e:xO (tbl (4*w.length) g) (ZH w t c) 0 0=some (if mst g 0 (ZH w t c)=0 then .ret 0 else .go ((mst g 0 (ZH w t c) -1:Nat):Int)):=e
 rw[e]
 by_cases h0:mst g 0 (ZH w t c)=0
 ·rw[iP h0,h0];rfl
 ·rw[iN h0]
  simp only[oS]
  rw[ZB (by omega) (by omega)]
  congr 1;omega
theorem ZE5 (s:Nat)(h:s<1000):(⟨i64.wrap ((s:Int).tdiv 4),(s:Int).tmod 4⟩:Ty)=Zp s:=by
 have e1:((s:Int)).tdiv 4=((s/4:Nat):Int):=(Int.ofNat_tdiv s 4).symm
 have e2:((s:Int)).tmod 4=((s%4:Nat):Int):=(Int.ofNat_tmod s 4).symm
 rw[e1,e2,ZB (by omega) (by omega)];rfl
theorem P.YAo (hw:ZK w)(n s:Nat)(hs:s<4*w.length)(v:List Int)(hv:∀c,c∈v->c∈ZI w (Zp s)):∀(m i:Nat) (g:Nat->Nat) (L:Nat),v.length-i=m->Bdd L g->L+m<=1000000->vV w n s v (tbl (4*w.length) g) i=some (tbl (4*w.length) ((v.drop i).foldl (ZAq w s) g)):=by
 intro m
 induction m with
 |zero=>
  intro i g L hm hg hL
  rw[vV,iN (by omega),zG (by omega)];rfl
 |succ m ih=>
  intro i g L hm hg hL
  have hi:i<v.length:=by omega
  have h4:=hw.1
  have hc:=hv _ (gM hi)
  have next:=ih (i+1) (ZAq w s g v[i]) (L+1) (by omega) (ZEY hg) (by omega)
  rw[vV,iP hi,gQ hi,zF hi,zX,←next]
  simp only[oE,oS]
  rw[ZE5 s (by omega),P.YAb hw hg (by omega) (ZAs hs) hc]
  simp only[oS]
  unfold ZAq
  generalize mst g 0 (ZH w (Zp s) v[i])=d
  by_cases hd:0<d
  ·rw[iP (show 0<(d:Int) by omega),ZDI g hs]
   simp only[oS]
   by_cases h0:g s=0
   ·rw[iP (show((g s:Nat):Int)=0 by omega),iP ⟨hd,.inl h0⟩,ZIi g d hs]
   ·rw[iN (show ¬((g s:Nat):Int)=0 by omega)]
    by_cases h1:d<g s
    ·rw[iP (show(d:Int)<((g s:Nat):Int) by omega),iP ⟨hd,.inr h1⟩,ZIi g d hs]
    ·rw[iN (show ¬(d:Int)<((g s:Nat):Int) by omega),iN (fun q=>q.2.elim h0 h1)]
  ·rw[iN (show ¬0<(d:Int) by omega),iN (fun q=>hd q.1)]
theorem P.YAp (hw:ZK w)(n:Nat):∀(m s:Nat) (g:Nat->Nat) (L:Nat),4*w.length-s=m->Bdd L g->L+4*m<=1000000->vU w n (tbl (4*w.length) g) s=some (tbl (4*w.length) (foldS w m s g)):=by
 intro m
 induction m with
 |zero=>
  intro s g L hm hg hL
  rw[vU,iN (by rw[ZBU];omega)];rfl
 |succ m ih=>
  intro s g L hm hg hL
  have hs:s<4*w.length:=by omega
  have h4:=hw.1
  have hc:=ZCm hw hs
  rw[vU,iP (by rw[ZBU];exact hs),ZE5 s (by omega),P.YF w hw _ (Zg (ZAs hs).1)]
  simp only[oE,oS]
  rw[P.YAo hw n s hs _ (fun c h=>h) _ 0 g L rfl hg (by omega),zH]
  simp only[oS]
  rw[iP (by omega)]
  exact ih (s+1) (upS w g s) (L+4) (by omega) ((ZDE _ L g hg).mono (by omega)) (by omega)
theorem P.YAq (hw:ZK w):∀(m n:Nat),4*w.length+1-n=m->n<=4*w.length+1->vT w (tbl (4*w.length) (itr w n)) n=some (tbl (4*w.length) (itr w (4*w.length+1))):=by
 intro m
 induction m with
 |zero=>
  intro n hm hn
  rw[vT,iN (by rw[ZBU];omega),show n=4*w.length+1 by omega]
 |succ m ih=>
  intro n hm hn
  have h4:=hw.1
  rw[vT,iP (by rw[ZBU];omega),P.YAp hw n _ 0 _ _ rfl (ZDX hw n) (by omega)]
  simp only[oE,oS]
  rw[iP (by omega)]
  exact ih (n+1) (by omega) (by omega)
theorem P.YS (hw:ZK w):F.f76 w=some (tbl (4*w.length) (itr w (4*w.length+1))):=by
 have h4:=hw.1
 unfold F.f76
 have e:i64.wrap ((w.length:Int)*4)=((4*w.length:Nat):Int):=by rw[ZB (by omega) (by omega)];omega
 have e2:List.replicate (4*w.length) 0=tbl (4*w.length) (itr w 0):=by
  refine yE fun k=> ?_
  by_cases hk:k<4*w.length
  ·rw[ZDI _ hk,List.getElem?_replicate,iP hk];rfl
  ·rw[zS (by simp;omega),zS (by rw[ZBU];omega)]
 rw[e,iP (by omega),Int.toNat_natCast,e2,P.YAq hw _ 0 rfl (zC _)];rfl
/-! The program's sweeps. -/
def fni (g:Nat->Nat):Nat->Int:=fun s=>((g s:Nat):Int)
theorem ZMf (g:Nat->Nat)(s d:Nat):updF (fni g) s (d:Int)=fni (updF g s d):=by
 funext k;unfold fni updF;split<;>rfl
theorem P.YH (hw:ZK w)(g:Nat->Nat)(ht:ZX w t):vF (fni g) t=some ((dpt g t:Nat):Int):=by
 unfold vF dpt
 by_cases hd:t.data= -1
 ·rw[iP hd,iP hd];rfl
 ·have h1:=ht.1.resolve_left fun q=>hd q.1
  have h2:=ht.2
  have h4:=hw.1
  rw[iN hd,iN hd,iP (by omega),iP (by omega)];rfl
theorem P.YAj (hw:ZK w)(g:Nat->Nat)(ts:List Ty)(ht:∀a,a∈ts->ZX w a):∀(n i m:Nat),ts.length-i=n->xF (fni g) ts i (m:Int)=some (if mst g m (ts.drop i)=0 then .ret 0 else .go ((mst g m (ts.drop i) -1:Nat):Int)):=by
 intro n
 induction n with
 |zero=>
  intro i m hn
  rw[xF,iN (by omega),zG (by omega),mst,iN (by omega)];rfl
 |succ n ih=>
  intro i m hn
  have hi:i<ts.length:=by omega
  rw[xF,iP hi,gQ hi,zF hi,mst]
  simp only[oE,oS]
  rw[P.YH hw g (ht _ (gM hi))]
  simp only[oS]
  by_cases h0:dpt g ts[i]=0
  ·rw[iP (show((dpt g ts[i]:Nat):Int)=0 by omega),iP h0,iP rfl]
  ·rw[iN (show ¬((dpt g ts[i]:Nat):Int)=0 by omega),iN h0]
   have e:(if((dpt g ts[i]:Nat):Int)>(m:Int)then((dpt g ts[i]:Nat):Int)else(m:Int))=(((if m<dpt g ts[i]then dpt g ts[i]else m):Nat):Int):=by
    by_cases hm:m<dpt g ts[i]
    ·rw[iP hm,iP (by omega)]
    ·rw[iN hm,iN (by omega)]
   rw[e]
   exact ih (i+1) _ (by omega)
theorem P.YAs (hw:ZK w)(hg:Bdd L g)(hL:L<=1000000)(ht:ZX w t)(hc:c∈ZI w t):F.f138 (fni g) w t c=some ((mst g 0 (ZH w t c):Nat):Int):=by
 unfold F.f138
 rw[P.YB w hw t (Zg ht.1) c hc]
 simp only[oE,oS]
 have e:=P.YAj hw g (ZH w t c) (ZAj hw ht hc) _ 0 0 rfl
 rw[zH]at e
 have hb:=ZHQ hg.1 hg.2 (ZH w t c) 0 (by omega)
 have e:xF (fni g) (ZH w t c) 0 0=some (if mst g 0 (ZH w t c)=0 then .ret 0 else .go ((mst g 0 (ZH w t c) -1:Nat):Int)):=e
 rw[e]
 by_cases h0:mst g 0 (ZH w t c)=0
 ·rw[iP h0,h0];rfl
 ·rw[iN h0]
  simp only[oS]
  rw[ZB (by omega) (by omega)]
  congr 1;omega
theorem ZHE {i j:Nat}(hj:j<4):(⟨(i:Int),(j:Int)⟩:Ty)=Zp (i*4+j):=by
 unfold Zp;congr 1<;>omega
theorem P.YAl (hw:ZK w)(i j:Nat)(hi:i<w.length)(hj:j<4)(v:List Int)(hv:∀c,c∈v->c∈ZI w (Zp (i*4+j))):∀(m k:Nat) (g:Nat->Nat) (L:Nat) (ch:Bool),v.length-k=m->Bdd L g->L+m<=1000000->
  ∃b,yR w i j v (fni g) k ch=some (fni ((v.drop k).foldl (ZAq w (i*4+j)) g),b)/\(b=false->ch=false/\(v.drop k).foldl (ZAq w (i*4+j)) g=g)/\((∀c,c∈v->ZAq w (i*4+j) g c=g)->b=ch):=by
 intro m
 induction m with
 |zero=>
  intro k g L ch hm hg hL
  rw[yR,iN (by omega),zG (by omega)]
  exact⟨ch,rfl,fun h=>⟨h,rfl⟩,fun _=>rfl⟩
 |succ m ih=>
  intro k g L ch hm hg hL
  have hk:k<v.length:=by omega
  have h4:=hw.1
  have hs:i*4+j<4*w.length:=by omega
  have hcm:=gM hk
  have hc:=hv _ hcm
  rw[yR,iP hk,gQ hk,zF hk,zX]
  simp only[oE,oS]
  rw[ZHE hj,P.YAs hw hg (by omega) (ZAs hs) hc,P.YH hw g (ZAs hs)]
  have hdp:dpt g (Zp (i*4+j))=g (i*4+j):=by
   unfold dpt slotN Zp
   rw[iN (by simp only;omega)];congr 1;simp only;omega
  rw[hdp]
  simp only[oS]
  have next:=fun ch=>ih (k+1) (ZAq w (i*4+j) g v[k]) (L+1) ch (by omega) (ZEY hg) (by omega)
  have same:(0<mst g 0 (ZH w (Zp (i*4+j)) v[k])/\(g (i*4+j)=0∨mst g 0 (ZH w (Zp (i*4+j)) v[k])<g (i*4+j)))->ZAq w (i*4+j) g v[k]≠g:=fun hq he=>by
   have:=congrFun he (i*4+j)
   unfold ZAq at this
   rw[iP hq]at this
   unfold updF at this
   rw[iP rfl]at this
   omega
  have upd:(0<mst g 0 (ZH w (Zp (i*4+j)) v[k])/\(g (i*4+j)=0∨mst g 0 (ZH w (Zp (i*4+j)) v[k])<g (i*4+j)))->updF (fni g) (i*4+j) ((mst g 0 (ZH w (Zp (i*4+j)) v[k]):Nat):Int)=fni (ZAq w (i*4+j) g v[k]):=fun hq=>by
   rw[ZMf];unfold ZAq;rw[iP hq]
  have keep:¬(0<mst g 0 (ZH w (Zp (i*4+j)) v[k])/\(g (i*4+j)=0∨mst g 0 (ZH w (Zp (i*4+j)) v[k])<g (i*4+j)))->ZAq w (i*4+j) g v[k]=g:=fun hq=>by
   unfold ZAq;rw[iN hq]
  generalize mst g 0 (ZH w (Zp (i*4+j)) v[k])=d at same upd keep
  have changed:(0<d/\(g (i*4+j)=0∨d<g (i*4+j)))->∃b,yR w i j v (updF (fni g) (i*4+j) (d:Int)) (k+1) true=some (fni ((v.drop (k+1)).foldl (ZAq w (i*4+j)) (ZAq w (i*4+j) g v[k])),b)/\(b=false->ch=false/\(v.drop (k+1)).foldl (ZAq w (i*4+j)) (ZAq w (i*4+j) g v[k])=g)/\((∀c,c∈v->ZAq w (i*4+j) g c=g)->b=ch):=fun hq=>by
   rw[upd hq]
   obtain⟨b,e1,e2,e3⟩:=next true
   exact⟨b,e1,(fun hb=>by have:=(e2 hb).1;cases this),fun ha=>absurd (ha _ hcm) (same hq)⟩
  have kept:¬(0<d/\(g (i*4+j)=0∨d<g (i*4+j)))->∃b,yR w i j v (fni g) (k+1) ch=some (fni ((v.drop (k+1)).foldl (ZAq w (i*4+j)) (ZAq w (i*4+j) g v[k])),b)/\(b=false->ch=false/\(v.drop (k+1)).foldl (ZAq w (i*4+j)) (ZAq w (i*4+j) g v[k])=g)/\((∀c,c∈v->ZAq w (i*4+j) g c=g)->b=ch):=fun hq=>by
   have:=next ch
   rw[keep hq]at this ⊢
   exact this
  by_cases hd:0<d
  ·rw[iP (show 0<(d:Int) by omega)]
   by_cases h0:g (i*4+j)=0
   ·rw[iP (show((g (i*4+j):Nat):Int)=0 by omega),iP (by omega),iP hj]
    exact changed ⟨hd,.inl h0⟩
   ·rw[iN (show ¬((g (i*4+j):Nat):Int)=0 by omega)]
    by_cases h1:d<g (i*4+j)
    ·rw[iP (show(d:Int)<((g (i*4+j):Nat):Int) by omega),iP (by omega),iP hj]
     exact changed ⟨hd,.inr h1⟩
    ·rw[iN (show ¬(d:Int)<((g (i*4+j):Nat):Int) by omega)]
     exact kept fun q=>q.2.elim h0 h1
  ·rw[iN (show ¬0<(d:Int) by omega)]
   exact kept fun q=>hd q.1
theorem P.YAm (hw:ZK w)(i:Nat)(hi:i<w.length):∀(m j:Nat) (g:Nat->Nat) (L:Nat) (ch:Bool),4-j=m->j<=4->Bdd L g->L+4*m<=1000000->
  ∃b,vE w i (fni g) ch j=some (fni (foldS w m (i*4+j) g),b)/\(b=false->ch=false/\foldS w m (i*4+j) g=g)/\((∀s,s<4*w.length->∀c,c∈ZI w (Zp s)->ZAq w s g c=g)->b=ch):=by
 intro m
 induction m with
 |zero=>
  intro j g L ch hm hj hg hL
  rw[vE,iN (by omega)]
  exact⟨ch,rfl,fun h=>⟨h,rfl⟩,fun _=>rfl⟩
 |succ m ih=>
  intro j g L ch hm hj hg hL
  have hj4:j<4:=by omega
  have hs:i*4+j<4*w.length:=by omega
  have hc4:=ZCm hw hs
  rw[vE,iP (by omega),ZHE hj4,P.YG w hw _ (Zg (ZAs hs).1)]
  simp only[oE,oS]
  obtain⟨b1,e1,e2,e3⟩:=P.YAl hw i j hi hj4 _ (fun c h=>h) _ 0 g L ch rfl hg (by omega)
  rw[zH]at e1 e2
  rw[e1]
  simp only[oS]
  rw[iP (by omega)]
  obtain⟨b2,q1,q2,q3⟩:=ih (j+1) (upS w g (i*4+j)) (L+4) b1 (by omega) (by omega) ((ZDE _ L g hg).mono (by omega)) (by omega)
  refine⟨b2,q1,fun hb=> ?_,fun hall=> ?_⟩
  ·obtain⟨a1,a2⟩:=q2 hb
   obtain⟨a3,a4⟩:=e2 a1
   exact⟨a3,a2.trans a4⟩
  ·have hu:upS w g (i*4+j)=g:=ZGA _ (hall _ hs)
   rw[hu]at q3
   rw[q3 hall,e3 (hall _ hs)]
theorem P.YAD (hw:ZK w):∀(m i:Nat) (g:Nat->Nat) (L:Nat) (ch:Bool),w.length-i=m->i<=w.length->Bdd L g->L+16*m<=1000000->
  ∃b,vD w (fni g) i ch=some (fni (foldS w (4*m) (i*4) g),b)/\(b=false->ch=false/\foldS w (4*m) (i*4) g=g)/\((∀s,s<4*w.length->∀c,c∈ZI w (Zp s)->ZAq w s g c=g)->b=ch):=by
 intro m
 induction m with
 |zero=>
  intro i g L ch hm hi hg hL
  rw[vD,iN (by omega)]
  exact⟨ch,rfl,fun h=>⟨h,rfl⟩,fun _=>rfl⟩
 |succ m ih=>
  intro i g L ch hm hi hg hL
  have hi':i<w.length:=by omega
  have h4:=hw.1
  rw[vD,iP hi']
  simp only[oE]
  obtain⟨b1,e1,e2,e3⟩:=P.YAm hw i hi' 4 0 g L ch rfl (by omega) hg (by omega)
  rw[Nat.add_zero]at e1 e2
  rw[e1]
  simp only[oS]
  rw[iP (by omega)]
  obtain⟨b2,q1,q2,q3⟩:=ih (i+1) (foldS w 4 (i*4) g) (L+16) b1 (by omega) (by omega) (ZDb hw 4 (i*4) L g (by omega) hg) (by omega)
  have ef:foldS w (4*(m+1)) (i*4) g=foldS w (4*m) ((i+1)*4) (foldS w 4 (i*4) g):=by
   rw[show 4*(m+1)=4+4*m by omega,ZFd,show(i+1)*4=i*4+4 by omega]
  rw[ef]
  refine⟨b2,q1,fun hb=> ?_,fun hall=> ?_⟩
  ·obtain⟨a1,a2⟩:=q2 hb
   obtain⟨a3,a4⟩:=e2 a1
   exact⟨a3,a2.trans a4⟩
  ·have hu:∀(k s:Nat),s+k<=4*w.length->foldS w k s g=g:=by
    intro k
    induction k with
    |zero=>intro s _;rfl
    |succ k ihk=>intro s hs;rw[foldS,show upS w g s=g from ZGA _ (hall s (by omega))];exact ihk (s+1) (by omega)
   rw[hu 4 (i*4) (by omega)]at q3
   rw[q3 hall,e3 hall]
theorem P.Yv (hw:ZK w):F.f143 w=some (fni (itr w (4*w.length+1))):=by
 have h4:=hw.1
 have lp:∀(m k:Nat),4*w.length+1-k=m->k<=4*w.length+1->yQ w (fni (itr w k)) true=some (fni (itr w (4*w.length+1))):=by
  intro m
  induction m with
  |zero=>
   intro k hm hk
   have:k=4*w.length+1:=by omega
   subst this
   obtain⟨b,e1,e2,e3⟩:=P.YAD hw w.length 0 (itr w (4*w.length+1)) _ false (by omega) (zC _) (ZDX hw _) (by omega)
   have hb:=e3 fun s hs c hc=>ZMP hw hs hc
   subst hb
   rw[yQ,iP rfl,e1]
   simp only[oE,oS]
   rw[(e2 rfl).2,yQ,iN (by decide)]
  |succ m ih=>
   intro k hm hk
   obtain⟨b,e1,e2,e3⟩:=P.YAD hw w.length 0 (itr w k) _ false (by omega) (zC _) (ZDX hw _) (by omega)
   rw[Nat.zero_mul]at e1 e2
   rw[yQ,iP rfl,e1]
   simp only[oE,oS]
   cases b with
   |true=>exact ih (k+1) (by omega) (by omega)
   |false=>
    have hf:itr w (k+1)=itr w k:=(e2 rfl).2
    have hall:∀m,itr w (k+m)=itr w k:=by
     intro m
     induction m with
     |zero=>rfl
     |succ m ihm=>
      show foldS w (4*w.length) 0 (itr w (k+m))=_
      rw[ihm];exact hf
    have:=hall (4*w.length+1-k)
    rw[show k+(4*w.length+1-k)=4*w.length+1 by omega]at this
    rw[yQ,iN (by decide),this,(e2 rfl).2]
 unfold F.f143
 have e:(fun _=>0)=fni (itr w 0):=rfl
 rw[e,lp _ 0 rfl (zC _)];rfl
/-! Patterns that nothing matches. -/
theorem P.YX {w:List Data}(hw:ZK w)(g:Nat->Nat):∀(d:Nat) (t:Ty) (p:Pattern),ZX w t->Zj w d t p->∃b,vC ⟨w,fni g⟩ t p=some (!b)/\yT w (tbl (4*w.length) g) t p=some b
 |0,t,p,_,h=>h.elim
 |d+1,t,p,ht,⟨ho,hl,hk⟩=>by
  have hop:p.op=1∨p.op=2∨p.op=3∨p.op=4∨p.op=5∨p.op=6:=by unfold ZA1 at ho;omega
  have hto:=Zz hw ht ho
  have ih:∀i (h:i<(ZF w t p).length) (h':i<p.kids.length),∃b,vC ⟨w,fni g⟩ (ZF w t p)[i] p.kids[i]=some (!b)/\yT w (tbl (4*w.length) g) (ZF w t p)[i] p.kids[i]=some b:=
   fun i h h'=>P.YX hw g d _ _ (hto _ (gM h)) (hk i (zC _) h h h')
  have one:∃b:Bool,vF (fni g) t=some ((dpt g t:Nat):Int)/\decide (((dpt g t:Nat):Int)=0)= !b/\decide (0<((dpt g t:Nat):Int))=b:=by
   refine⟨decide (0<((dpt g t:Nat):Int)),P.YH hw g ht,?_,rfl⟩
   by_cases h:dpt g t=0
   ·rw[h];rfl
   ·rw[decide_eq_false (by omega),decide_eq_true (by omega)];rfl
  have sh:xE w t p=some (ZF w t p):=by
   obtain⟨ts,e1,e2⟩:=P.YW w hw t (Zg ht.1) p
   unfold xE
   rw[e1,e2 ho];rfl
  have lpI:∀(m i:Nat),(ZF w t p).length-i=m->∃b:Bool,yL ⟨w,fni g⟩ p (ZF w t p) i=some (if b=true then .go ()else .ret true)/\(p.op=4->yO w (tbl (4*w.length) g) p (ZF w t p) i=some (if b=true then .go ()else .ret false)):=by
   intro m
   induction m with
   |zero=>
    intro i hm
    refine⟨true,by rw[yL,iN (by omega),iP rfl],fun _=>by rw[yO,iN (by omega),iP rfl]⟩
   |succ m ihm=>
    intro i hm
    have hi:i<(ZF w t p).length:=by omega
    have hi':i<p.kids.length:=by omega
    obtain⟨b,e1,e2⟩:=ih i hi hi'
    obtain⟨b',q1,q2⟩:=ihm (i+1) (by omega)
    cases b with
    |true=>
     refine⟨b',?_,fun h=> ?_⟩
     ·rw[yL,iP hi,gQ hi,gQ hi']
      simp only[oE,oS]
      rw[e1];exact q1
     ·rw[yO,iP hi,gQ hi,gQ hi']
      simp only[oE,oS]
      rw[e2];exact q2 h
    |false=>
     refine⟨false,?_,fun h=> ?_⟩
     ·rw[yL,iP hi,gQ hi,gQ hi']
      simp only[oE,oS]
      rw[e1];rfl
     ·rw[yO,iP hi,gQ hi,gQ hi']
      simp only[oE,oS]
      rw[e2];rfl
  rw[vC,yT]
  by_cases h1:p.op=1
  ·obtain⟨b,o1,o2,o3⟩:=one
   rw[iP h1,iP h1,P.YC hw g ht]
   simp only[oE,oS]
   rw[o1]
   exact⟨b,by simp only[oS];rw[o2],by rw[o3]⟩
  rw[iN h1,iN h1]
  by_cases h2:p.op=2
  ·obtain⟨b,o1,o2,o3⟩:=one
   rw[iP h2,iP h2,P.YC hw g ht]
   simp only[oE,oS]
   rw[o1]
   exact⟨b,by simp only[oS];rw[o2],by rw[o3]⟩
  rw[iN h2,iN h2]
  by_cases h5:p.op=5
  ·have et:ZF w t p=[t,t]:=by unfold ZF;rw[iN (by omega),iP h5]
   have l2:p.kids.length=2:=by rw[hl,et];rfl
   obtain⟨b0,a1,a2⟩:=ih 0 (by simp[et]) (by omega)
   obtain⟨b1,a3,a4⟩:=ih 1 (by simp[et]) (by omega)
   have t0:(ZF w t p)[0]'(by simp[et])=t:=by simp[et]
   have t1:(ZF w t p)[1]'(by simp[et])=t:=by simp[et]
   rw[t0]at a1 a2
   rw[t1]at a3 a4
   rw[iP h5,iN (show ¬p.op=3 by omega),iP h5,gQ (show 0<p.kids.length by omega),gQ (show 1<p.kids.length by omega)]
   simp only[oE,oS]
   rw[a1,a2]
   simp only[oS]
   cases b0 with
   |true=>exact⟨true,rfl,rfl⟩
   |false=>
    rw[a3,a4]
    exact⟨b1,rfl,rfl⟩
  rw[iN h5]
  simp only[sh,oE,oS]
  obtain⟨b,q1,q2⟩:=lpI _ 0 rfl
  rw[q1]
  by_cases h3:p.op=3
  ·rw[iP h3]
   have et:ZF w t p=[]:=by unfold ZF;rw[iN (by omega),iN (by omega),iN (by omega)]
   rw[et,yL,iN (by simp)]at q1
   have hb:b=true:=by
    cases b with
    |true=>rfl
    |false=>cases q1
   subst hb
   exact⟨true,rfl,rfl⟩
  rw[iN h3,iN h5]
  by_cases h6:p.op=6
  ·have et:ZF w t p=[t]:=by unfold ZF;rw[iN (by omega),iN (by omega),iP h6]
   have l1:p.kids.length=1:=by rw[hl,et];rfl
   obtain⟨b0,a1,a2⟩:=ih 0 (by simp[et]) (by omega)
   have t0:(ZF w t p)[0]'(by simp[et])=t:=by simp[et]
   rw[t0]at a1 a2
   rw[iP h6,gQ (show 0<p.kids.length by omega)]
   simp only[oS]
   rw[a2]
   refine⟨b0,?_,rfl⟩
   have hq:(if b=true then(Lo.go ():Lo Bool Unit)else .ret true)=if b0=true then .go ()else .ret true:=by
    have:=q1
    rw[et,yL,iP (by simp),gQ (show 0<p.kids.length by omega)]at this
    simp only[List.getElem?_cons_zero,oE,oS]at this
    rw[a1]at this
    simp only[oS]at this
    cases b0 with
    |true=>
     rw[iN (by decide),yL,iN (by simp)]at this
     rw[iP rfl];exact(zA this).symm
    |false=>
     rw[iP (by decide)]at this
     exact(zA this).symm.trans (iN (by decide)).symm
   rw[hq]
   cases b0<;>rfl
  ·have h4:p.op=4:=by omega
   have et:ZF w t p=ZH w t p.ctor:=by unfold ZF;rw[iP h4]
   have hc:p.ctor∈ZI w t:=by
    unfold ZA1 at ho
    rcases ho with h|h|h|h|h|h
    all_goals first|exact h.2.2.2.2|(exfalso;omega)
   rw[iN h6,P.YA w hw t (Zg ht.1) _ hc]
   simp only[oS]
   rw[←et,q2 h4]
   cases b with
   |true=>exact⟨true,rfl,rfl⟩
   |false=>exact⟨false,rfl,rfl⟩
theorem P.YI (w:List Data)(hw:ZAr w)(t:Ty)(p:Pattern)(hp:p.wt<=1048576):F.f68 w t p=some (dec (ZAM w t/\ZDy w t p)):=by
 unfold F.f68
 rw[P.Ym w t hw]
 simp only[oE,oS]
 by_cases h:ZAM w t
 ·rw[iP (dec_of h),P.YAd w h.1 t h.2 p hp]
  simp only[oS]
  by_cases h2:ZDy w t p
  ·rw[dec_of h2,dec_of ⟨h,h2⟩]
  ·rw[ZD h2,ZD fun q=>h2 q.2]
 ·rw[iN (by rw[ZD h];decide),ZD fun q=>h q.1]
def szD :Nat->Nat
 |0=>0
 |d+1=>1+3*szD d
theorem ZLg {l:List Value}(hn:l.length<=n)(h:∀v,v∈l->1+v.wt<=k):wtL Value.wt l<=n*k:=by
 have:∀l:List Value,(∀v,v∈l->1+v.wt<=k)->wtL Value.wt l<=l.length*k:=by
  intro l
  induction l with
  |nil=>intro _;simp[wtL]
  |cons a r ih=>
   intro h
   have h1:=h a (zQ ..)
   have h2:=ih fun v hv=>h v (zO _ hv)
   rw[ZT,zL,Nat.add_mul,Nat.one_mul];omega
 exact zD (this l h) (Nat.mul_le_mul_right _ hn)
theorem P.YBD (hw:ZK w)(hg:Bdd L g)(hL:L<=1000000):∀(d:Nat) (t:Ty),ZX w t->dpt g t≠0->dpt g t<=d->∃v,F.f150 w (fni g) t=some v/\F.f82 w (tbl (4*w.length) g) t=some v/\1+v.wt<=szD d:=by
 intro d
 induction d with
 |zero=>intro t _ h0 h1;omega
 |succ d ih=>
  intro t ht h0 h1
  rw[F.f150,F.f82]
  by_cases hd:t.data= -1
  ·rw[iP hd,iP hd]
   exact⟨⟨-1,0,[]⟩,rfl,rfl,by rw[Value.wt_eq,szD];simp[wtL]⟩
  ·rw[iN hd,iN hd,P.YG w hw t (Zg ht.1),P.YF w hw t (Zg ht.1)]
   simp only[oE,oS]
   have l2:∀(x:Int) (ts:List Ty) (hts:∀a,a∈ts->ZX w a/\dpt g a≠0/\dpt g a<=d) (hl:ts.length<=3) (m k:Nat) (out:List Value),ts.length-k=m->out.length<=k->
     ∃vs,xY w (fni g) x ts out k=some (out++vs)/\vP w (tbl (4*w.length) g) x ts out k=some (out++vs)/\vs.length=m/\∀v,v∈vs->1+v.wt<=szD d:=by
    intro x ts hts hl m
    induction m with
    |zero=>
     intro k out hm ho
     rw[xY,vP,iN (by omega),iN (by omega)]
     exact⟨[],by simp,by simp,rfl,fun v hv=>by cases hv⟩
    |succ m ihm=>
     intro k out hm ho
     have hk:k<ts.length:=by omega
     obtain⟨a1,a2,a3⟩:=hts _ (gM hk)
     obtain⟨v,e1,e2,e3⟩:=ih _ a1 a2 a3
     rw[xY,vP,iP hk,iP hk,gQ hk]
     simp only[oE,oS]
     rw[e1,e2]
     simp only[oS]
     rw[iP (by omega),iP (by omega)]
     obtain⟨vs,q1,q2,q3,q4⟩:=ihm (k+1) (out++[v]) (by omega) (by simp;omega)
     refine⟨v::vs,by rw[q1];simp,by rw[q2];simp,by simp[q3],fun y hy=> ?_⟩
     rcases zV.1 hy with rfl|hy
     ·exact e3
     ·exact q4 y hy
   have l1:∀(m i:Nat),(ZI w t).length-i=m->∃r:Lo Value Unit,xZ w (fni g) t (ZI w t) i=some r/\vQ w (tbl (4*w.length) g) t (ZI w t) i=some r/\∀v,r=.ret v->1+v.wt<=szD (d+1):=by
    intro m
    induction m with
    |zero=>
     intro i hm
     rw[xZ,vQ,iN (by omega),iN (by omega)]
     exact⟨.go (),rfl,rfl,fun v hv=>by cases hv⟩
    |succ m ihm=>
     intro i hm
     have hi:i<(ZI w t).length:=by omega
     have hc:=gM hi
     rw[xZ,vQ,iP hi,iP hi,gQ hi]
     simp only[oE,oS]
     rw[P.YAs hw hg hL ht hc,P.YAb hw hg hL ht hc,P.YH hw g ht,P.YC hw g ht]
     simp only[oS]
     by_cases he:mst g 0 (ZH w t (ZI w t)[i])=dpt g t
     ·rw[iP (show((mst g 0 (ZH w t (ZI w t)[i]):Nat):Int)=((dpt g t:Nat):Int) by omega),iP (show((mst g 0 (ZH w t (ZI w t)[i]):Nat):Int)=((dpt g t:Nat):Int) by omega),P.YB w hw t (Zg ht.1) _ hc,P.YA w hw t (Zg ht.1) _ hc]
      simp only[oS]
      obtain⟨_,hge⟩:=ZJP (g:=g) (ZH w t (ZI w t)[i]) 0 (by omega)
      have h3:=(ZDl hw (Zg ht.1) hc).1
      obtain⟨vs,q1,q2,q3,q4⟩:=l2 (ZI w t)[i] (ZH w t (ZI w t)[i]) (fun a ha=>⟨ZAj hw ht hc a ha,(hge a ha).1,by have:=(hge a ha).2;omega⟩) h3 _ 0 [] rfl (zB _)
      rw[q1,q2]
      refine⟨.ret ⟨(ZI w t)[i],0,vs⟩,rfl,rfl,fun v hv=> ?_⟩
      obtain rfl:=Lo.ret.inj hv
      have:=ZLg (n:=3) (k:=szD d) (l:=vs) (by omega) q4
      rw[Value.wt_eq,szD];show 1+wtL Value.wt vs<=_;omega
     ·rw[iN (show ¬((mst g 0 (ZH w t (ZI w t)[i]):Nat):Int)=((dpt g t:Nat):Int) by omega),iN (show ¬((mst g 0 (ZH w t (ZI w t)[i]):Nat):Int)=((dpt g t:Nat):Int) by omega)]
      exact ihm (i+1) (by omega)
   obtain⟨r,e1,e2,e3⟩:=l1 _ 0 rfl
   rw[e1,e2]
   cases r with
   |ret v=>exact⟨v,rfl,rfl,e3 v rfl⟩
   |go u=>exact⟨⟨0,0,[]⟩,rfl,rfl,by rw[Value.wt_eq,szD];simp[wtL]⟩
def ZAe (w:List Data)(g:Nat->Nat):Nat->Ty->Pattern->Prop
 |0,_,_=>False
 |d+1,t,p=>if p.op=1∨p.op=2 then dpt g t≠0 else if p.op=5 then ∃i,∃(h:i<(ZF w t p).length) (h':i<p.kids.length),ZAe w g d (ZF w t p)[i] p.kids[i]
   else ∀i (h:i<(ZF w t p).length) (h':i<p.kids.length),ZAe w g d (ZF w t p)[i] p.kids[i]
theorem P.Ya {w:List Data}(hw:ZK w)(g:Nat->Nat):∀(d:Nat) (t:Ty) (p:Pattern),ZX w t->Zj w d t p->yT w (tbl (4*w.length) g) t p=some (dec (ZAe w g d t p))
 |0,t,p,_,h=>h.elim
 |d+1,t,p,ht,⟨ho,hl,hk⟩=>by
  have hop:p.op=1∨p.op=2∨p.op=3∨p.op=4∨p.op=5∨p.op=6:=by unfold ZA1 at ho;omega
  have hto:=Zz hw ht ho
  have ih:∀i (h:i<(ZF w t p).length) (h':i<p.kids.length),yT w (tbl (4*w.length) g) (ZF w t p)[i] p.kids[i]=some (dec (ZAe w g d (ZF w t p)[i] p.kids[i])):=
   fun i h h'=>P.Ya hw g d _ _ (hto _ (gM h)) (hk i (zC _) h h h')
  have one:vW (tbl (4*w.length) g) t=some ((dpt g t:Nat):Int)/\decide (0<((dpt g t:Nat):Int))=dec (dpt g t≠0):=by
   refine⟨P.YC hw g ht,?_⟩
   by_cases h:dpt g t=0
   ·rw[ZD (fun q=>q h),h];rfl
   ·rw[dec_of h,decide_eq_true (by omega)]
  rw[yT]
  by_cases h1:p.op=1
  ·rw[iP h1,one.1]
   simp only[oE,oS]
   rw[one.2];congr 1;refine ZM ?_;rw[ZAe,iP (.inl h1)]
  rw[iN h1]
  by_cases h2:p.op=2
  ·rw[iP h2,one.1]
   simp only[oE,oS]
   rw[one.2];congr 1;refine ZM ?_;rw[ZAe,iP (.inr h2)]
  rw[iN h2]
  have n12:¬(p.op=1∨p.op=2):=by omega
  by_cases h3:p.op=3
  ·have et:ZF w t p=[]:=by unfold ZF;rw[iN (by omega),iN (by omega),iN (by omega)]
   rw[iP h3,dec_of]
   rw[ZAe,iN n12,iN (by omega)]
   intro i h;rw[et]at h;simp at h
  rw[iN h3]
  by_cases h5:p.op=5
  ·have et:ZF w t p=[t,t]:=by unfold ZF;rw[iN (by omega),iP h5]
   have l2:p.kids.length=2:=by rw[hl,et];rfl
   have a0:=ih 0 (by simp[et]) (by omega)
   have a1:=ih 1 (by simp[et]) (by omega)
   have t0:(ZF w t p)[0]'(by simp[et])=t:=by simp[et]
   have t1:(ZF w t p)[1]'(by simp[et])=t:=by simp[et]
   have iff:ZAe w g (d+1) t p↔ZAe w g d t (p.kids[0]'(by omega))∨ZAe w g d t (p.kids[1]'(by omega)):=by
    rw[ZAe,iN n12,iP h5]
    constructor
    ·rintro⟨i,h,h',hs⟩
     have:i=0∨i=1:=by omega
     rcases this with rfl|rfl
     ·rw[t0]at hs;exact .inl hs
     ·rw[t1]at hs;exact .inr hs
    ·rintro(hs|hs)
     ·exact⟨0,by simp[et],by omega,by rw[t0];exact hs⟩
     ·exact⟨1,by simp[et],by omega,by rw[t1];exact hs⟩
   rw[t0]at a0
   rw[t1]at a1
   rw[iP h5,gQ (show 0<p.kids.length by omega),gQ (show 1<p.kids.length by omega)]
   simp only[oE,oS]
   rw[a0,a1]
   simp only[oS]
   by_cases hs:ZAe w g d t (p.kids[0]'(by omega))
   ·rw[iP (dec_of hs),dec_of (iff.2 (.inl hs))]
   ·rw[iN (by rw[ZD hs];decide)]
    congr 1;exact ZM ⟨fun q=>iff.2 (.inr q),fun q=>(iff.1 q).resolve_left hs⟩
  rw[iN h5]
  by_cases h6:p.op=6
  ·have et:ZF w t p=[t]:=by unfold ZF;rw[iN (by omega),iN (by omega),iP h6]
   have l1:p.kids.length=1:=by rw[hl,et];rfl
   have a0:=ih 0 (by simp[et]) (by omega)
   have t0:(ZF w t p)[0]'(by simp[et])=t:=by simp[et]
   rw[t0]at a0
   rw[iP h6,gQ (show 0<p.kids.length by omega)]
   simp only[oE,oS]
   rw[a0]
   simp only[oS]
   congr 1;refine ZM ?_
   rw[ZAe,iN n12,iN h5]
   constructor
   ·intro hs i h h'
    have:i=0:=by omega
    subst this;rw[t0];exact hs
   ·intro hs;have:=hs 0 (by simp[et]) (by omega);rwa[t0]at this
  ·have h4:p.op=4:=by omega
   have et:ZF w t p=ZH w t p.ctor:=by unfold ZF;rw[iP h4]
   have hc:p.ctor∈ZI w t:=by
    unfold ZA1 at ho
    rcases ho with h|h|h|h|h|h
    all_goals first|exact h.2.2.2.2|(exfalso;omega)
   have lp:∀(m i:Nat),(ZF w t p).length-i=m->yO w (tbl (4*w.length) g) p (ZF w t p) i=some (if dec (∀j (h:j<(ZF w t p).length) (h':j<p.kids.length),i<=j->ZAe w g d (ZF w t p)[j] p.kids[j])=true then .go ()else .ret false):=by
    intro m
    induction m with
    |zero=>
     intro i hm
     rw[yO,iN (by omega),iP (dec_of fun j h _ hj=>by omega)]
    |succ m ihm=>
     intro i hm
     have hi:i<(ZF w t p).length:=by omega
     have hi':i<p.kids.length:=by omega
     rw[yO,iP hi,gQ hi,gQ hi']
     simp only[oE,oS]
     rw[ih i hi hi']
     simp only[oS]
     by_cases hs:ZAe w g d (ZF w t p)[i] p.kids[i]
     ·rw[iP (dec_of hs),ihm (i+1) (by omega)]
      congr 2
      exact congrArg (fun x=>x=true) (ZM ⟨fun q j h h' hj=>if e:i=j then by subst e;exact hs else q j h h' (by omega),fun q j h h' hj=>q j h h' (by omega)⟩)
     ·rw[iN (by rw[ZD hs];decide),iN (by rw[ZD fun q=>hs (q i hi hi' (zB _))];decide)]
   rw[iN h6,P.YA w hw t (Zg ht.1) _ hc]
   simp only[oE,oS]
   rw[←et,lp _ 0 rfl]
   by_cases hs:∀j (h:j<(ZF w t p).length) (h':j<p.kids.length),0<=j->ZAe w g d (ZF w t p)[j] p.kids[j]
   ·rw[iP (dec_of hs),dec_of]
    ·rfl
    ·rw[ZAe,iN n12,iN h5];exact fun i h h'=>hs i h h' (zC _)
   ·rw[iN (by rw[ZD hs];decide),ZD]
    ·rfl
    ·rw[ZAe,iN n12,iN h5];exact fun q=>hs fun j h h' _=>q j h h'
def ZDC (w:List Data)(g:Nat->Nat):Nat->Ty->Pattern->Prop
 |0,_,_=>False
 |d+1,t,p=>if p.op=1∨p.op=2 then dpt g t<=10 else ∀i (h:i<(ZF w t p).length) (h':i<p.kids.length),ZDC w g d (ZF w t p)[i] p.kids[i]
theorem P.YAa {w:List Data}(hw:ZK w)(g:Nat->Nat):∀(d:Nat) (t:Ty) (p:Pattern),ZX w t->Zj w d t p->vB ⟨w,fni g⟩ t p=some (dec (¬ZDC w g d t p))/\vS w (tbl (4*w.length) g) t p=some (dec (ZDC w g d t p))
 |0,t,p,_,h=>h.elim
 |d+1,t,p,ht,⟨ho,hl,hk⟩=>by
  have hto:=Zz hw ht ho
  have ih:∀i (h:i<(ZF w t p).length) (h':i<p.kids.length),vB ⟨w,fni g⟩ (ZF w t p)[i] p.kids[i]=some (dec (¬ZDC w g d (ZF w t p)[i] p.kids[i]))/\vS w (tbl (4*w.length) g) (ZF w t p)[i] p.kids[i]=some (dec (ZDC w g d (ZF w t p)[i] p.kids[i])):=
   fun i h h'=>P.YAa hw g d _ _ (hto _ (gM h)) (hk i (zC _) h h h')
  have sh:xE w t p=some (ZF w t p):=by
   obtain⟨ts,e1,e2⟩:=P.YW w hw t (Zg ht.1) p
   unfold xE
   rw[e1,e2 ho];rfl
  have one:decide (10<((dpt g t:Nat):Int))=dec (¬dpt g t<=10)/\decide (((dpt g t:Nat):Int)<=10)=dec (dpt g t<=10):=by
   by_cases h:dpt g t<=10
   ·rw[dec_of h,ZD fun q=>q h,decide_eq_true (show((dpt g t:Nat):Int)<=10 by omega),decide_eq_false (show ¬10<((dpt g t:Nat):Int) by omega)];exact⟨rfl,rfl⟩
   ·rw[ZD h,dec_of h,decide_eq_false (show ¬((dpt g t:Nat):Int)<=10 by omega),decide_eq_true (show 10<((dpt g t:Nat):Int) by omega)];exact⟨rfl,rfl⟩
  rw[vB,vS]
  by_cases h1:p.op=1
  ·rw[iP h1,iP h1,P.YH hw g ht,P.YC hw g ht]
   simp only[oE,oS]
   rw[one.1,one.2,ZDC,iP (.inl h1)];exact⟨rfl,rfl⟩
  rw[iN h1,iN h1]
  by_cases h2:p.op=2
  ·rw[iP h2,iP h2,P.YH hw g ht,P.YC hw g ht]
   simp only[oE,oS]
   rw[one.1,one.2,ZDC,iP (.inr h2)];exact⟨rfl,rfl⟩
  rw[iN h2,iN h2,P.YE w hw t (Zg ht.1) p ho]
  simp only[sh,oE,oS]
  have lp:∀(m i:Nat),(ZF w t p).length-i=m->vA ⟨w,fni g⟩ p (ZF w t p) i=some (if dec (∀j (h:j<(ZF w t p).length) (h':j<p.kids.length),i<=j->ZDC w g d (ZF w t p)[j] p.kids[j])=true then .go ()else .ret true)/\vR w (tbl (4*w.length) g) p (ZF w t p) i=some (if dec (∀j (h:j<(ZF w t p).length) (h':j<p.kids.length),i<=j->ZDC w g d (ZF w t p)[j] p.kids[j])=true then .go ()else .ret false):=by
   intro m
   induction m with
   |zero=>
    intro i hm
    have hn:¬i<(ZF w t p).length:=by omega
    rw[vA,vR,iN hn,iN hn,dec_of (show ∀j (h:j<(ZF w t p).length) (h':j<p.kids.length),i<=j->ZDC w g d (ZF w t p)[j] p.kids[j]from fun j h _ hj=>by omega)]
    exact⟨rfl,rfl⟩
   |succ m ihm=>
    intro i hm
    have hi:i<(ZF w t p).length:=by omega
    have hi':i<p.kids.length:=by omega
    obtain⟨a1,a2⟩:=ih i hi hi'
    obtain⟨a3,a4⟩:=ihm (i+1) (by omega)
    rw[vA,vR,iP hi,iP hi,gQ hi,gQ hi']
    simp only[oE,oS]
    rw[a1,a2]
    simp only[oS]
    by_cases hs:ZDC w g d (ZF w t p)[i] p.kids[i]
    ·have e:dec (∀j (h:j<(ZF w t p).length) (h':j<p.kids.length),i+1<=j->ZDC w g d (ZF w t p)[j] p.kids[j])=dec (∀j (h:j<(ZF w t p).length) (h':j<p.kids.length),i<=j->ZDC w g d (ZF w t p)[j] p.kids[j]):=
      ZM ⟨fun q j h h' hj=>if e:i=j then by subst e;exact hs else q j h h' (by omega),fun q j h h' hj=>q j h h' (by omega)⟩
     rw[e]at a3 a4
     rw[iN (by rw[ZD fun q=>q hs];decide),iP (dec_of hs),a3,a4]
     exact⟨rfl,rfl⟩
    ·have hn:¬(∀j (h:j<(ZF w t p).length) (h':j<p.kids.length),i<=j->ZDC w g d (ZF w t p)[j] p.kids[j]):=fun q=>hs (q i hi hi' (zB _))
     rw[ZD hn,iP (dec_of hs),iN (show ¬dec (ZDC w g d (ZF w t p)[i] p.kids[i])=true by rw[ZD hs];decide)]
     exact⟨rfl,rfl⟩
  obtain⟨a1,a2⟩:=lp _ 0 rfl
  rw[a1,a2]
  have n12:¬(p.op=1∨p.op=2):=by omega
  by_cases hs:∀j (h:j<(ZF w t p).length) (h':j<p.kids.length),0<=j->ZDC w g d (ZF w t p)[j] p.kids[j]
  ·have hq:ZDC w g (d+1) t p:=by rw[ZDC,iN n12];exact fun i h h'=>hs i h h' (zC _)
   rw[iP (dec_of hs),iP (dec_of hs),dec_of hq,ZD fun q=>q hq];exact⟨rfl,rfl⟩
  ·have hq:¬ZDC w g (d+1) t p:=by rw[ZDC,iN n12];exact fun q=>hs fun j h h' _=>q j h h'
   rw[iN (by rw[ZD hs];decide),iN (by rw[ZD hs];decide),ZD hq,dec_of hq];exact⟨rfl,rfl⟩
end Go.Vl
set_option maxRecDepth 100000
namespace Go.Vl
open Go Go.RowKit
open Go.IntKind (i64)
theorem P.YAr {w:List Data}(hw:ZK w){g:Nat->Nat}{L:Nat}(hg:Bdd L g)(hL:L<=1000000):∀(d:Nat) (t:Ty) (p:Pattern),ZX w t->Zj w d t p->ZAe w g d t p->ZDC w g d t p->∃v,F.f153 ⟨w,fni g⟩ t p=some v/\F.f85 w (tbl (4*w.length) g) t p=some v/\1+v.wt<=29524*(1+p.wt)
 |0,t,p,_,h,_,_=>h.elim
 |d+1,t,p,ht,⟨ho,hl,hk⟩,hsm,hlo=>by
  have hop:p.op=1∨p.op=2∨p.op=3∨p.op=4∨p.op=5∨p.op=6:=by unfold ZA1 at ho;omega
  have hto:=Zz hw ht ho
  have ih:∀i (h:i<(ZF w t p).length) (h':i<p.kids.length),ZAe w g d (ZF w t p)[i] p.kids[i]->ZDC w g d (ZF w t p)[i] p.kids[i]->∃v,F.f153 ⟨w,fni g⟩ (ZF w t p)[i] p.kids[i]=some v/\F.f85 w (tbl (4*w.length) g) (ZF w t p)[i] p.kids[i]=some v/\1+v.wt<=29524*(1+p.kids[i].wt):=
   fun i h h'=>P.YAr hw hg hL d _ _ (hto _ (gM h)) (hk i (zC _) h h h')
  have kw:∀i (h':i<p.kids.length),1+p.kids[i].wt<=p.wt:=fun i h'=>by rw[p.wt_eq];exact ZAz Pattern.wt (gM h')
  rw[ZAe]at hsm
  rw[ZDC]at hlo
  rw[F.f153,F.f85]
  by_cases h12:p.op=1∨p.op=2
  ·rw[iP h12]at hsm hlo
   obtain⟨v,e1,e2,e3⟩:=P.YBD hw hg hL 10 t ht hsm hlo
   have e4:szD 10=29524:=by decide
   have key:∃v,((F.f150 w (fni g) t)>>=fun v=>some v)=some v/\((F.f82 w (tbl (4*w.length) g) t)>>=fun v=>some v)=some v/\1+v.wt<=29524*(1+p.wt):=⟨v,by rw[e1];rfl,by rw[e2];rfl,by omega⟩
   rcases h12 with h|h
   ·rw[iP h,iP h];exact key
   ·rw[iN (by omega),iP h,iN (by omega),iP h];exact key
  rw[iN h12]at hsm hlo
  rw[iN (show ¬p.op=1 by omega),iN (show ¬p.op=2 by omega),iN (show ¬p.op=1 by omega),iN (show ¬p.op=2 by omega)]
  by_cases h3:p.op=3
  ·rw[iP h3,iP h3]
   exact⟨⟨-1,p.n,[]⟩,rfl,rfl,by rw[Value.wt_eq];simp[wtL];omega⟩
  rw[iN h3,iN h3]
  by_cases h6:p.op=6
  ·have et:ZF w t p=[t]:=by unfold ZF;rw[iN (by omega),iN (by omega),iP h6]
   have l1:p.kids.length=1:=by rw[hl,et];rfl
   rw[iN (show ¬p.op=5 by omega)]at hsm
   obtain⟨v,e1,e2,e3⟩:=ih 0 (by simp[et]) (by omega) (hsm 0 (by simp[et]) (by omega)) (hlo 0 (by simp[et]) (by omega))
   have t0:(ZF w t p)[0]'(by simp[et])=t:=by simp[et]
   rw[t0]at e1 e2
   have:=kw 0 (by omega)
   rw[iP h6,iP h6,gQ (show 0<p.kids.length by omega)]
   simp only[oE,oS]
   rw[e1,e2]
   exact⟨v,rfl,rfl,by omega⟩
  rw[iN h6,iN h6]
  by_cases h5:p.op=5
  ·have et:ZF w t p=[t,t]:=by unfold ZF;rw[iN (by omega),iP h5]
   have l2:p.kids.length=2:=by rw[hl,et];rfl
   rw[iP h5]at hsm
   have t0:(ZF w t p)[0]'(by simp[et])=t:=by simp[et]
   have t1:(ZF w t p)[1]'(by simp[et])=t:=by simp[et]
   have s0:=hk 0 (zC _) (by simp[et]) (by simp[et]) (by omega)
   rw[t0]at s0
   obtain⟨b,q1,q2⟩:=P.YX hw g d t (p.kids[0]'(by omega)) ht s0
   have q3:=P.Ya hw g d t (p.kids[0]'(by omega)) ht s0
   have hb:b=dec (ZAe w g d t (p.kids[0]'(by omega))):=by rw[q3]at q2;exact(zA q2).symm
   have k0:=kw 0 (by omega)
   have k1:=kw 1 (by omega)
   have lo0:=hlo 0 (by simp[et]) (by omega)
   have lo1:=hlo 1 (by simp[et]) (by omega)
   rw[iP h5,iP h5,gQ (show 0<p.kids.length by omega),gQ (show 1<p.kids.length by omega)]
   simp only[oE,oS]
   rw[q1,q2]
   simp only[oS]
   cases b with
   |true=>
    obtain⟨v,e1,e2,e3⟩:=ih 0 (by simp[et]) (by omega) (by rw[t0];exact Zq.1 hb.symm) lo0
    rw[t0]at e1 e2
    rw[iN (by decide),iP rfl,e1,e2]
    exact⟨v,rfl,rfl,by omega⟩
   |false=>
    obtain⟨i,hi,hi',hs⟩:=hsm
    have h1:i=1:=by
     have:i=0∨i=1:=by omega
     rcases this with rfl|rfl
     ·rw[t0]at hs;rw[dec_of hs]at hb;cases hb
     ·rfl
    subst h1
    obtain⟨v,e1,e2,e3⟩:=ih 1 hi hi' hs lo1
    rw[t1]at e1 e2
    rw[iP (by decide),iN (by decide),e1,e2]
    exact⟨v,rfl,rfl,by omega⟩
  rw[iN h5]at hsm
  have h4:p.op=4:=by omega
  have et:ZF w t p=ZH w t p.ctor:=by unfold ZF;rw[iP h4]
  have hc:p.ctor∈ZI w t:=by
   unfold ZA1 at ho
   rcases ho with h|h|h|h|h|h
   all_goals first|exact h.2.2.2.2|(exfalso;omega)
  have l3:(ZF w t p).length<=3:=by rw[et];exact(ZDl hw (Zg ht.1) hc).1
  have lp:∀(m i:Nat) (out:List Value),(ZF w t p).length-i=m->out.length<=i->i<=(ZF w t p).length->∃vs,F.f154 ⟨w,fni g⟩ p (ZF w t p) out i=some (out++vs)/\F.f86 w (tbl (4*w.length) g) p (ZF w t p) out i=some (out++vs)/\wtL Value.wt vs<=29524*wtL Pattern.wt (p.kids.drop i):=by
   intro m
   induction m with
   |zero=>
    intro i out hm hO hi
    rw[F.f154,F.f86,iN (by omega),iN (by omega)]
    exact⟨[],by simp,by simp,by simp[wtL]⟩
   |succ m ihm=>
    intro i out hm hO hi
    have hi:i<(ZF w t p).length:=by omega
    have hi':i<p.kids.length:=by omega
    obtain⟨v,e1,e2,e3⟩:=ih i hi hi' (hsm i hi hi') (hlo i hi hi')
    obtain⟨vs,q1,q2,q3⟩:=ihm (i+1) (out++[v]) (by omega) (by simp;omega) (by omega)
    rw[F.f154,F.f86,iP hi,iP hi,gQ hi,gQ hi']
    simp only[oE,oS]
    rw[e1,e2]
    simp only[oS]
    rw[iP (by omega),iP (by omega),q1,q2,zF hi']
    refine⟨v::vs,by simp,by simp,?_⟩
    rw[ZT,ZT,Nat.mul_add];omega
  obtain⟨vs,q1,q2,q3⟩:=lp _ 0 [] rfl (zB _) (zC _)
  rw[iN h5,iN h5,P.YB w hw t (Zg ht.1) _ hc,P.YA w hw t (Zg ht.1) _ hc]
  simp only[oE,oS]
  rw[←et,q1,q2]
  refine⟨⟨p.ctor,0,vs⟩,rfl,rfl,?_⟩
  rw[zH,←p.wt_eq]at q3
  rw[Value.wt_eq];show 1+wtL Value.wt vs<=_;omega
theorem P.YY (w:List Data)(hw:ZAr w)(t:Ty)(p:Pattern)(hp:p.wt<=1048576):∃r:Value×Bool,F.f159 w t p=some r/\F.f92 w t p=some r/\r.1.wt<=60:=by
 unfold F.f159 F.f92
 rw[P.Yb w hw t p hp,P.YI w hw t p hp]
 simp only[oE,oS]
 have none:∃r:Value×Bool,some ((⟨0,0,[]⟩:Value),false)=some r/\some ((⟨0,0,[]⟩:Value),false)=some r/\r.1.wt<=60:=⟨_,rfl,rfl,by rw[Value.wt_eq];simp[wtL]⟩
 by_cases h:ZAM w t/\ZDy w t p
 ·rw[iP (dec_of h),iP (dec_of h)]
  have hb:=ZDX h.1.1 (4*w.length+1)
  have h4:=h.1.1.1
  have e0:F.f79 w t p=some (!dec (ZAe w (itr w (4*w.length+1)) 10 t p)):=by
   unfold F.f79
   rw[P.YI w hw t p hp]
   simp only[oE,oS]
   rw[iP (dec_of h),P.YS h.1.1]
   simp only[oS]
   rw[P.Ya h.1.1 _ 10 t p h.1.2 h.2.1];rfl
  obtain⟨b,a1,a2⟩:=P.YX h.1.1 (itr w (4*w.length+1)) 10 t p h.1.2 h.2.1
  rw[P.Ya h.1.1 _ 10 t p h.1.2 h.2.1]at a2
  obtain rfl:=zA a2
  rw[P.Yv h.1.1,e0,P.YS h.1.1]
  simp only[oS]
  rw[a1]
  simp only[oS]
  by_cases hs:ZAe w (itr w (4*w.length+1)) 10 t p
  ·rw[dec_of hs,iN (by decide),iN (by decide)]
   obtain⟨d1,d2⟩:=P.YAa h.1.1 (itr w (4*w.length+1)) 10 t p h.1.2 h.2.1
   rw[d1,d2]
   simp only[oS]
   by_cases hlo:ZDC w (itr w (4*w.length+1)) 10 t p
   ·rw[iN (by rw[ZD fun q=>q hlo];decide),iP (dec_of hlo)]
    obtain⟨v,s1,s2,s3⟩:=P.YAr h.1.1 hb (by omega) 10 t p h.1.2 h.2.1 hs hlo
    have h60:=h.2.2.2
    rw[s1,s2]
    simp only[oS]
    rw[P.YAG w t v h.1 (by omega),P.YAe w t v h.1 (by omega)]
    simp only[oS]
    by_cases hv:pv w false 10 t v/\1+v.wt<=60
    ·rw[iP (dec_of hv)]
     exact⟨_,rfl,rfl,by have:=hv.2;show v.wt<=60;omega⟩
    ·rw[iN (by rw[ZD hv];decide)];exact none
   ·rw[iP (dec_of hlo),iN (by rw[ZD hlo];decide)];exact none
  ·rw[ZD hs,iP (by decide),iP (by decide)];exact none
 ·rw[iN (by rw[ZD h];decide),iN (by rw[ZD h];decide)];exact none
end Go.Vl
