import Derived.Test.YtnockmfobogfpaaGreatExactTestedPathsP
set_option linter.all false
set_option maxRecDepth 100000
open Nat renaming le_refl->zA,zero_le->zB,mul_le_mul_right->zC,mul_le_mul_left->zD,min_eq_left->zE,one_mul->zF,zero_add->zG,min_eq_right->zH,mul_assoc->zI,add_assoc->zJ,add_mul->zK,eq_zero_or_pos->zL,lt_trichotomy->zM,mul_le_mul->zN,sub_self->zO,lt_trans->zP,add_zero->zQ,add_comm->zR
open List renaming drop_eq_getElem_cons->zS,drop_eq_nil_of_le->zT,length_append->zU,drop_zero->zV,map_cons->zW,take_of_length_le->zX,append_assoc->zY,mem_cons_of_mem->zZ,flatMap_cons->yA,nil_append->yB,length_nil->yC,length_cons->yD,mem_map->yE,getElem_of_mem->yF,mem_cons_self->yG,mem_append->yH,map_append->yI,length_map->yJ,mem_take_iff_getElem->yK,foldl_cons->yL,take_append->yM,length_take->yN,take_succ_eq_append_getElem->yO,exists_cons_of_length_pos->yP,mem_flatMap->yQ,mem_cons->yR,nodup_cons->yS,zip_cons_cons->yT,mem_singleton->yU,sum_cons->yV,drop_left->yW,getElem?_eq_some_iff->yX,getElem_map->yY,cons_append->yZ,getElem_cons_zero->xA,append_nil->xB,sizeOf_lt_of_mem->xC,length_singleton->xD,mem_iff_getElem->xE,take_succ_cons->xF,map_nil->xG,eq_nil_of_length_eq_zero->xH,take_take->xI,take_left->xJ,getD_eq_getElem?_getD->xK,getElem_cons_succ->xL,append_of_mem->xM,range'_succ->xN,perm_middle->xO,ext_getElem->xP,mem_filter->xQ,length_zip->xR,map_take->xS,map_map->xT,length->xU
open Classical renaming byContradiction->xV
open Bool renaming false_eq_true->xW,false_or->xX
namespace Go.Vl
open Go Go.RowKit
open F renaming f140->xY,f139->xZ,f166->vA,f189->vB,f69->vC,f201->vD,f168->vE,f131->vF,f95->vG,f63->vH,f77->vI,f75->vJ,f48->vK,f46->vL,f45->vM,f44->vN,f42->vO,f39->vP,f180->vQ,f179->vR,f174->vS,f164->vT,f162->vU,f159->vV,f155->vW,f146->vX,f112->vY,f110->vZ,f93->uA,f90->uB,f79->uC,f73->uD,f71->uE,f68->uF,f66->uG,f65->uH,f56->uI,f203->uJ,f202->uK,f188->uL,f185->uM,f183->uN,f182->uO,f153->uP,f152->uQ,f151->uR,f150->uS,f148->uT,f147->uU,f135->uV,f130->uW,f109->uX,f94->uY,f92->uZ,f91->kA,f89->kB,f87->kC,f83->kD,f78->kE,f74->kF,f67->kG,f54->kH,f49->kI
open Pattern renaming wt->kJ,ind->kK
open Go.IntKind (i64)
variable {α β:Type}{f:α->Option β}
theorem oS {a:α}:(some a).bind f=f a:=rfl
theorem oE :(bind:Option α->(α->Option β)->Option β)=Option.bind:=rfl
variable {l:List α}
theorem gQ {i:Nat}(h:i<l.length):l[i]? =some l[i]:=List.getElem?_eq_getElem h
theorem gM {n:Nat}(h:n<l.length):l[n]∈l:=List.getElem_mem h
theorem ZLd {a:α}:(some a>>=f)=f a:=rfl
theorem ZRA {c:Prop}[Decidable c]{a b r:Option α}(h1:c->a=r)(h2:¬c->b=r):(if c then a else b)=r:=by
 by_cases h:c
 ·rw[iP h];exact h1 h
 ·rw[iN h];exact h2 h
noncomputable def ZGR {α:Type}(p:α->Prop):Nat->List α->Option Nat
 |_,[]=>none
 |k,x::r=>if dec (p x)=true then some k else ZGR p (k+1) r
theorem ZAm {α:Type}{p:α->Prop}:∀{l:List α} {k j:Nat},ZGR p k l=some j->k<=j/\∃h:j-k<l.length,p l[j-k]/\∀i (hi:i<l.length),i<j-k->¬p l[i]
 |x::r,k,j,h=>by
  simp only[ZGR]at h
  split at h
  ·next hp=>
   obtain rfl:=Option.some.inj h
   refine⟨zA _,by simp,?_,fun i _ hi=>by omega⟩
   simpa using Zd.1 hp
  ·next hp=>
   obtain⟨h1,h2,h3,h4⟩:=ZAm h
   have e:j-k=(j- (k+1))+1:=by omega
   refine⟨by omega,by simp;omega,?_,fun i hi hlt=> ?_⟩
   ·simp only[e,xL];exact h3
   ·cases i with
    |zero=>exact fun hq=>hp (dec_of hq)
    |succ i=>exact h4 i (by simpa using hi) (by omega)
theorem ZAn {α:Type}{p:α->Prop}:∀{l:List α} {k:Nat},ZGR p k l=none->∀x,x∈l->¬p x
 | [],_,_=>fun x hx=>by cases hx
 |x::r,k,h=>by
  simp only[ZGR]at h
  split at h
  ·cases h
  ·next hp=>
   intro y hy
   rcases yR.1 hy with rfl|hy
   ·exact fun hq=>hp (dec_of hq)
   ·exact ZAn h y hy
theorem ZKz {a:List α}{p:α->Prop}{L:Nat->Option (Lo Int Unit)}(h0:∀k,a.length<=k->L k=some (.go ()))(h1:∀k (h:k<a.length),¬p a[k]->L k=L (k+1))(h2:∀k (h:k<a.length),p a[k]->L k=some (.ret (k:Int))):∀(m k:Nat),a.length-k=m->L k=some (match ZGR p k (a.drop k)with|some j=>.ret (j:Int)|none=>.go ()):=by
 intro m
 induction m with
 |zero=>intro k hm;rw[h0 k (by omega),zT (by omega)];rfl
 |succ m ih=>
  intro k hm
  have hk:k<a.length:=by omega
  rw[zS hk]
  by_cases hp:p a[k]
  ·rw[h2 k hk hp];simp only[ZGR];rw[iP (dec_of hp)]
  ·rw[h1 k hk hp,ih (k+1) (by omega)];simp only[ZGR];rw[iN (by rw[ZB hp];simp)]
def ZOu (c:Nat):Prop:=65<=c/\c<=90
def ZFP (s:ByteArray):Prop:=s.size=1/\ZOu (byteAt s 0)/\s≠⟨#[73]⟩
def ZF5 (s:ByteArray):Prop:=1<=s.size/\s.size<=5/\ZOu (byteAt s 0)/\∀i,1<=i->i<s.size->97<=byteAt s i/\byteAt s i<=122
def ZBn (n:Nat)(t:Ty):Prop:=(t.data= -1/\t.index=0)∨(0<=t.data/\t.data<n/\-1<=t.index/\t.index<=3)
def ZEp (n:Nat)(c:Ctor):Prop:=ZF5 c.name/\c.args.length<=3/\0<=c.index/\c.index<=3/\∀j,0<=j->(h:j<c.args.length)->ZBn n c.args[j]
theorem P.Yo (c:Nat):F.f37 c=some (dec (ZOu c)):=by
 unfold F.f37
 by_cases h:65<=(c:Int)
 ·rw[iP h];congr 1;rw[←ZAJ];exact ZJ ⟨fun h'=>⟨by omega,by omega⟩,fun h'=>by have:=h'.2;omega⟩
 ·rw[iN h,ZB fun h'=>h (by have:=h'.1;omega)]
theorem P.YAg (s:ByteArray):F.f38 s=some (dec (ZFP s)):=by
 unfold F.f38
 by_cases h:s.size=1
 ·rw[iP h,iP (by omega),P.Yo]
  simp only[oE,oS]
  by_cases hb:ZOu (byteAt s 0)
  ·rw[iP (dec_of hb)];congr 1;rw[←ZAJ];exact ZJ ⟨fun h'=>⟨h,hb,fun e=>h' (by rw[e])⟩,fun h' e=>h'.2.2 (ZAL.1 e)⟩
  ·rw[iN (by rw[ZB hb];simp),ZB fun h'=>hb h'.2.1]
 ·rw[iN h,ZB fun h'=>h h'.1]
theorem P.YAS (s:ByteArray)(hs:s.size<=1048576):vP s 1=some (if dec (∀i,1<=i->i<s.size->97<=byteAt s i/\byteAt s i<=122)=true then .go ()else .ret false):=by
 refine ZIj (L:=vP s) (fun k hk=> ?_) (fun k hk hq=> ?_) (fun k hk hq=> ?_) _ 1 rfl
 ·rw[vP,iN (by omega)]
 ·rw[vP,iP hk,iN (by omega),iN (by omega),iP (by omega)]
 ·rw[vP,iP hk]
  by_cases h:byteAt s k<97
  ·rw[iP h]
  ·rw[iN h,iP (by omega)]
theorem P.YAW (s:ByteArray)(hs:s.size<=1048576):vF s 1=some (if dec (∀i,1<=i->i<s.size->97<=byteAt s i/\byteAt s i<=122)=true then .go ()else .ret false):=by
 refine ZIj (L:=vF s) (fun k hk=> ?_) (fun k hk hq=> ?_) (fun k hk hq=> ?_) _ 1 rfl
 ·rw[vF,iN (by omega)]
 ·rw[vF,iP hk,iN (by omega),iN (by omega),iP (by omega)]
 ·rw[vF,iP hk]
  by_cases h:byteAt s k<97
  ·rw[iP h]
  ·rw[iN h,iP (by omega)]
theorem P.Yq (s:ByteArray)(hs:s.size<=1048576):F.f40 s=some (dec (ZF5 s)):=by
 unfold F.f40
 by_cases h0:s.size=0
 ·rw[iP h0,ZB fun h=>by have:=h.1;omega]
 by_cases h5:5<s.size
 ·rw[iN h0,iP h5,ZB fun h=>by have:=h.2.1;omega]
 rw[iN h0,iN h5,iP (by omega),P.Yo]
 simp only[oE,oS]
 by_cases hb:ZOu (byteAt s 0)
 ·rw[iP (dec_of hb),P.YAS s hs]
  simp only[oS]
  by_cases hall:∀i,1<=i->i<s.size->97<=byteAt s i/\byteAt s i<=122
  ·rw[iP (dec_of hall),dec_of ⟨by omega,by omega,hb,hall⟩]
  ·rw[iN (by rw[ZB hall];simp),ZB fun h=>hall h.2.2.2]
 ·rw[iN (by rw[ZB hb];simp),ZB fun h=>hb h.2.2.1]
theorem P.YD (n low high:Int):uW n low high=some (dec (low<=n/\n<=high)):=by
 unfold uW
 by_cases h:low<=n
 ·rw[iP h];congr 1;rw[←ZAJ];exact ZJ ⟨fun h'=>⟨h,h'⟩,fun h'=>h'.2⟩
 ·rw[iN h,ZB fun h'=>h h'.1]
theorem P.Yt (s:ByteArray)(hs:s.size<=1048576):F.f132 s=some (dec (ZF5 s)):=by
 unfold F.f132
 rw[P.YD]
 simp only[oE,oS]
 by_cases h0:1<=(s.size:Int)/\(s.size:Int)<=5
 ·rw[iP (dec_of h0),iP (by omega)]
  by_cases a1:byteAt s 0<65
  ·rw[iP a1,ZB fun h=>by have:=h.2.2.1.1;omega]
  by_cases a2:90<byteAt s 0
  ·rw[iN a1,iP a2,ZB fun h=>by have:=h.2.2.1.2;omega]
  rw[iN a1,iN a2,P.YAW s hs]
  simp only[oS]
  by_cases hall:∀i,1<=i->i<s.size->97<=byteAt s i/\byteAt s i<=122
  ·rw[iP (dec_of hall),dec_of ⟨by omega,by omega,⟨by omega,by omega⟩,hall⟩]
  ·rw[iN (by rw[ZB hall];simp),ZB fun h=>hall h.2.2.2]
 ·rw[iN (by rw[ZB h0];simp),ZB fun h=>h0 ⟨by have:=h.1;omega,by have:=h.2.1;omega⟩]
theorem P.YQ (n:Nat)(t:Ty):F.f41 n t=some (dec (ZBn n t)):=by
 unfold F.f41
 by_cases h:t.data= -1
 ·rw[iP h];congr 1;rw[←ZAJ];exact ZJ ⟨fun h'=>.inl ⟨h,h'⟩,fun h'=>h'.elim (·.2) (fun h'=>by have:=h'.1;omega)⟩
 rw[iN h]
 by_cases h1:0<=t.data
 ·by_cases h2:t.data<n
  ·by_cases h3: -1<=t.index
   ·rw[iP h1,iP h2,iP h3];congr 1;rw[←ZAJ];exact ZJ ⟨fun h'=>.inr ⟨h1,h2,h3,h'⟩,fun h'=>h'.elim (fun h'=>absurd h'.1 h) (fun h'=>h'.2.2.2)⟩
   ·rw[iP h1,iP h2,iN h3,ZB fun h'=>h'.elim (fun h'=>h h'.1) (fun h'=>h3 h'.2.2.1)]
  ·rw[iP h1,iN h2,ZB fun h'=>h'.elim (fun h'=>h h'.1) (fun h'=>h2 h'.2.1)]
 ·rw[iN h1,ZB fun h'=>h'.elim (fun h'=>h h'.1) (fun h'=>h1 h'.1)]
theorem P.YAt (w:List Data)(t:Ty)(hw:w.length<=1048576):F.f133 w t=some (dec (ZBn w.length t)):=by
 unfold F.f133
 by_cases h:eq2 (t.data,t.index) (-1,0)
 ·rw[iP (dec_of h),dec_of (.inl h)]
 rw[iN (by rw[ZB h];simp),P.YD,ZD (by omega) (by omega)]
 simp only[oE,oS]
 by_cases h1:0<=t.data/\t.data<=(w.length:Int) -1
 ·rw[iP (dec_of h1),P.YD]
  simp only[oS]
  congr 1;exact ZJ ⟨fun h'=>.inr ⟨h1.1,by omega,h'.1,h'.2⟩,fun h'=>h'.elim (fun h'=>absurd h' h) (fun h'=>h'.2.2)⟩
 ·rw[iN (by rw[ZB h1];simp),ZB fun h'=>h'.elim (fun h'=>h h') (fun h'=>h1 ⟨h'.1,by have:=h'.2.1;omega⟩)]
theorem P.Ye (n:Nat)(c:Ctor)(hs:c.name.size<=1048576):F.f43 n c=some (dec (ZEp n c)):=by
 unfold F.f43
 rw[P.Yq _ hs]
 simp only[oE,oS]
 by_cases h1:ZF5 c.name
 ·rw[iP (dec_of h1)]
  by_cases h2:3<c.args.length
  ·rw[iP h2,ZB fun h=>by have:=h.2.1;omega]
  by_cases h3:c.index<0
  ·rw[iN h2,iP h3,ZB fun h=>by have:=h.2.2.1;omega]
  by_cases h4:3<c.index
  ·rw[iN h2,iN h3,iP h4,ZB fun h=>by have:=h.2.2.2.1;omega]
  rw[iN h2,iN h3,iN h4]
  have key:vO n c 0=some (if dec (∀j,0<=j->j<c.args.length->∀h:j<c.args.length,ZBn n c.args[j])=true then .go ()else .ret false):=by
   refine ZIj (n:=c.args.length) (Q:=fun j=>∀h:j<c.args.length,ZBn n c.args[j]) (L:=vO n c) (fun k hk=> ?_) (fun k hk hq=> ?_) (fun k hk hq=> ?_) _ 0 rfl
   ·rw[vO,iN (by omega)]
   ·rw[vO,iP hk,gQ hk]
    simp only[oE,oS]
    rw[P.YQ]
    simp only[oS]
    rw[iP (dec_of (hq hk))]
   ·rw[vO,iP hk,gQ hk]
    simp only[oE,oS]
    rw[P.YQ]
    simp only[oS]
    rw[iN (by rw[ZB fun h=>hq fun _=>h];simp)]
  rw[key]
  simp only[oS]
  by_cases hall:∀j,0<=j->j<c.args.length->∀h:j<c.args.length,ZBn n c.args[j]
  ·rw[iP (dec_of hall),dec_of ⟨h1,by omega,by omega,by omega,fun j h0 hj=>hall j h0 hj hj⟩]
  ·rw[iN (by rw[ZB hall];simp),ZB fun h=>hall fun j h0 _ hj=>h.2.2.2.2 j h0 hj]
 ·rw[iN (by rw[ZB h1];simp),ZB fun h=>h1 h.1]
theorem P.YAD (t:Ty)(w:List Data)(hw:w.length<=1048576):F.f134 t w=some (!dec (ZBn w.length t)):=by
 unfold F.f134
 rw[P.YAt w t hw];rfl
theorem P.YAz (w:List Data)(hw:w.length<=1048576)(s:List Ty):∃v,F.f136 s w=some v/\(0<=v↔¬∀j,0<=j->(h:j<s.length)->ZBn w.length s[j]):=by
 unfold F.f136
 have key:∀(m k:Nat),s.length-k=m->∃r,uV s w k=some r/\
   match r with| .ret j=>0<=j/\¬∀j,k<=j->(h:j<s.length)->ZBn w.length s[j]| .go _=>∀j,k<=j->(h:j<s.length)->ZBn w.length s[j]:=by
  intro m
  induction m with
  |zero=>
   intro k hm
   rw[uV,iN (by omega)]
   exact⟨_,rfl,fun j hj h=>by omega⟩
  |succ m ih=>
   intro k hm
   have hk:k<s.length:=by omega
   rw[uV,iP hk,gQ hk]
   simp only[oE,oS]
   rw[P.YAD _ _ hw]
   simp only[oS]
   by_cases h:ZBn w.length s[k]
   ·rw[iN (by rw[dec_of h];simp)]
    obtain⟨r,hr,hx⟩:=ih (k+1) (by omega)
    refine⟨r,hr,?_⟩
    cases r with
    |ret j=>exact⟨hx.1,fun hh=>hx.2 fun j hj hl=>hh j (by omega) hl⟩
    |go _=>
     intro j hj hl
     by_cases e:k=j
     ·subst e;exact h
     ·exact hx j (by omega) hl
   ·rw[iP (by rw[ZB h];simp)]
    exact⟨_,rfl,by omega,fun hh=>h (hh k (zA _) hk)⟩
 obtain⟨r,hr,hx⟩:=key _ 0 rfl
 rw[hr]
 cases r with
 |ret j=>exact⟨j,rfl,fun _=>hx.2,fun _=>hx.1⟩
 |go _=>exact⟨-1,rfl,fun h=>by omega,fun h=>absurd hx h⟩
theorem P.Yh (w:List Data)(c:Ctor)(hw:w.length<=1048576)(hs:c.name.size<=1048576):F.f138 w c=some (dec (ZEp w.length c)):=by
 unfold F.f138
 rw[P.Yt _ hs]
 simp only[oE,oS]
 by_cases h1:ZF5 c.name
 ·rw[iP (dec_of h1)]
  by_cases h2:c.args.length<=3
  ·rw[iP h2,P.YD]
   simp only[oS]
   by_cases h3:0<=c.index/\c.index<=3
   ·rw[iP (dec_of h3)]
    unfold F.f137
    obtain⟨v,hv,hx⟩:=P.YAz w hw c.args
    rw[hv]
    simp only[oE,oS]
    by_cases hall:∀j,0<=j->(h:j<c.args.length)->ZBn w.length c.args[j]
    ·have:¬0<=v:=fun h=>(hx.1 h) hall
     rw[dec_of ⟨h1,h2,h3.1,h3.2,hall⟩];simp[this]
    ·have:0<=v:=hx.2 hall
     rw[ZB fun h=>hall h.2.2.2.2];simp[this]
   ·rw[iN (by rw[ZB h3];simp),ZB fun h=>h3 ⟨h.2.2.1,h.2.2.2.1⟩]
  ·rw[iN h2,ZB fun h=>h2 h.2.1]
 ·rw[iN (by rw[ZB h1];simp),ZB fun h=>h1 h.1]
abbrev ZAK (d:Data):List ByteArray:=d.ctors.map (·.name)
structure ctorAt (w:List Data)(i:Nat)(d:Data)(k:Nat)(c:Ctor):Prop where
 ok:ZEp w.length c
 new:c.name∉(w.take i).flatMap ZAK++(d.ctors.take k).map (·.name)
structure dataAt (w:List Data)(i:Nat)(d:Data):Prop where
 name:ZFP d.name
 new:d.name∉(w.take i).map (·.name)
 some:1<=d.ctors.length
 few:d.ctors.length<=4
 ctors:∀k,0<=k->k<d.ctors.length->∀h:k<d.ctors.length,ctorAt w i d k d.ctors[k]
def ZS (w:List Data):Prop:=w.length<=4/\∀i,0<=i->i<w.length->∀h:i<w.length,dataAt w i w[i]
def ZAg (w:List Data):Prop:=w.length<=1048576/\∀d,d∈w->∀c,c∈d.ctors->c.name.size<=1048576
theorem P.YN (w:List Data)(hw:ZAg w)(met4:List ByteArray)(i:Nat)(hi:i<w.length):xZ w met4 i w[i] ((w.take i).flatMap ZAK) 0=
  some (if dec (∀k,0<=k->k<w[i].ctors.length->∀h:k<w[i].ctors.length,ctorAt w i w[i] k w[i].ctors[k])=true then .go ((w.take i).flatMap ZAK++ZAK w[i])else .ret false):=by
 have key:=ZRS (n:=w[i].ctors.length) (r:=false) (p:=(w.take i).flatMap ZAK++ZAK w[i]) (Q:=fun k=>∀h:k<w[i].ctors.length,ctorAt w i w[i] k w[i].ctors[k]) (L:=fun k=>xZ w met4 i w[i] ((w.take i).flatMap ZAK++(w[i].ctors.take k).map (·.name)) k)
  (fun k hk=>by
   show xZ w met4 i w[i] ((w.take i).flatMap ZAK++(w[i].ctors.take k).map (·.name)) k=_
   rw[xZ,iN (by omega),zX hk])
  (fun k hk hq=>by
   show xZ w met4 i w[i] ((w.take i).flatMap ZAK++(w[i].ctors.take k).map (·.name)) k=xZ w met4 i w[i] ((w.take i).flatMap ZAK++(w[i].ctors.take (k+1)).map (·.name)) (k+1)
   have hc:=hq hk
   rw[xZ,iP hk,gQ hk]
   simp only[oE,oS]
   rw[P.Yh w _ hw.1 (hw.2 _ (gM hi) _ (gM hk))]
   simp only[oS]
   rw[iP (dec_of hc.ok),iN (by rw[ZB hc.new];simp),ZCR,iN (by rw[ZB hc.new];simp),ZCC hk,zY])
  (fun k hk hq=>by
   show xZ w met4 i w[i] ((w.take i).flatMap ZAK++(w[i].ctors.take k).map (·.name)) k=_
   rw[xZ,iP hk,gQ hk]
   simp only[oE,oS]
   rw[P.Yh w _ hw.1 (hw.2 _ (gM hi) _ (gM hk))]
   simp only[oS]
   by_cases h1:ZEp w.length w[i].ctors[k]
   ·rw[iP (dec_of h1),iP (dec_of ?_)]
    apply xV
    intro h2
    exact hq fun _=>⟨h1,h2⟩
   ·rw[iN (by rw[ZB h1];simp)]) _ 0 rfl
 simpa using key
theorem P.Yz (w:List Data)(hw:ZAg w):xY w [] [] 0=some (if dec (∀i,0<=i->i<w.length->∀h:i<w.length,dataAt w i w[i])=true then .go (w.flatMap ZAK,w.map (·.name))else .ret false):=by
 have key:=ZRS (n:=w.length) (r:=false) (p:=(w.flatMap ZAK,w.map (·.name))) (Q:=fun i=>∀h:i<w.length,dataAt w i w[i]) (L:=fun i=>xY w ((w.take i).flatMap ZAK) ((w.take i).map (·.name)) i)
  (fun i hi=>by
   show xY w ((w.take i).flatMap ZAK) ((w.take i).map (·.name)) i=_
   rw[xY,iN (by omega),zX hi])
  (fun i hi hq=>by
   show xY w ((w.take i).flatMap ZAK) ((w.take i).map (·.name)) i=xY w ((w.take (i+1)).flatMap ZAK) ((w.take (i+1)).map (·.name)) (i+1)
   have hd:=hq hi
   have hn:=hd.name
   have hbig:=hn.2.1
   unfold ZOu at hbig
   have:=hw.1
   rw[xY,iP hi,gQ hi]
   simp only[oE,oS]
   have:=hd.some;have:=hd.few
   rw[iP hn.1,iP (by have:=hn.1;omega),iN (by omega),iN (by omega),iN (fun h=>hn.2.2 (ZAL.1 h)),iN (by rw[ZB hd.new];simp),P.YD]
   simp only[oS]
   rw[iP (dec_of (by omega)),P.YN w hw _ i hi,iP (dec_of hd.ctors)]
   simp only[oS]
   rw[iP (by omega),ZCR,iN (by rw[ZB hd.new];simp),ZCC hi,ZCh hi])
  (fun i hi hq=>by
   show xY w ((w.take i).flatMap ZAK) ((w.take i).map (·.name)) i=_
   have:=hw.1
   rw[xY,iP hi,gQ hi]
   simp only[oE,oS]
   by_cases h1:w[i].name.size=1
   ·rw[iP h1,iP (by omega)]
    by_cases h2:byteAt w[i].name 0<65
    ·rw[iP h2]
    by_cases h3:90<byteAt w[i].name 0
    ·rw[iN h2,iP h3]
    by_cases h4:w[i].name.toList=(⟨#[73]⟩:ByteArray).toList
    ·rw[iN h2,iN h3,iP h4]
    by_cases h5:w[i].name∈(w.take i).map (·.name)
    ·rw[iN h2,iN h3,iN h4,iP (dec_of h5)]
    rw[iN h2,iN h3,iN h4,iN (by rw[ZB h5];simp),P.YD]
    simp only[oS]
    by_cases h6:1<=(w[i].ctors.length:Int)/\(w[i].ctors.length:Int)<=4
    ·rw[iP (dec_of h6),P.YN w hw _ i hi,iN (by
      rw[ZB fun hh=>hq fun _=>⟨⟨h1,⟨by omega,by omega⟩,fun e=>h4 (by rw[e])⟩,h5,by omega,by omega,hh⟩];simp)]
     rfl
    ·rw[iN (by rw[ZB h6];simp)]
   ·rw[iN h1]) _ 0 rfl
 simpa using key
theorem P.Ym (w:List Data)(hw:ZAg w):F.f141 w=some (dec (ZS w)):=by
 unfold F.f141
 by_cases h:4<w.length
 ·rw[iP h,ZB fun hh=>by have:=hh.1;omega]
 rw[iN h,P.Yz w hw]
 simp only[oE,oS]
 by_cases hall:∀i,0<=i->i<w.length->∀h:i<w.length,dataAt w i w[i]
 ·rw[iP (dec_of hall),dec_of ⟨by omega,hall⟩]
 ·rw[iN (by rw[ZB hall];simp),ZB fun hh=>hall hh.2]
theorem P.YAd (w:List Data)(hw:ZAg w)(d k i:Nat)(hd:d<w.length)(hk:k<w[d].ctors.length)(hi:i<d)(hl:w[d].ctors.length<=4)(hli:w[i].ctors.length<=4):vN w d k i 0=
  some (if dec (∀j,0<=j->j<w[i].ctors.length->∀h:j<w[i].ctors.length,w[i].ctors[j].name≠w[d].ctors[k].name)=true then .go ()else .ret true):=by
 have hi':i<w.length:=by omega
 refine ZIj (n:=w[i].ctors.length) (r:=true) (Q:=fun j=>∀h:j<w[i].ctors.length,w[i].ctors[j].name≠w[d].ctors[k].name) (L:=vN w d k i) (fun j hj=> ?_) (fun j hj hq=> ?_) (fun j hj hq=> ?_) _ 0 rfl
 ·rw[vN,gQ hi']
  simp only[oE,oS]
  rw[iN (by omega)]
 ·rw[vN,gQ hi']
  simp only[oE,oS]
  rw[iP hj,iP (by omega),ZCx hd]
  simp only[oS]
  rw[iP (by omega),gQ hj,ZCx hk]
  simp only[oS]
  rw[iN (fun h=>hq hj (ZAL.1 h)),iP (by omega)]
 ·rw[vN,gQ hi']
  simp only[oE,oS]
  rw[iP hj,iP (by omega),ZCx hd]
  simp only[oS]
  rw[iP (by omega),gQ hj,ZCx hk]
  simp only[oS]
  rw[iP (ZAL.2 (xV fun h=>hq fun _=>h))]
theorem P.YAc (w:List Data)(hw:ZAg w)(d k:Nat)(hd:d<w.length)(hk:k<w[d].ctors.length)(hl:w[d].ctors.length<=4):vM w d k d 0=
  some (if dec (∀j,0<=j->j<k->∀h:j<w[d].ctors.length,w[d].ctors[j].name≠w[d].ctors[k].name)=true then .go ()else .ret true):=by
 refine ZIj (n:=k) (r:=true) (Q:=fun j=>∀h:j<w[d].ctors.length,w[d].ctors[j].name≠w[d].ctors[k].name) (L:=vM w d k d) (fun j hj=> ?_) (fun j hj hq=> ?_) (fun j hj hq=> ?_) _ 0 rfl
 ·rw[vM,gQ hd]
  simp only[oE,oS]
  rcases Nat.lt_or_ge j w[d].ctors.length with h|h
  ·rw[iP h,iN (by omega),iN (by omega)]
  ·rw[iN (by omega)]
 ·have hj':j<w[d].ctors.length:=zP hj hk
  rw[vM,gQ hd]
  simp only[oE,oS]
  rw[iP hj',iN (by omega),iP (by omega),ZCx hd]
  simp only[oS]
  rw[iP (by omega),gQ hj',ZCx hk]
  simp only[oS]
  rw[iN (fun h=>hq hj' (ZAL.1 h)),iP (by omega)]
 ·have hj':j<w[d].ctors.length:=zP hj hk
  rw[vM,gQ hd]
  simp only[oE,oS]
  rw[iP hj',iN (by omega),iP (by omega),ZCx hd]
  simp only[oS]
  rw[iP (by omega),gQ hj',ZCx hk]
  simp only[oS]
  rw[iP (ZAL.2 (xV fun h=>hq fun _=>h))]
structure fresh (w:List Data)(d k i:Nat)(hd:d<w.length)(hk:k<w[d].ctors.length):Prop where
 data:i<d->∀h:i<w.length,w[i].name≠w[d].name
 ctor:i<d->∀h:i<w.length,∀j,0<=j->j<w[i].ctors.length->∀h:j<w[i].ctors.length,w[i].ctors[j].name≠w[d].ctors[k].name
 own:i=d->∀j,0<=j->j<k->∀h:j<w[d].ctors.length,w[d].ctors[j].name≠w[d].ctors[k].name
theorem P.YS (w:List Data)(hw:ZAg w)(d k:Nat)(hd:d<w.length)(hk:k<w[d].ctors.length)(hw4:w.length<=4)(hl:∀i,i<=d->∀h:i<w.length,w[i].ctors.length<=4):F.f47 w d k=some (!dec (∀i,0<=i->i<d+1->fresh w d k i hd hk)):=by
 unfold F.f47
 have key:vL w d k 0=some (if dec (∀i,0<=i->i<d+1->fresh w d k i hd hk)=true then .go ()else .ret true):=by
  refine ZIj (n:=d+1) (r:=true) (Q:=fun i=>fresh w d k i hd hk) (L:=vL w d k) (fun i hi=> ?_) (fun i hi hq=> ?_) (fun i hi hq=> ?_) _ 0 rfl
  ·rw[vL,iN (by omega)]
  ·rw[vL,iP (by omega)]
   by_cases h:i<d
   ·have hi':i<w.length:=by omega
    rw[iP (by omega),gQ hi',ZCx hd]
    simp only[oE,oS]
    rw[iN (fun e=>hq.data h hi' (ZAL.1 e)),P.YAd w hw d k i hd hk h (hl d (zA _) hd) (hl i (by omega) hi'),iP (dec_of (hq.ctor h hi'))]
    simp only[oS]
    rw[iP (by omega)]
   ·obtain rfl:i=d:=by omega
    rw[iN (by omega),P.YAc w hw i k hd hk (hl i (zA _) hd),iP (dec_of (hq.own rfl))]
    simp only[oE,oS]
    rw[iP (by omega)]
  ·rw[vL,iP (by omega)]
   by_cases h:i<d
   ·have hi':i<w.length:=by omega
    rw[iP (by omega),gQ hi',ZCx hd]
    simp only[oE,oS]
    by_cases hn:w[i].name=w[d].name
    ·rw[iP (ZAL.2 hn)]
    ·rw[iN (fun e=>hn (ZAL.1 e)),P.YAd w hw d k i hd hk h (hl d (zA _) hd) (hl i (by omega) hi'),iN (by rw[ZB fun hh=>hq ⟨fun _ _=>hn,fun _ _=>hh,fun e=>by omega⟩];simp)]
     rfl
   ·obtain rfl:i=d:=by omega
    rw[iN (by omega),P.YAc w hw i k hd hk (hl i (zA _) hd),iN (by rw[ZB fun hh=>hq ⟨fun e=>by omega,fun e=>by omega,fun _=>hh⟩];simp)]
    rfl
 rw[key]
 simp only[oE,oS]
 by_cases hall:∀i,0<=i->i<d+1->fresh w d k i hd hk
 ·rw[iP (dec_of hall),dec_of hall];rfl
 ·rw[iN (by rw[ZB hall];simp),ZB hall];rfl
theorem ZDz (w:List Data)(d k:Nat)(hd:d<w.length)(hk:k<w[d].ctors.length):(∀i,0<=i->i<d+1->fresh w d k i hd hk)↔w[d].name∉(w.take d).map (·.name)/\w[d].ctors[k].name∉(w.take d).flatMap ZAK++(w[d].ctors.take k).map (·.name):=by
 constructor
 ·intro h
  refine⟨fun hm=> ?_,fun hm=> ?_⟩
  ·obtain⟨x,hx,e⟩:=yE.1 hm
   obtain⟨i,hi,rfl⟩:=yK.1 hx
   exact(h i (by omega) (by omega)).data (by omega) (by omega) e
  ·rcases yH.1 hm with hm|hm
   ·obtain⟨x,hx,hc⟩:=yQ.1 hm
    obtain⟨i,hi,rfl⟩:=yK.1 hx
    obtain⟨c,hc,e⟩:=yE.1 hc
    obtain⟨j,hj,rfl⟩:=yF hc
    exact(h i (by omega) (by omega)).ctor (by omega) (by omega) j (by omega) hj hj e
   ·obtain⟨c,hc,e⟩:=yE.1 hm
    obtain⟨j,hj,rfl⟩:=yK.1 hc
    exact(h d (by omega) (by omega)).own rfl j (by omega) (by omega) (by omega) e
 ·rintro⟨h1,h2⟩ i _ hi
  refine⟨fun hid hiw e=>h1 (yE.2 ⟨w[i],yK.2 ⟨i,by omega,rfl⟩,e⟩),fun hid hiw j _ hj hj' e=>h2 (List.mem_append_left _ (yQ.2 ⟨w[i],yK.2 ⟨i,by omega,rfl⟩,yE.2 ⟨_,gM hj,e⟩⟩)),fun e j _ hj hj' e=>h2 (List.mem_append_right _ (yE.2 ⟨_,yK.2 ⟨j,by omega,rfl⟩,e⟩))⟩
theorem P.Yv (w:List Data)(hw:ZAg w)(d:Nat)(hd:d<w.length)(hw4:w.length<=4)(hl:∀i,i<=d->∀h:i<w.length,w[i].ctors.length<=4):vK w d 0=
  some (if dec (∀k,0<=k->k<w[d].ctors.length->∀h:k<w[d].ctors.length,w[d].name∉(w.take d).map (·.name)/\ctorAt w d w[d] k w[d].ctors[k])=true then .go ()else .ret false):=by
 have hl0:=hl d (zA _) hd
 refine ZIj (n:=w[d].ctors.length) (r:=false) (Q:=fun k=>∀h:k<w[d].ctors.length,w[d].name∉(w.take d).map (·.name)/\ctorAt w d w[d] k w[d].ctors[k]) (L:=vK w d) (fun k hk=> ?_) (fun k hk hq=> ?_) (fun k hk hq=> ?_) _ 0 rfl
 ·rw[vK,gQ hd]
  simp only[oE,oS]
  rw[iN (by omega)]
 ·obtain⟨h1,h2⟩:=hq hk
  rw[vK,gQ hd]
  simp only[oE,oS]
  rw[iP hk,gQ hk]
  simp only[oS]
  rw[P.Ye _ _ (hw.2 _ (gM hd) _ (gM hk))]
  simp only[oS]
  rw[iP (dec_of h2.ok),P.YS w hw d k hd hk hw4 hl]
  simp only[oS]
  rw[dec_of ((ZDz w d k hd hk).2 ⟨h1,h2.new⟩),iN (by simp),iP (by omega)]
 ·rw[vK,gQ hd]
  simp only[oE,oS]
  rw[iP hk,gQ hk]
  simp only[oS]
  rw[P.Ye _ _ (hw.2 _ (gM hd) _ (gM hk))]
  simp only[oS]
  by_cases h1:ZEp w.length w[d].ctors[k]
  ·rw[iP (dec_of h1),P.YS w hw d k hd hk hw4 hl]
   simp only[oS]
   rw[ZB fun hh=>hq fun _=>⟨((ZDz w d k hd hk).1 hh).1,⟨h1,((ZDz w d k hd hk).1 hh).2⟩⟩,iP (by simp)]
  ·rw[iN (by rw[ZB h1];simp)]
theorem P.Yl (w:List Data)(hw:ZAg w):F.f50 w=some (dec (ZS w)):=by
 unfold F.f50
 by_cases h4:4<w.length
 ·rw[iP h4,ZB fun hh=>by have:=hh.1;omega]
 rw[iN h4]
 -- the loop runs only on over types that are right
 have key:∀(m d:Nat),w.length-d=m->(∀i,i<d->∀h:i<w.length,w[i].ctors.length<=4)->kI w d=some (if dec (∀i,d<=i->i<w.length->∀h:i<w.length,dataAt w i w[i])=true then .go ()else .ret false):=by
  intro m
  induction m with
  |zero=>
   intro d hm hl
   rw[kI,iN (by omega),iP (dec_of fun i h1 h2=>by omega)]
  |succ m ih=>
   intro d hm hl
   have hd:d<w.length:=by omega
   rw[kI,iP hd,gQ hd]
   simp only[oE,oS]
   rw[P.YAg]
   simp only[oS]
   have no:¬dataAt w d w[d]->¬∀i,d<=i->i<w.length->∀h:i<w.length,dataAt w i w[i]:=fun h hh=>h (hh d (zA _) hd hd)
   by_cases h1:ZFP w[d].name
   ·rw[iP (dec_of h1)]
    by_cases h2:w[d].ctors.length=0
    ·rw[iP h2,iN (by rw[ZB (no fun h=>by have:=h.some;omega)];simp)]
    by_cases h3:4<w[d].ctors.length
    ·rw[iN h2,iP h3,iN (by rw[ZB (no fun h=>by have:=h.few;omega)];simp)]
    have hl':∀i,i<=d->∀h:i<w.length,w[i].ctors.length<=4:=fun i hi h=>by
     by_cases e:i=d
     ·subst e;omega
     ·exact hl i (by omega) h
    rw[iN h2,iN h3,P.Yv w hw d hd (by omega) hl']
    simp only[oS]
    by_cases hq:∀k,0<=k->k<w[d].ctors.length->∀h:k<w[d].ctors.length,w[d].name∉(w.take d).map (·.name)/\ctorAt w d w[d] k w[d].ctors[k]
    ·have hda:dataAt w d w[d]:=⟨h1,(hq 0 (by omega) (by omega) (by omega)).1,by omega,by omega,fun k a b c=>(hq k a b c).2⟩
     rw[iP (dec_of hq)]
     simp only
     rw[iP (by omega),ih (d+1) (by omega) fun i hi h=>hl' i (by omega) h]
     by_cases hall:∀i,d+1<=i->i<w.length->∀h:i<w.length,dataAt w i w[i]
     ·rw[iP (dec_of hall),iP (dec_of fun i a b c=> ?_)]
      by_cases e:i=d
      ·subst e;exact hda
      ·exact hall i (by omega) b c
     ·rw[iN (by rw[ZB hall];simp),iN (by rw[ZB fun hh=>hall fun i a b c=>hh i (by omega) b c];simp)]
    ·rw[iN (by rw[ZB hq];simp)]
     simp only
     rw[iN (by rw[ZB (no fun h=>hq fun k a b c=>⟨h.new,h.ctors k a b c⟩)];simp)]
   ·rw[iN (by rw[ZB h1];simp),iN (by rw[ZB (no fun h=>h1 h.name)];simp)]
 rw[key _ 0 rfl fun i hi=>by omega]
 simp only[oE,oS]
 by_cases hall:∀i,0<=i->i<w.length->∀h:i<w.length,dataAt w i w[i]
 ·rw[iP (dec_of hall),dec_of ⟨by omega,hall⟩]
 ·rw[iN (by rw[ZB hall];simp),ZB fun hh=>hall hh.2]
def ZAA (w:List Data)(t:Ty):Prop:=ZBn w.length t/\0<=t.index
theorem P.YBF (w:List Data)(t:Ty):F.f51 w t=some (dec (ZAA w t)):=by
 unfold F.f51
 rw[P.YQ]
 simp only[oE,oS]
 by_cases h:ZBn w.length t
 ·rw[iP (dec_of h),←ZAJ];congr 1;exact ZJ ⟨fun h'=>⟨h,h'⟩,fun h'=>h'.2⟩
 ·rw[iN (by rw[ZB h];simp),ZB fun h'=>h h'.1]
theorem P.YAh (w:List Data)(t:Ty)(hw:w.length<=1048576):F.f142 w t=some (dec (ZAA w t)):=by
 unfold F.f142
 by_cases h:eq2 (t.data,t.index) (-1,0)
 ·rw[iP (dec_of h),dec_of ⟨.inl h,by have:=h.2;simp at this;omega⟩]
 rw[iN (by rw[ZB h];simp),P.YD,ZD (by omega) (by omega)]
 simp only[oE,oS]
 by_cases h1:0<=t.data/\t.data<=(w.length:Int) -1
 ·rw[iP (dec_of h1),P.YD]
  simp only[oS]
  congr 1;exact ZJ ⟨fun h'=>⟨.inr ⟨h1.1,by omega,by omega,h'.2⟩,h'.1⟩,fun h'=>h'.1.elim (fun h'=>absurd h' h) (fun h2=>⟨h'.2,h2.2.2.2⟩)⟩
 ·rw[iN (by rw[ZB h1];simp),ZB fun h'=>h'.1.elim (fun h'=>h h') (fun h'=>h1 ⟨h'.1,by have:=h'.2.1;omega⟩)]
def ZAf (w:List Data)(t:Ty):Prop:=ZS w/\ZAA w t
theorem P.Yp (w:List Data)(t:Ty)(hw:ZAg w):F.f52 w t=some (dec (ZAf w t)):=by
 unfold F.f52
 rw[P.Yl w hw]
 simp only[oE,oS]
 by_cases h:ZS w
 ·rw[iP (dec_of h),P.YBF]
  simp only[oS]
  congr 1;exact ZJ ⟨fun h'=>⟨h,h'⟩,fun h'=>h'.2⟩
 ·rw[iN (by rw[ZB h];simp),ZB fun h'=>h h'.1]
theorem P.Ys (w:List Data)(t:Ty)(hw:ZAg w):F.f143 w t=some (dec (ZAf w t)):=by
 unfold F.f143
 rw[P.Ym w hw]
 simp only[oE,oS]
 by_cases h:ZS w
 ·rw[iP (dec_of h),P.YAh w t hw.1]
  simp only[oS]
  congr 1;exact ZJ ⟨fun h'=>⟨h,h'⟩,fun h'=>h'.2⟩
 ·rw[iN (by rw[ZB h];simp),ZB fun h'=>h h'.1]
variable {w:List Data}
theorem ZJ7 (h:wtL Data.wt w<=1048576):ZAg w:=by
 refine⟨by have:=ZAG Data.wt w;omega,fun d hd c hc=> ?_⟩
 have h1:=Zb Data.wt hd
 have h2:=Zb Ctor.wt hc
 have e1:d.wt=d.name.size+wtL Ctor.wt d.ctors:=rfl
 have e2:c.wt=c.name.size+wtL Ty.wt c.args:=rfl
 omega
def tOk (w:List Data)(t:Ty):Prop:=t.data= -1∨(0<=t.data/\t.data<w.length)
variable {t:Ty}
theorem ZCE (h:ZBn w.length t):tOk w t:=h.elim (fun h=>.inl h.1) (fun h=>.inr ⟨h.1,h.2.1⟩)
def ZOt (i:Int)(c:Ctor):Prop:=i=0∨c.index=0∨c.index=i
noncomputable def ZJt (i:Int):Nat->List Ctor->List Int
 |_,[]=>[]
 |k,c::r=>(if dec (ZOt i c)=true then[(k:Int)]else[])++ZJt i (k+1) r
theorem ZIH (i:Int){x:Int}:∀{k:Nat} {l:List Ctor},x∈ZJt i k l->(k:Int)<=x/\x<k+l.length
 |_,[],h=>by simp[ZJt]at h
 |k,c::r,h=>by
  unfold ZJt at h
  rcases yH.1 h with h|h
  ·split at h
   ·simp at h;subst h;simp;omega
   ·simp at h
  ·have:=ZIH i h
   simp;omega
def Za (w:List Data)(t:Ty):Data:=w.getD t.data.toNat Data.z
noncomputable def ZY (w:List Data)(t:Ty):List Int:=if t.data= -1 then[]else ZJt t.index 0 (Za w t).ctors
def Zi (w:List Data)(t:Ty)(c:Int):Ctor:=(Za w t).ctors.getD c.toNat Ctor.z
def ZDE (t:Ty)(c:Ctor)(a:Ty):Ty:=if a.index= -1 then⟨a.data,if c.index=0 then t.index else c.index⟩else a
def ZP (w:List Data)(t:Ty)(c:Int):List Ty:=(Zi w t c).args.map (ZDE t (Zi w t c))
theorem ZCy (h:tOk w t)(hn:t.data≠-1):at? w t.data=some (Za w t)/\Za w t∈w/\∃h:t.data.toNat<w.length,Za w t=w[t.data.toNat]:=by
 obtain⟨h1,h2⟩:=h.resolve_left hn
 have hlt:t.data.toNat<w.length:=by omega
 unfold at? Za
 rw[iP h1,gQ hlt,xK,gQ hlt]
 exact⟨rfl,gM hlt,hlt,rfl⟩
theorem ZAO (hw:ZS w)(h:tOk w t)(hn:t.data≠-1):(Za w t).ctors.length<=4/\∀c,c∈(Za w t).ctors->ZEp w.length c:=by
 obtain⟨_,_,hlt,e⟩:=ZCy h hn
 have hd:=hw.2 t.data.toNat (by omega) hlt hlt
 rw[e]
 refine⟨hd.few,fun c hc=> ?_⟩
 obtain⟨k,hk,rfl⟩:=yF hc
 exact(hd.ctors k (by omega) hk hk).ok
theorem P.Yy (w:List Data)(hw:ZS w)(t:Ty)(h:tOk w t)(hn:t.data≠-1):∀(m k:Nat) (out:List Int),(Za w t).ctors.length-k=m->out.length<=k->k<=(Za w t).ctors.length->
  kH w t out k=some (out++ZJt t.index k ((Za w t).ctors.drop k)):=by
 have h4:=(ZAO hw h hn).1
 intro m
 induction m with
 |zero=>
  intro k out hm ho hk
  rw[kH,(ZCy h hn).1]
  simp only[oE,oS]
  rw[iN (by omega),zT (by omega)];simp[ZJt]
 |succ m ih=>
  intro k out hm ho hk
  have hlt:k<(Za w t).ctors.length:=by omega
  rw[kH,(ZCy h hn).1]
  simp only[oE,oS]
  rw[iP hlt,gQ hlt,zS hlt]
  simp only[oS,ZJt]
  have hf:F.f53 (Za w t).ctors[k] t.index=some (dec (ZOt t.index (Za w t).ctors[k])):=by
   unfold F.f53
   by_cases h1:(Za w t).ctors[k].index=0
   ·rw[iP h1,dec_of (.inr (.inl h1))]
   ·by_cases h2:t.index=0
    ·rw[iN h1,iP h2,dec_of (.inl h2)]
    ·rw[iN h1,iN h2,←ZAJ];congr 1;exact ZJ ⟨fun h=>.inr (.inr h),fun h=>h.elim (fun h=>absurd h h2) (fun h=>h.elim (fun h=>absurd h h1) id)⟩
  rw[hf]
  simp only[oS]
  by_cases hfit:ZOt t.index (Za w t).ctors[k]
  ·rw[iP (dec_of hfit),iP (by omega),iP (by omega),ih (k+1) _ (by omega) (by simp;omega) (by omega),iP (dec_of hfit)];simp
  ·rw[iN (by rw[ZB hfit];simp),iP (by omega),ih (k+1) _ (by omega) (by omega) (by omega),iN (by rw[ZB hfit];simp)];simp
theorem P.YT (w:List Data)(hw:ZS w)(t:Ty)(h:tOk w t):F.f55 w t=some (ZY w t):=by
 unfold F.f55 ZY
 by_cases hn:t.data= -1
 ·rw[iP hn,iP hn]
 ·rw[iN hn,iN hn,P.Yy w hw t h hn _ 0 [] rfl (by simp) (by omega)];simp
theorem P.YAC (w:List Data)(hw:ZS w)(t:Ty)(h:tOk w t)(hn:t.data≠-1):∀(m k:Nat) (out:List Int),(Za w t).ctors.length-k=m->out.length<=k->k<=(Za w t).ctors.length->
  vX t (Za w t) k out=some (out++ZJt t.index k ((Za w t).ctors.drop k)):=by
 have h4:=(ZAO hw h hn).1
 intro m
 induction m with
 |zero=>
  intro k out hm ho hk
  rw[vX,iN (by omega),zT (by omega)];simp[ZJt]
 |succ m ih=>
  intro k out hm ho hk
  have hlt:k<(Za w t).ctors.length:=by omega
  rw[vX,iP hlt,gQ hlt,zS hlt]
  simp only[oE,oS,ZJt]
  have yes:ZOt t.index (Za w t).ctors[k]->(if out.length+1<=67108864 then vX t (Za w t) (k+1) (out++[(k:Int)])else none)=
    some (out++((if dec (ZOt t.index (Za w t).ctors[k])=true then[(k:Int)]else[])++ZJt t.index (k+1) ((Za w t).ctors.drop (k+1)))):=by
   intro hfit
   rw[iP (by omega),ih (k+1) _ (by omega) (by simp;omega) (by omega),iP (dec_of hfit)];simp
  by_cases h1:t.index=0
  ·rw[iP h1];exact yes (.inl h1)
  by_cases h2:(Za w t).ctors[k].index=0
  ·rw[iN h1,iP h2];exact yes (.inr (.inl h2))
  by_cases h3:(Za w t).ctors[k].index=t.index
  ·rw[iN h1,iN h2,iP h3];exact yes (.inr (.inr h3))
  ·have hfit:¬ZOt t.index (Za w t).ctors[k]:=fun h=>h.elim h1 (fun h=>h.elim h2 h3)
   rw[iN h1,iN h2,iN h3,ih (k+1) _ (by omega) (by omega) (by omega),iN (by rw[ZB hfit];simp)];simp
theorem P.YV (w:List Data)(hw:ZS w)(t:Ty)(h:tOk w t):uU w t=some (ZY w t):=by
 unfold uU ZY
 by_cases hn:t.data= -1
 ·rw[iP hn,iP hn]
 ·rw[iN hn,iN hn,(ZCy h hn).1]
  simp only[oE,oS]
  rw[P.YAC w hw t h hn _ 0 [] rfl (by simp) (by omega)];simp
variable {c:Int}
theorem Zj (h:c∈ZY w t):t.data≠-1/\0<=c/\c<(Za w t).ctors.length:=by
 unfold ZY at h
 split at h
 ·cases h
 ·next hn=>
  have:=ZIH t.index h
  exact⟨hn,by omega,by omega⟩
theorem ZCz (h:c∈ZY w t):at? (Za w t).ctors c=some (Zi w t c)/\Zi w t c∈(Za w t).ctors:=by
 obtain⟨_,h1,h2⟩:=Zj h
 have hlt:c.toNat<(Za w t).ctors.length:=by omega
 unfold at? Zi
 rw[iP h1,gQ hlt,xK,gQ hlt]
 exact⟨rfl,gM hlt⟩
theorem ZHz (hw:ZS w)(ht:tOk w t)(h:c∈ZY w t):(ZP w t c).length<=3/\∀a,a∈ZP w t c->tOk w a:=by
 have hc:=(ZAO hw ht (Zj h).1).2 _ (ZCz h).2
 refine⟨by unfold ZP;rw[yJ];exact hc.2.1,fun a ha=> ?_⟩
 obtain⟨b,hb,rfl⟩:=yE.1 ha
 obtain⟨j,hj,rfl⟩:=yF hb
 have:=ZCE (hc.2.2.2.2 j (by omega) hj)
 unfold ZDE
 split
 ·exact this
 ·exact this
theorem P.Yf (w:List Data)(hw:ZS w)(t:Ty)(ht:tOk w t)(c:Int)(h:c∈ZY w t):F.f61 w t c=some (ZP w t c):=by
 have hc:=(ZAO hw ht (Zj h).1).2 _ (ZCz h).2
 unfold F.f61
 rw[(ZCy ht (Zj h).1).1]
 simp only[oE,oS]
 rw[(ZCz h).1]
 simp only[oS]
 rw[ZFW (L:=F.f60 t (Zi w t c)) (a:=(Zi w t c).args) (g:=ZDE t (Zi w t c)) (f:=fun a=>some (ZDE t (Zi w t c) a)) (fun out i=> ?_) (fun _ _=>rfl) _ 0 [] rfl (by have:=hc.2.1;simp;omega)]
 ·simp[ZP]
 ·rw[F.f60]
  split
  ·cases(Zi w t c).args[i]? with
   |none=>rfl
   |some a=>
    simp only[oE,oS,F.f59,ZDE]
    split
    ·split<;>simp
    ·simp
  ·rfl
theorem P.YO (w:List Data)(hw:ZS w)(t:Ty)(ht:tOk w t)(c:Int)(h:c∈ZY w t):uP w t c=some (ZP w t c):=by
 have hc:=(ZAO hw ht (Zj h).1).2 _ (ZCz h).2
 unfold uP
 rw[(ZCy ht (Zj h).1).1]
 simp only[oE,oS]
 rw[(ZCz h).1]
 simp only[oS]
 by_cases h0:(Zi w t c).index=0
 ·rw[iP h0,ZFW (L:=fun out i=>uR t (Zi w t c) i out) (a:=(Zi w t c).args) (g:=ZDE t (Zi w t c)) (f:=fun a=>some (ZDE t (Zi w t c) a)) (fun out i=> ?_) (fun _ _=>rfl) _ 0 [] rfl (by have:=hc.2.1;simp;omega)]
  ·simp[ZP]
  ·show uR t (Zi w t c) i out=_
   rw[uR]
   split
   ·cases(Zi w t c).args[i]? with
    |none=>rfl
    |some a=>
     simp only[oE,oS,ZDE]
     split
     ·first|rfl|rw[iP h0]
     ·rfl
   ·rfl
 ·rw[iN h0,ZFW (L:=fun out i=>uQ (Zi w t c) i out) (a:=(Zi w t c).args) (g:=ZDE t (Zi w t c)) (f:=fun a=>some (ZDE t (Zi w t c) a)) (fun out i=> ?_) (fun _ _=>rfl) _ 0 [] rfl (by have:=hc.2.1;simp;omega)]
  ·simp[ZP]
  ·show uQ (Zi w t c) i out=_
   rw[uQ]
   split
   ·cases(Zi w t c).args[i]? with
    |none=>rfl
    |some a=>
     simp only[oE,oS,ZDE]
     split
     ·first|rfl|rw[iN h0]
     ·rfl
   ·rfl
theorem P.Yn (l:List Int)(n:Int):F.f57 l n=some (dec (n∈l)):=by
 unfold F.f57
 rw[ZIj (n:=l.length) (r:=true) (Q:=fun j=>∀h:j<l.length,l[j]≠n) (L:=uI l n) (fun k hk=>by rw[uI,iN (by omega)])
  (fun k hk hq=>by
   rw[uI,iP hk,gQ hk]
   simp only[oE,oS]
   rw[iN (hq hk)])
  (fun k hk hq=>by
   rw[uI,iP hk,gQ hk]
   simp only[oE,oS]
   rw[iP (xV fun h=>hq fun _=>h)]) _ 0 rfl]
 simp only[oE,oS]
 by_cases hm:n∈l
 ·obtain⟨j,hj,e⟩:=yF hm
  rw[iN (by rw[ZB fun hh=>hh j (by omega) hj hj e];simp),dec_of hm]
 ·rw[iP (dec_of fun j _ hj h e=>hm (by rw[←e];exact gM h)),ZB hm]
theorem P.YE (l:List Int)(n:Int):uS l n=some (dec (n∈l)):=by
 unfold uS F.f149
 have key:∀(m k:Nat),l.length-k=m->∃r,uT l n k=some r/\match r with| .ret j=>0<=j/\n∈l| .go _=>∀j,k<=j->∀h:j<l.length,l[j]≠n:=by
  intro m
  induction m with
  |zero=>intro k hm;rw[uT,iN (by omega)];exact⟨_,rfl,fun j h1 h2=>by omega⟩
  |succ m ih=>
   intro k hm
   have hk:k<l.length:=by omega
   rw[uT,iP hk,gQ hk]
   simp only[oE,oS]
   by_cases h:n=l[k]
   ·rw[iP h];exact⟨_,rfl,by omega,h▸gM hk⟩
   ·rw[iN h]
    obtain⟨r,hr,hx⟩:=ih (k+1) (by omega)
    refine⟨r,hr,?_⟩
    cases r with
    |ret j=>exact hx
    |go _=>
     intro j hj hl
     by_cases e:k=j
     ·subst e;exact fun e=>h e.symm
     ·exact hx j (by omega) hl
 obtain⟨r,hr,hx⟩:=key _ 0 rfl
 rw[hr]
 cases r with
 |ret j=>
  simp only[oE,oS]
  rw[dec_of hx.2];simp[hx.1]
 |go _=>
  simp only[oE,oS]
  rw[ZB fun hm=>by obtain⟨j,hj,e⟩:=yF hm;exact hx j (by omega) hj e];simp
def pv (w:List Data)(holes:Bool):Nat->Ty->Value->Prop
 |0,_,_=>False
 |d+1,t,v=>(holes=true/\v.ctor= -2/\v.n=0/\v.kids.length=0)∨(¬(holes=true/\v.ctor= -2)/\
   ((t.data= -1/\v.ctor= -1/\0<=v.n/\v.n<=9/\v.kids.length=0)∨
   (t.data≠-1/\v.n=0/\v.ctor∈ZY w t/\v.kids.length=(ZP w t v.ctor).length/\
    ∀i,0<=i->i<(ZP w t v.ctor).length->∀(h:i<(ZP w t v.ctor).length) (h':i<v.kids.length),pv w holes d (ZP w t v.ctor)[i] v.kids[i])))
theorem P.YI (w:List Data)(hw:ZS w):∀(d:Nat) (t:Ty) (v:Value),tOk w t->d<=10->uX w t v d=some (dec (pv w false d t v))
 |0,t,v,ht,hd=>by
  rw[uX,iP (by omega),ZB (by simp[pv])]
 |d+1,t,v,ht,hd=>by
  rw[uX,iN (by omega)]
  by_cases h1:t.data= -1
  ·rw[iP h1]
   by_cases a1:v.ctor= -1
   ·by_cases a2:0<=v.n
    ·by_cases a3:v.n<=9
     ·rw[iP a1,iP a2,iP a3,←ZAJ];congr 1
      exact ZJ ⟨fun h=>.inr ⟨by simp,.inl ⟨h1,a1,a2,a3,h⟩⟩,fun h=>h.elim (fun h=>by simp at h) (fun h=>h.2.elim (fun h=>h.2.2.2.2) (fun h=>absurd h1 h.1))⟩
     ·rw[iP a1,iP a2,iN a3,ZB fun h=>h.elim (fun h=>by simp at h) (fun h=>h.2.elim (fun h=>a3 h.2.2.2.1) (fun h=>h.1 h1))]
    ·rw[iP a1,iN a2,ZB fun h=>h.elim (fun h=>by simp at h) (fun h=>h.2.elim (fun h=>a2 h.2.2.1) (fun h=>h.1 h1))]
   ·rw[iN a1,ZB fun h=>h.elim (fun h=>by simp at h) (fun h=>h.2.elim (fun h=>a1 h.2.1) (fun h=>h.1 h1))]
  rw[iN h1]
  by_cases h2:v.n=0
  ·rw[iP h2,P.YT w hw t ht]
   simp only[oE,oS]
   rw[P.Yn]
   simp only[oS]
   by_cases h3:v.ctor∈ZY w t
   ·rw[iP (dec_of h3),P.Yf w hw t ht _ h3]
    simp only[oS]
    by_cases h4:v.kids.length=(ZP w t v.ctor).length
    ·rw[iP h4,ZIj (n:=(ZP w t v.ctor).length) (r:=false) (Q:=fun i=>∀(h:i<(ZP w t v.ctor).length) (h':i<v.kids.length),pv w false d (ZP w t v.ctor)[i] v.kids[i]) (L:=vZ w v ((d+1:Nat):Int) (ZP w t v.ctor))
      (fun k hk=>by rw[vZ,iN (by omega)])
      (fun k hk hq=>by
       have hk':k<v.kids.length:=by rw[h4];exact hk
       rw[vZ,iP hk,gQ hk,gQ hk']
       simp only[oE,oS]
       rw[ZD (by omega) (by omega),show((d+1:Nat):Int) -1=(d:Int)from by omega,P.YI w hw d _ _ ((ZHz hw ht h3).2 _ (gM hk)) (by omega)]
       simp only[oS]
       rw[iP (dec_of (hq hk hk'))])
      (fun k hk hq=>by
       have hk':k<v.kids.length:=by rw[h4];exact hk
       rw[vZ,iP hk,gQ hk,gQ hk']
       simp only[oE,oS]
       rw[ZD (by omega) (by omega),show((d+1:Nat):Int) -1=(d:Int)from by omega,P.YI w hw d _ _ ((ZHz hw ht h3).2 _ (gM hk)) (by omega)]
       simp only[oS]
       rw[iN (by rw[ZB fun h=>hq fun _ _=>h];simp)]) _ 0 rfl]
     simp only[oS]
     by_cases hall:∀i,0<=i->i<(ZP w t v.ctor).length->∀(h:i<(ZP w t v.ctor).length) (h':i<v.kids.length),pv w false d (ZP w t v.ctor)[i] v.kids[i]
     ·rw[iP (dec_of hall),dec_of (.inr ⟨by simp,.inr ⟨h1,h2,h3,h4,hall⟩⟩)]
     ·rw[iN (by rw[ZB hall];simp),ZB fun h=>h.elim (fun h=>by simp at h) (fun h=>h.2.elim (fun h=>h1 h.1) (fun h=>hall h.2.2.2.2))]
    ·rw[iN h4,ZB fun h=>h.elim (fun h=>by simp at h) (fun h=>h.2.elim (fun h=>h1 h.1) (fun h=>h4 h.2.2.2.1))]
   ·rw[iN (by rw[ZB h3];simp),ZB fun h=>h.elim (fun h=>by simp at h) (fun h=>h.2.elim (fun h=>h1 h.1) (fun h=>h3 h.2.2.1))]
  ·rw[iN h2,ZB fun h=>h.elim (fun h=>by simp at h) (fun h=>h.2.elim (fun h=>h1 h.1) (fun h=>h2 h.2.1))]
theorem P.YAo (v:Value)(hv:v.wt<=1048576):∀(most:Nat),most<=60->∃c:Nat,F.f111 v most=some (c:Int)/\1<=c/\c<=1+v.wt/\(1+v.wt<=most->c=1+v.wt)/\(most<1+v.wt->most<c):=by
 induction v using Value.ind with
 |_ v ih=>
  intro most hm
  have hw:=v.wt_eq
  have key:∀(m i:Nat) (n:Nat),v.kids.length-i=m->1<=n->n+((v.kids.drop i).map fun k=>1+k.wt).sum<=1+v.wt->
    ∃c:Nat,vY v most n i=some (c:Int)/\n<=c/\c<=n+((v.kids.drop i).map fun k=>1+k.wt).sum/\(n+((v.kids.drop i).map fun k=>1+k.wt).sum<=most->c=n+((v.kids.drop i).map fun k=>1+k.wt).sum)/\(most<n+((v.kids.drop i).map fun k=>1+k.wt).sum->most<c):=by
   intro m
   induction m with
   |zero=>
    intro i n hmi hn hb
    rw[vY,iN (by omega),zT (by omega)]
    exact⟨n,rfl,by omega,by simp,by simp,by simp⟩
   |succ m ih2=>
    intro i n hmi hn hb
    have hi:i<v.kids.length:=by omega
    rw[zS hi]at hb ⊢
    simp only[zW,yV]at hb ⊢
    rw[vY,iP hi]
    by_cases hle:n<=most
    ·rw[iP (by omega),gQ hi]
     simp only[oE,oS]
     have hk:v.kids[i].wt<=1048576:=by omega
     obtain⟨c,h1,h2,h3,h4,h5⟩:=ih v.kids[i] (gM hi) hk (most-n) (by omega)
     rw[ZD (by omega) (by omega),show((most:Int) - (n:Int))=((most-n:Nat):Int)from by omega,h1]
     simp only[oS]
     rw[ZD (by omega) (by omega),show((n:Int)+(c:Int))=((n+c:Nat):Int)from by omega]
     obtain⟨c',g1,g2,g3,g4,g5⟩:=ih2 (i+1) (n+c) (by omega) (by omega) (by omega)
     refine⟨c',g1,by omega,by omega,fun h=> ?_,fun h=> ?_⟩
     ·have:=h4 (by omega)
      have:=g4 (by omega)
      omega
     ·by_cases hx:1+v.kids[i].wt<=most-n
      ·have:=h4 hx
       exact g5 (by omega)
      ·have:=h5 (by omega)
       omega
    ·rw[iN (by omega)]
     exact⟨n,rfl,by omega,by omega,fun h=>by omega,fun h=>by omega⟩
  have hs:((v.kids.drop 0).map fun k=>1+k.wt).sum=v.wt:=by
   rw[zV,hw]
   have:∀l:List Value,(l.map fun k=>1+k.wt).sum=wtL Value.wt l:=by
    intro l
    induction l with
    |nil=>rfl
    |cons a r ih=>simp[ih]
   exact this _
  obtain⟨c,h1,h2,h3,h4,h5⟩:=key _ 0 1 rfl (by omega) (by omega)
  rw[hs]at h3 h4 h5
  unfold F.f111
  have h1':vY v most 1 0=some (c:Int):=h1
  rw[h1']
  exact⟨c,rfl,by omega,h3,h4,h5⟩
theorem ZM6 (v:Value):v.wt=((v.kids.drop 0).map fun k=>1+k.wt).sum:=by
 rw[zV,v.wt_eq]
 have:∀l:List Value,(l.map fun k=>1+k.wt).sum=wtL Value.wt l:=by
  intro l
  induction l with
  |nil=>rfl
  |cons a r ih=>simp[ih]
 exact(this _).symm
def ZCi (w:List Data)(holes:Bool)(d:Nat)(t:Ty)(v:Value)(count:Nat)(b:Bool)(c:Nat):Prop:=
 (b=true↔pv w holes d t v/\count+(1+v.wt)<=60)/\(b=true->c=count+(1+v.wt))
theorem P.YBG (w:List Data)(hw:ZS w)(holes:Bool)(d:Nat)(hd:d+1<=10)(v:Value)(args:List Ty)(hl:args.length=v.kids.length)(hargs:∀a,a∈args->tOk w a)
  (L:Int->Nat->Option (Lo (Bool×Int) Int))
  (hL:∀z i,L z i=if i<v.kids.length then v.kids[i]? >>=fun x=>args[i]? >>=fun y=>vD w y x (i64.wrap (((11- (d+1):Nat):Int)+1)) holes z>>=fun r=>if r.1=true then L r.2 (i+1)else some (.ret (false,r.2))else some (.go z))
  (ih:∀(t:Ty) (x:Value) (count:Nat),tOk w t->count<=60->∃b c,vD w t x ((11-d:Nat):Int) holes (count:Int)=some (b,((c:Nat):Int))/\ZCi w holes d t x count b c):
  ∀(m i:Nat) (z:Nat),v.kids.length-i=m->z<=60->∃o,L z i=some o/\
   match o with
   | .ret (b,c)=>b=false/\∃c':Nat,c=(c':Int)/\¬((∀j,i<=j->j<args.length->∀(h:j<args.length) (h':j<v.kids.length),pv w holes d args[j] v.kids[j])/\z+((v.kids.drop i).map fun k=>1+k.wt).sum<=60)
   | .go c=>c=((z+((v.kids.drop i).map fun k=>1+k.wt).sum:Nat):Int)/\(∀j,i<=j->j<args.length->∀(h:j<args.length) (h':j<v.kids.length),pv w holes d args[j] v.kids[j])/\z+((v.kids.drop i).map fun k=>1+k.wt).sum<=60:=by
 intro m
 induction m with
 |zero=>
  intro i z hm hz
  rw[hL,iN (by omega)]
  refine⟨_,rfl,?_⟩
  rw[zT (by omega)]
  exact⟨by simp,fun j h1 h2=>by omega,by simpa using hz⟩
 |succ m ihm=>
  intro i z hm hz
  have hi:i<v.kids.length:=by omega
  have hi':i<args.length:=by omega
  rw[hL,iP hi,gQ hi,gQ hi',zS hi]
  simp only[oE,oS,zW,yV]
  rw[ZD (by omega) (by omega),show(((11- (d+1):Nat):Int)+1)=((11-d:Nat):Int)from by omega]
  obtain⟨b,c,h1,h2,h3⟩:=ih args[i] v.kids[i] z (hargs _ (gM hi')) hz
  rw[h1]
  simp only[oS]
  cases b with
  |true=>
   rw[iP rfl]
   have hc:=h3 rfl
   obtain⟨hp,hle⟩:=h2.1 rfl
   obtain⟨o,g1,g2⟩:=ihm (i+1) c (by omega) (by omega)
   refine⟨o,g1,?_⟩
   cases o with
   |ret r=>
    obtain⟨b',c'⟩:=r
    obtain⟨q1,c2,q2,q3⟩:=g2
    exact⟨q1,c2,q2,fun hh=>q3 ⟨fun j a b e f=>hh.1 j (by omega) b e f,by omega⟩⟩
   |go r=>
    obtain⟨q1,q2,q3⟩:=g2
    refine⟨by rw[q1];congr 1;omega,fun j a b e f=> ?_,by omega⟩
    by_cases hj:i=j
    ·subst hj;exact hp
    ·exact q2 j (by omega) b e f
  |false=>
   rw[iN (by simp)]
   refine⟨_,rfl,rfl,c,rfl,fun hh=> ?_⟩
   have:=h2.2 ⟨hh.1 i (zA _) hi' hi' hi,by omega⟩
   cases this
theorem P.YAF (w:List Data)(hw:ZS w)(holes:Bool):∀(d:Nat) (t:Ty) (v:Value) (count:Nat),d<=10->tOk w t->count<=60->
  ∃b c,vD w t v ((11-d:Nat):Int) holes (count:Int)=some (b,((c:Nat):Int))/\ZCi w holes d t v count b c
 |d,t,v,count,hd,ht,hc=>by
  have e1:i64.wrap ((count:Int)+1)=((count+1:Nat):Int):=by rw[ZD (by omega) (by omega)];omega
  have no:∀(h:¬(pv w holes d t v/\count+(1+v.wt)<=60)),∃b c,(some (false,((count+1:Nat):Int)):Option (Bool×Int))=some (b,((c:Nat):Int))/\ZCi w holes d t v count b c:=
   fun h=>⟨false,count+1,rfl,⟨fun h=>(by cases h),fun hh=>absurd hh h⟩,fun h=>by cases h⟩
  rw[vD,e1]
  by_cases h60:60<((count+1:Nat):Int)
  ·rw[iP h60];exact no fun h=>by omega
  rw[iN h60]
  match d,hd with
  |0,_=>
   rw[iP (by omega)]
   exact no fun h=>h.1.elim
  |d+1,hd=>
   rw[iN (by omega)]
   -- a value without kids
   have leaf:v.kids.length=0->v.wt=0:=by
    intro h
    rw[v.wt_eq,List.length_eq_zero_iff.1 h];rfl
   have yes:∀(p:Prop) [Decidable p],(p->pv w holes (d+1) t v/\v.wt=0)->(pv w holes (d+1) t v->p)->
     ∃b c,(some (decide p,((count+1:Nat):Int)):Option (Bool×Int))=some (b,((c:Nat):Int))/\ZCi w holes (d+1) t v count b c:=by
    intro p _ h1 h2
    refine⟨decide p,count+1,rfl,⟨fun h=> ?_,fun h=>by simpa using h2 h.1⟩,fun h=> ?_⟩
    ·have:=h1 (by simpa using h);exact⟨this.1,by omega⟩
    ·have:=h1 (by simpa using h);omega
   have ints:t.data= -1->¬(holes=true/\v.ctor= -2)->
     ∃b c,(if v.ctor= -1 then(uW v.n 0 9)>>=fun r=>if r=true then some (decide (v.kids.length=0),((count+1:Nat):Int))else some (false,((count+1:Nat):Int))else some (false,((count+1:Nat):Int)))=some (b,((c:Nat):Int))/\ZCi w holes (d+1) t v count b c:=by
    intro h1 hno
    by_cases a1:v.ctor= -1
    ·rw[iP a1,P.YD]
     simp only[oE,oS]
     by_cases a2:0<=v.n/\v.n<=9
     ·rw[iP (dec_of a2)]
      exact yes _ (fun h=>⟨.inr ⟨hno,.inl ⟨h1,a1,a2.1,a2.2,h⟩⟩,leaf h⟩) (fun h=>h.elim (fun h=>h.2.2.2) (fun h=>h.2.elim (fun h=>h.2.2.2.2) (fun h=>absurd h1 h.1)))
     ·rw[iN (by rw[ZB a2];simp)]
      exact no fun h=>h.1.elim (fun h=>hno ⟨h.1,h.2.1⟩) (fun h=>h.2.elim (fun h=>a2 ⟨h.2.2.1,h.2.2.2.1⟩) (fun h=>h.1 h1))
    ·rw[iN a1]
     exact no fun h=>h.1.elim (fun h=>hno ⟨h.1,h.2.1⟩) (fun h=>h.2.elim (fun h=>a1 h.2.1) (fun h=>h.1 h1))
   -- a value with a constructor
   have ctors:∀(L:List Ty->Int->Nat->Option (Lo (Bool×Int) Int)),(∀a z i,L a z i=if i<v.kids.length then v.kids[i]? >>=fun x=>a[i]? >>=fun y=>vD w y x (i64.wrap (((11- (d+1):Nat):Int)+1)) holes z>>=fun r=>if r.1=true then L a r.2 (i+1)else some (.ret (false,r.2))else some (.go z))->
     ¬(holes=true/\v.ctor= -2)->t.data≠-1->
     ∃b c,(if v.n=0 then(uU w t)>>=fun x=>(uS x v.ctor)>>=fun y=>if y=true then(uP w t v.ctor)>>=fun a=>if a.length=v.kids.length then(L a ((count+1:Nat):Int) 0)>>=fun o=>match o with| .ret r=>some r| .go s=>some (true,s)else some (false,((count+1:Nat):Int))else some (false,((count+1:Nat):Int))else some (false,((count+1:Nat):Int)))=some (b,((c:Nat):Int))/\ZCi w holes (d+1) t v count b c:=by
    intro L hL hno h1
    by_cases h2:v.n=0
    ·rw[iP h2,P.YV w hw t ht]
     simp only[oE,oS]
     rw[P.YE]
     simp only[oS]
     by_cases h3:v.ctor∈ZY w t
     ·rw[iP (dec_of h3),P.YO w hw t ht _ h3]
      simp only[oS]
      by_cases h4:(ZP w t v.ctor).length=v.kids.length
      ·rw[iP h4]
       obtain⟨o,g1,g2⟩:=P.YBG w hw holes d hd v (ZP w t v.ctor) h4 (ZHz hw ht h3).2 (L (ZP w t v.ctor)) (hL _) (fun t x c ht hc=>P.YAF w hw holes d t x c (by omega) ht hc) _ 0 (count+1) rfl (by omega)
       rw[g1]
       simp only[oS]
       have hwt:=ZM6 v
       cases o with
       |ret r=>
        obtain⟨b,c⟩:=r
        obtain⟨rfl,c',rfl,q3⟩:=g2
        refine⟨false,c',rfl,⟨fun h=>(by cases h),fun hh=>absurd ⟨?_,?_⟩ q3⟩,fun h=>by cases h⟩
        ·exact hh.1.elim (fun h=>absurd ⟨h.1,h.2.1⟩ hno) (fun h=>h.2.elim (fun h=>absurd h.1 h1) (fun h=>h.2.2.2.2))
        ·have:=hh.2;omega
       |go c=>
        obtain⟨rfl,q2,q3⟩:=g2
        exact⟨true,_,rfl,⟨fun _=>⟨.inr ⟨hno,.inr ⟨h1,h2,h3,h4.symm,q2⟩⟩,by omega⟩,fun _=>rfl⟩,fun _=>by omega⟩
      ·rw[iN h4]
       exact no fun h=>h.1.elim (fun h=>hno ⟨h.1,h.2.1⟩) (fun h=>h.2.elim (fun h=>h1 h.1) (fun h=>h4 h.2.2.2.1.symm))
     ·rw[iN (by rw[ZB h3];simp)]
      exact no fun h=>h.1.elim (fun h=>hno ⟨h.1,h.2.1⟩) (fun h=>h.2.elim (fun h=>h1 h.1) (fun h=>h3 h.2.2.1))
    ·rw[iN h2]
     exact no fun h=>h.1.elim (fun h=>hno ⟨h.1,h.2.1⟩) (fun h=>h.2.elim (fun h=>h1 h.1) (fun h=>h2 h.2.1))
   by_cases hh:holes=true
   ·rw[iP hh]
    by_cases h0:v.ctor= -2
    ·rw[iP h0]
     by_cases hn:v.n=0
     ·rw[iP hn]
      exact yes _ (fun h=>⟨.inl ⟨hh,h0,hn,h⟩,leaf h⟩) (fun h=>h.elim (fun h=>h.2.2.2) (fun h=>absurd ⟨hh,h0⟩ h.1))
     ·rw[iN hn]
      exact no fun h=>h.1.elim (fun h=>hn h.2.2.1) (fun h=>h.1 ⟨hh,h0⟩)
    rw[iN h0]
    have hno:¬(holes=true/\v.ctor= -2):=fun h=>h0 h.2
    by_cases h1:t.data= -1
    ·rw[iP h1];exact ints h1 hno
    ·rw[iN h1]
     exact ctors (fun a=>uK w v ((11- (d+1):Nat):Int) holes a) (fun a z i=>by
      show uK w v ((11- (d+1):Nat):Int) holes a z i=_
      rw[uK]) hno h1
   ·rw[iN hh]
    have hno:¬(holes=true/\v.ctor= -2):=fun h=>hh h.1
    by_cases h1:t.data= -1
    ·rw[iP h1];exact ints h1 hno
    ·rw[iN h1]
     exact ctors (fun a=>uJ w v ((11- (d+1):Nat):Int) holes a) (fun a z i=>by
      show uJ w v ((11- (d+1):Nat):Int) holes a z i=_
      rw[uJ]) hno h1
termination_by d=>d
theorem ZK4 {a b:List Int}{L:Nat->Option (Lo Bool Unit)}(hl:a.length=b.length)(hL:∀i,L i=if i<a.length then a[i]? >>=fun x=>b[i]? >>=fun y=>if x=y then L (i+1)else some (.ret false)else some (.go ())):
  L 0=some (if dec (a=b)=true then .go ()else .ret false):=by
 rw[ZIj (n:=a.length) (r:=false) (Q:=fun i=>∀(h:i<a.length) (h':i<b.length),a[i]=b[i]) (L:=L)
  (fun k hk=>by rw[hL,iN (by omega)])
  (fun k hk hq=>by
   rw[hL,iP hk,gQ hk,gQ (show k<b.length by omega)]
   simp only[oE,oS]
   rw[iP (hq hk (by omega))])
  (fun k hk hq=>by
   rw[hL,iP hk,gQ hk,gQ (show k<b.length by omega)]
   simp only[oE,oS]
   rw[iN fun h=>hq fun _ _=>h]) _ 0 rfl]
 have:(∀j,0<=j->j<a.length->∀(h:j<a.length) (h':j<b.length),a[j]=b[j])↔a=b:=
  ⟨fun h=>xP hl fun i hi hi'=>h i (by omega) hi hi hi',fun e=>by subst e;exact fun _ _ _ _ _=>rfl⟩
 rw[ZJ this]
theorem P.YZ (a b:List Int):F.f206 a b=some (dec (a=b)):=by
 unfold F.f206
 by_cases hl:a.length=b.length
 ·rw[iP hl,ZK4 hl (L:=F.f205 a b) (fun i=>by rw[F.f205])]
  by_cases h:a=b
  ·rw[iP (dec_of h),dec_of h];rfl
  ·rw[iN (by rw[ZB h];simp),ZB h];rfl
 ·rw[iN hl,ZB fun h=>hl (by rw[h])]
theorem P.Yk (a b:List Int):F.f126 a b=some (dec (a=b)):=by
 unfold F.f126
 by_cases hl:a.length=b.length
 ·rw[iP hl,ZK4 hl (L:=F.f125 a b) (fun i=>by rw[F.f125])]
  by_cases h:a=b
  ·rw[iP (dec_of h),dec_of h];rfl
  ·rw[iN (by rw[ZB h];simp),ZB h];rfl
 ·rw[iN hl,ZB fun h=>hl (by rw[h])]
noncomputable def ZEL (l:List VarType)(n:Int):Int:=match ZGR (fun x=>x.var=n) 0 l with
 |some j=>(j:Int)
 |none=> -1
theorem P.YF (l:List VarType)(n:Int):kF l n=some (ZEL l n):=by
 unfold kF ZEL
 rw[ZKz (a:=l) (p:=fun x=>x.var=n) (L:=uD l n) (fun k hk=>by rw[uD,iN (by omega)])
  (fun k hk hp=>by rw[uD,iP hk,gQ hk];simp only[oE,oS];rw[iN hp])
  (fun k hk hp=>by rw[uD,iP hk,gQ hk];simp only[oE,oS];rw[iP hp]) _ 0 rfl,zV]
 cases ZGR (fun x=>x.var=n) 0 l<;>rfl
theorem ZB5 (l:List VarType)(n:Int):ZEL l n= -1∨∃(j:Nat) (h:j<l.length),ZEL l n=(j:Int)/\l[j].var=n/\∀i (hi:i<l.length),i<j->l[i].var≠n:=by
 unfold ZEL
 cases h:ZGR (fun x:VarType=>x.var=n) 0 l with
 |none=>exact .inl rfl
 |some j=>
  obtain⟨_,h2,h3,h4⟩:=ZAm h
  exact .inr ⟨j,h2,rfl,h3,h4⟩
theorem ZEk (l:List VarType)(j:Nat)(hj:j<l.length):ZEL l l[j].var=(j:Int)↔∀i (hi:i<l.length),i<j->l[i].var≠l[j].var:=by
 constructor
 ·intro h
  rcases ZB5 l l[j].var with q|⟨k,hk,q1,q2,q3⟩
  ·omega
  ·have:k=j:=by omega
   subst this;exact q3
 ·intro h
  unfold ZEL
  cases hf:ZGR (fun x:VarType=>x.var=l[j].var) 0 l with
  |none=>exact absurd rfl (ZAn hf l[j] (gM hj))
  |some k=>
   obtain⟨_,h2,h3,h4⟩:=ZAm hf
   show(k:Int)=j
   have:¬k<j:=fun hlt=>h k h2 hlt h3
   have:¬j<k:=fun hlt=>h4 j hj (by omega) rfl
   omega
theorem P.YBy (v:Int):F.f145 v=some (dec (0<=v/\v<=5)):=by
 unfold F.f145;rw[P.YD];rfl
theorem ZJl (hw:ZS w)(ht:ZAA w t)(h:c∈ZY w t):∀a,a∈ZP w t c->ZAA w a:=by
 have hc:=(ZAO hw (ZCE ht.1) (Zj h).1).2 _ (ZCz h).2
 have hn:=(Zj h).1
 intro a ha
 obtain⟨b,hb,rfl⟩:=yE.1 ha
 obtain⟨j,hj,rfl⟩:=yF hb
 have:=hc.2.2.2.2 j (by omega) hj
 have ht2:=ht.2
 rcases ht.1 with q|⟨q1,q2,q3,q4⟩
 ·exact absurd q.1 hn
 unfold ZDE
 rcases this with⟨p1,p2⟩|⟨p1,p2,p3,p4⟩
 ·rw[iN (by omega)];exact⟨.inl ⟨p1,p2⟩,by omega⟩
 ·split
  ·next e=>
   have hx:0<=(if(Zi w t c).index=0 then t.index else(Zi w t c).index)/\(if(Zi w t c).index=0 then t.index else(Zi w t c).index)<=3:=by
    split
    ·exact⟨ht2,q4⟩
    ·exact⟨hc.2.2.1,hc.2.2.2.1⟩
   exact⟨.inr ⟨p1,p2,by show -1<=(if(Zi w t c).index=0 then t.index else(Zi w t c).index);omega,hx.2⟩,hx.1⟩
  ·next e=>exact⟨.inr ⟨p1,p2,p3,p4⟩,by omega⟩
def ZAy (w:List Data)(t:Ty)(p:Pattern):Prop:=
 (p.op=1/\p.var=0/\p.n=0/\p.m=0/\p.ctor=0)∨
 (p.op=2/\0<=p.var/\p.var<=5/\p.n=0/\p.m=0/\p.ctor=0)∨
 (p.op=3/\p.var=0/\p.ctor=0/\t.data= -1/\0<=p.n/\p.n<=p.m/\p.m<=9)∨
 (p.op=4/\p.var=0/\p.n=0/\p.m=0/\p.ctor∈ZY w t)∨
 (p.op=5/\p.var=0/\p.n=0/\p.m=0/\p.ctor=0)∨
 (p.op=6/\0<=p.var/\p.var<=5/\p.n=0/\p.m=0/\p.ctor=0)
noncomputable def ZG (w:List Data)(t:Ty)(p:Pattern):List Ty:=if p.op=4 then ZP w t p.ctor else if p.op=5 then[t,t]else if p.op=6 then[t]else[]
theorem P.YAn (w:List Data)(hw:ZS w)(t:Ty)(ht:tOk w t)(p:Pattern):F.f58 w t p=some (dec (ZAy w t p)):=by
 unfold F.f58
 rw[P.YT w hw t ht]
 simp only[oE,oS,P.Yn]
 have yes:ZAy w t p->some true=some (dec (ZAy w t p)):=fun h=>by rw[dec_of h]
 have no:¬ZAy w t p->some false=some (dec (ZAy w t p)):=fun h=>by rw[ZB h]
 repeat' split
 all_goals first
  |(refine no fun h=> ?_;unfold ZAy at h;omega)
  |(refine yes ?_;unfold ZAy;omega)
  |skip
 ·rw[←ZAJ];congr 1;refine ZJ ?_;unfold ZAy;omega
 ·congr 1;refine ZJ ⟨fun h=>.inr (.inr (.inr (.inl ⟨by assumption,by assumption,by assumption,by assumption,h⟩))),fun h=> ?_⟩
  unfold ZAy at h
  rcases h with h|h|h|h|h|h
  ·omega
  ·omega
  ·omega
  ·exact h.2.2.2.2
  ·omega
  ·omega
theorem P.YG (w:List Data)(hw:ZS w)(t:Ty)(ht:tOk w t)(p:Pattern)(h:ZAy w t p):F.f64 w t p=some (ZG w t p):=by
 unfold F.f64 ZG
 by_cases h4:p.op=4
 ·rw[iP h4,iP h4]
  have hc:p.ctor∈ZY w t:=by
   unfold ZAy at h
   rcases h with h|h|h|h|h|h
   ·omega
   ·omega
   ·omega
   ·exact h.2.2.2.2
   ·omega
   ·omega
  rw[P.Yf w hw t ht _ hc];rfl
 ·rw[iN h4,iN h4]
  have k:F.f62 p.op=some (if p.op=5 then 2 else if p.op=6 then 1 else 0):=by
   unfold F.f62;split
   ·rfl
   ·split
    ·rfl
    ·rfl
  by_cases h5:p.op=5
  ·rw[iP h5]
   rw[iP h5]at k
   rw[vH,k]
   simp only[oE,oS]
   rw[iP (by omega),iP (by simp),iP (by omega),vH,k]
   simp only[oE,oS]
   rw[iP (by omega),iP (by simp),iP (by omega),vH,k]
   simp only[oE,oS]
   rw[iN (by omega)];simp
  ·rw[iN h5]
   rw[iN h5]at k
   by_cases h6:p.op=6
   ·rw[iP h6]
    rw[iP h6]at k
    rw[vH,k]
    simp only[oE,oS]
    rw[iP (by omega),iP (by simp),iP (by omega),vH,k]
    simp only[oE,oS]
    rw[iN (by omega)];simp
   ·rw[iN h6]
    rw[iN h6]at k
    rw[vH,k]
    simp only[oE,oS]
    rw[iN (by omega)];simp
variable {p:Pattern}
theorem ZA6 (hw:ZS w)(ht:ZAA w t)(h:ZAy w t p):∀a,a∈ZG w t p->ZAA w a:=by
 unfold ZG
 intro a ha
 split at ha
 ·next h4=>
  have hc:p.ctor∈ZY w t:=by
   unfold ZAy at h
   rcases h with h|h|h|h|h|h
   ·omega
   ·omega
   ·omega
   ·exact h.2.2.2.2
   ·omega
   ·omega
  exact ZJl hw ht hc a ha
 ·split at ha
  ·simp at ha;subst ha;exact ht
  ·split at ha
   ·simp at ha;subst ha;exact ht
   ·cases ha
theorem P.YBJ (p:Pattern)(c n v:Bool)(k:Int):F.f144 p c n v k=some (dec ((c=true∨p.ctor=0)/\(n=true∨(p.n=0/\p.m=0))/\(v=true∨p.var=0)/\(p.kids.length:Int)=k)):=by
 unfold F.f144
 cases c<;>cases n<;>cases v<;>simp only[xW,if_true,if_false,false_or,true_or,true_and]
 all_goals(repeat' split)
 all_goals first
  |(rw[←ZAJ];done)
  |(rw[←ZAJ];congr 1;refine ZJ ?_;omega)
  |(rw[ZB];omega)
theorem P.YAr (w:List Data)(hw:ZS w)(t:Ty)(ht:tOk w t)(p:Pattern):
  ∃ts,F.f154 w t p=some (ts,dec (ZAy w t p/\p.kids.length=(ZG w t p).length))/\(ZAy w t p->ts=ZG w t p):=by
 unfold F.f154
 simp only[P.YBJ,P.YBy,P.YV w hw t ht,P.YE,oE,oS,Zd]
 by_cases h1:p.op=1
 ·rw[iP h1]
  have e:ZG w t p=[]:=by unfold ZG;rw[iN (by omega),iN (by omega),iN (by omega)]
  rw[e]
  refine⟨[],?_,fun _=>rfl⟩
  congr 2;refine ZJ ?_;unfold ZAy;simp only[xW,false_or,yC];omega
 rw[iN h1]
 by_cases h2:p.op=2
 ·rw[iP h2]
  have e:ZG w t p=[]:=by unfold ZG;rw[iN (by omega),iN (by omega),iN (by omega)]
  rw[e]
  refine⟨[],?_,fun _=>rfl⟩
  split
  ·next hh=>
   simp only[xW,false_or,true_or,true_and]at hh
   congr 2;refine ZJ ?_;unfold ZAy;simp only[yC,yD];omega
  ·next hh=>
   simp only[xW,false_or,true_or,true_and]at hh
   rw[ZB];unfold ZAy;simp only[yC,yD];omega
 rw[iN h2]
 by_cases h3:p.op=3
 ·rw[iP h3]
  have e:ZG w t p=[]:=by unfold ZG;rw[iN (by omega),iN (by omega),iN (by omega)]
  rw[e]
  refine⟨[],?_,fun _=>rfl⟩
  simp only[xW,false_or,true_or,true_and,yC]
  repeat' split
  all_goals first
   |(rw[←ZAJ];congr 2;refine ZJ ?_;unfold ZAy;omega)
   |(rw[ZB];unfold ZAy;omega)
 rw[iN h3]
 by_cases h4:p.op=4
 ·rw[iP h4]
  have e:ZG w t p=ZP w t p.ctor:=by unfold ZG;rw[iP h4]
  rw[e]
  by_cases hc:p.ctor∈ZY w t
  ·rw[iP hc,P.YO w hw t ht _ hc]
   simp only[oS]
   refine⟨ZP w t p.ctor,?_,fun _=>rfl⟩
   congr 2;refine ZJ ⟨fun h=>⟨.inr (.inr (.inr (.inl ⟨h4,?_,?_,?_,hc⟩))),?_⟩,fun h=> ?_⟩
   ·simp at h;exact h.2.1
   ·simp at h;exact h.1.1
   ·simp at h;exact h.1.2
   ·simp at h;omega
   ·obtain⟨h,hl⟩:=h
    unfold ZAy at h
    rcases h with h|h|h|h|h|h
    ·omega
    ·omega
    ·omega
    ·exact⟨.inl trivial,.inr ⟨h.2.2.1,h.2.2.2.1⟩,.inr h.2.1,by omega⟩
    ·omega
    ·omega
  ·rw[iN hc]
   have hn:¬ZAy w t p:=by
    intro h
    unfold ZAy at h
    rcases h with h|h|h|h|h|h
    ·omega
    ·omega
    ·omega
    ·exact hc h.2.2.2.2
    ·omega
    ·omega
   exact⟨[],by rw[ZB fun h=>hn h.1],fun h=>absurd h hn⟩
 rw[iN h4]
 by_cases h5:p.op=5
 ·rw[iP h5]
  have e:ZG w t p=[t,t]:=by unfold ZG;rw[iN (by omega),iP (by omega)]
  rw[e]
  refine⟨[t,t],?_,fun _=>rfl⟩
  congr 2;refine ZJ ?_;unfold ZAy;simp only[xW,false_or,yC,yD];omega
 rw[iN h5]
 by_cases h6:p.op=6
 ·rw[iP h6]
  have e:ZG w t p=[t]:=by unfold ZG;rw[iN (by omega),iN (by omega),iP (by omega)]
  rw[e]
  refine⟨[t],?_,fun _=>rfl⟩
  split
  ·next hh=>
   simp only[xW,false_or,true_or,true_and]at hh
   congr 2;refine ZJ ?_;unfold ZAy;simp only[yC,yD];omega
  ·next hh=>
   simp only[xW,false_or,true_or,true_and]at hh
   rw[ZB];unfold ZAy;simp only[yC,yD];omega
 rw[iN h6]
 have hn:¬ZAy w t p:=by unfold ZAy;omega
 exact⟨[],by rw[ZB fun h=>hn h.1],fun h=>absurd h hn⟩
def Ze (w:List Data):Nat->Ty->Pattern->Prop
 |0,_,_=>False
 |d+1,t,p=>ZAy w t p/\p.kids.length=(ZG w t p).length/\∀i,0<=i->i<(ZG w t p).length->∀(h:i<(ZG w t p).length) (h':i<p.kids.length),Ze w d (ZG w t p)[i] p.kids[i]
theorem P.YH (w:List Data)(hw:ZS w):∀(d:Nat) (t:Ty) (p:Pattern),ZAA w t->d<=10->uH w t p d=some (dec (Ze w d t p))
 |0,t,p,ht,hd=>by rw[uH,iP (by omega),ZB (by simp[Ze])]
 |d+1,t,p,ht,hd=>by
  rw[uH,iN (by omega),P.YAn w hw t (ZCE ht.1)]
  simp only[oE,oS]
  by_cases ho:ZAy w t p
  ·rw[iP (dec_of ho),P.YG w hw t (ZCE ht.1) p ho]
   simp only[oS]
   have hts:=ZA6 hw ht ho
   by_cases h4:p.kids.length=(ZG w t p).length
   ·rw[iP h4,ZIj (n:=(ZG w t p).length) (r:=false) (Q:=fun i=>∀(h:i<(ZG w t p).length) (h':i<p.kids.length),Ze w d (ZG w t p)[i] p.kids[i]) (L:=uG w p ((d+1:Nat):Int) (ZG w t p))
     (fun k hk=>by rw[uG,iN (by omega)])
     (fun k hk hq=>by
      have hk':k<p.kids.length:=by omega
      rw[uG,iP hk,gQ hk,gQ hk']
      simp only[oE,oS]
      rw[ZD (by omega) (by omega),show((d+1:Nat):Int) -1=(d:Int)from by omega,P.YH w hw d _ _ (hts _ (gM hk)) (by omega)]
      simp only[oS]
      rw[iP (dec_of (hq hk hk'))])
     (fun k hk hq=>by
      have hk':k<p.kids.length:=by omega
      rw[uG,iP hk,gQ hk,gQ hk']
      simp only[oE,oS]
      rw[ZD (by omega) (by omega),show((d+1:Nat):Int) -1=(d:Int)from by omega,P.YH w hw d _ _ (hts _ (gM hk)) (by omega)]
      simp only[oS]
      rw[iN (by rw[ZB fun h=>hq fun _ _=>h];simp)]) _ 0 rfl]
    simp only[oS]
    by_cases hall:∀i,0<=i->i<(ZG w t p).length->∀(h:i<(ZG w t p).length) (h':i<p.kids.length),Ze w d (ZG w t p)[i] p.kids[i]
    ·rw[iP (dec_of hall),dec_of ⟨ho,h4,hall⟩]
    ·rw[iN (by rw[ZB hall];simp),ZB fun h=>hall h.2.2]
   ·rw[iN h4,ZB fun h=>h4 h.2.1]
  ·rw[iN (by rw[ZB ho];simp),ZB fun h=>ho h.1]
theorem P.YBI (v:Pattern)(hv:v.wt<=1048576):∀(most:Nat),most<=60->∃c:Nat,kG v most=some (c:Int)/\1<=c/\c<=1+v.wt/\(1+v.wt<=most->c=1+v.wt)/\(most<1+v.wt->most<c):=by
 induction v using kK with
 |_ v ih=>
  intro most hm
  have hw:=v.wt_eq
  have key:∀(m i:Nat) (n:Nat),v.kids.length-i=m->1<=n->n+((v.kids.drop i).map fun k=>1+k.wt).sum<=1+v.wt->
    ∃c:Nat,uF v most n i=some (c:Int)/\n<=c/\c<=n+((v.kids.drop i).map fun k=>1+k.wt).sum/\(n+((v.kids.drop i).map fun k=>1+k.wt).sum<=most->c=n+((v.kids.drop i).map fun k=>1+k.wt).sum)/\(most<n+((v.kids.drop i).map fun k=>1+k.wt).sum->most<c):=by
   intro m
   induction m with
   |zero=>
    intro i n hmi hn hb
    rw[uF,iN (by omega),zT (by omega)]
    exact⟨n,rfl,by omega,by simp,by simp,by simp⟩
   |succ m ih2=>
    intro i n hmi hn hb
    have hi:i<v.kids.length:=by omega
    rw[zS hi]at hb ⊢
    simp only[zW,yV]at hb ⊢
    rw[uF,iP hi]
    by_cases hle:n<=most
    ·rw[iP (by omega),gQ hi]
     simp only[oE,oS]
     have hk:v.kids[i].wt<=1048576:=by omega
     obtain⟨c,h1,h2,h3,h4,h5⟩:=ih v.kids[i] (gM hi) hk (most-n) (by omega)
     rw[ZD (by omega) (by omega),show((most:Int) - (n:Int))=((most-n:Nat):Int)from by omega,h1]
     simp only[oS]
     rw[ZD (by omega) (by omega),show((n:Int)+(c:Int))=((n+c:Nat):Int)from by omega]
     obtain⟨c',g1,g2,g3,g4,g5⟩:=ih2 (i+1) (n+c) (by omega) (by omega) (by omega)
     refine⟨c',g1,by omega,by omega,fun h=> ?_,fun h=> ?_⟩
     ·have:=h4 (by omega)
      have:=g4 (by omega)
      omega
     ·by_cases hx:1+v.kids[i].wt<=most-n
      ·have:=h4 hx
       exact g5 (by omega)
      ·have:=h5 (by omega)
       omega
    ·rw[iN (by omega)]
     exact⟨n,rfl,by omega,by omega,fun h=>by omega,fun h=>by omega⟩
  have hs:((v.kids.drop 0).map fun k=>1+k.wt).sum=v.wt:=by
   rw[zV,hw]
   have:∀l:List Pattern,(l.map fun k=>1+k.wt).sum=wtL kJ l:=by
    intro l
    induction l with
    |nil=>rfl
    |cons a r ih=>simp[ih]
   exact this _
  obtain⟨c,h1,h2,h3,h4,h5⟩:=key _ 0 1 rfl (by omega) (by omega)
  rw[hs]at h3 h4 h5
  unfold kG
  have h1':uF v most 1 0=some (c:Int):=h1
  rw[h1']
  exact⟨c,rfl,by omega,h3,h4,h5⟩
theorem ZH7 (v:Pattern):v.wt=((v.kids.drop 0).map fun k=>1+k.wt).sum:=by
 rw[zV,v.wt_eq]
 have:∀l:List Pattern,(l.map fun k=>1+k.wt).sum=wtL kJ l:=by
  intro l
  induction l with
  |nil=>rfl
  |cons a r ih=>simp[ih]
 exact(this _).symm
noncomputable def ZU (w:List Data):Nat->Ty->Pattern->List VarType
 |0,_,_=>[]
 |d+1,t,p=>(if p.op=2∨p.op=6 then[⟨p.var,t⟩]else[])++(((ZG w t p).zip p.kids).take (if p.op=5 then 1 else p.kids.length)).flatMap fun x=>ZU w d x.1 x.2
theorem ZGQ {f:Ty×Pattern->List VarType}(hf:∀x,(f x).length<=1+x.2.wt):∀(ts:List Ty) (ks:List Pattern) (n:Nat),(((ts.zip ks).take n).flatMap f).length<=wtL kJ ks
 | [],ks,n=>by simp
 |t::ts,[],n=>by simp
 |t::ts,k::ks,0=>by simp
 |t::ts,k::ks,n+1=>by
  have h1:=ZGQ hf ts ks n
  have h2:=hf (t,k)
  simp only[yT,xF,yA,zU,Zw]at h1 h2 ⊢
  omega
theorem ZCQ (w:List Data):∀(d:Nat) (t:Ty) (p:Pattern),(ZU w d t p).length<=1+p.wt
 |0,t,p=>by simp[ZU]
 |d+1,t,p=>by
  have:=ZGQ (f:=fun x=>ZU w d x.1 x.2) (fun x=>ZCQ w d x.1 x.2) (ZG w t p) p.kids (if p.op=5 then 1 else p.kids.length)
  rw[ZU,zU,p.wt_eq]
  have h1:(if p.op=2∨p.op=6 then[(⟨p.var,t⟩:VarType)]else[]).length<=1:=by split<;>simp
  omega
theorem ZDU {ts:List Ty}(hl:p.kids.length=ts.length)(h5:p.op≠5){f:Ty×Pattern->List VarType}{L:List VarType->Nat->Option (List VarType)}(hL:∀out i,L out i=if i<ts.length then(if i=0 then ts[i]? >>=fun x=>p.kids[i]? >>=fun y=>vC out w x y>>=fun v=>L v (i+1)else(if p.op=5 then some out else ts[i]? >>=fun x=>p.kids[i]? >>=fun y=>vC out w x y>>=fun v=>L v (i+1)))else some out)(hf:∀x:Ty×Pattern,(f x).length<=1+x.2.wt)(ih:∀i (h:i<ts.length) (h':i<p.kids.length) (out:List VarType),out.length+(1+p.kids[i].wt)<=67108864->vC out w ts[i] p.kids[i]=some (out++f (ts[i],p.kids[i]))):
  ∀(m i:Nat) (out:List VarType),ts.length-i=m->out.length+((p.kids.drop i).map fun k=>1+k.wt).sum<=67108864->L out i=some (out++((ts.zip p.kids).drop i).flatMap f):=by
 intro m
 induction m with
 |zero=>
  intro i out hm hb
  rw[hL,iN (by omega),zT (by simp;omega)];simp
 |succ m ihm=>
  intro i out hm hb
  have hi:i<ts.length:=by omega
  have hi':i<p.kids.length:=by omega
  rw[zS hi']at hb
  simp only[zW,yV]at hb
  have e:(ts[i]? >>=fun x=>p.kids[i]? >>=fun y=>vC out w x y>>=fun v=>L v (i+1))=some (out++((ts.zip p.kids).drop i).flatMap f):=by
   rw[gQ hi,gQ hi']
   simp only[oE,oS]
   rw[ih i hi hi' out (by omega)]
   simp only[oS]
   have:=hf (ts[i],p.kids[i])
   simp only at this
   rw[ihm (i+1) _ (by omega) (by rw[zU];omega),zS (l:=ts.zip p.kids) (i:=i) (by simp;omega)]
   simp
  rw[hL,iP hi,iN h5,e]
  split<;>rfl
theorem Zz (h:ZAy w t p)(h5:p.op=5):ZG w t p=[t,t]:=by unfold ZG;rw[iN (by omega),iP h5]
theorem P.YC (w:List Data)(hw:ZS w):∀(d:Nat) (t:Ty) (p:Pattern) (out:List VarType),ZAA w t->Ze w d t p->out.length+(1+p.wt)<=67108864->vC out w t p=some (out++ZU w d t p)
 |0,t,p,out,ht,hs,hb=>hs.elim
 |d+1,t,p,out,ht,hs,hb=>by
  obtain⟨ho,hl,hk⟩:=hs
  have hts:=ZA6 hw ht ho
  have hsum:=ZH7 p
  have ih:∀i (h:i<(ZG w t p).length) (h':i<p.kids.length) (out:List VarType),out.length+(1+p.kids[i].wt)<=67108864->vC out w (ZG w t p)[i] p.kids[i]=some (out++(fun x:Ty×Pattern=>ZU w d x.1 x.2) ((ZG w t p)[i],p.kids[i])):=
   fun i h h' out hb=>P.YC w hw d _ _ out (hts _ (gM h)) (hk i (by omega) h h h') hb
  have hf:∀x:Ty×Pattern,((fun x:Ty×Pattern=>ZU w d x.1 x.2) x).length<=1+x.2.wt:=fun x=>ZCQ w d x.1 x.2
  have full:∀n,p.kids.length<=n->((ZG w t p).zip p.kids).take n=(ZG w t p).zip p.kids:=fun n hn=>zX (by simp;omega)
  rw[vC,P.YG w hw t (ZCE ht.1) p ho]
  simp only[oE,oS]
  by_cases h2:p.op=2
  ·rw[iP h2,iP (by omega),ZDU (f:=fun x=>ZU w d x.1 x.2) (L:=F.f72 w p (ZG w t p)) hl (by omega) (fun out i=>by rw[F.f72]) hf ih _ 0 _ rfl (by simp at hsum ⊢;omega)]
   simp only[oS]
   rw[ZU,iP (.inl h2),iN (by omega),full _ (zA _)];simp
  ·rw[iN h2]
   by_cases h6:p.op=6
   ·rw[iP h6,iP (by omega),ZDU (f:=fun x=>ZU w d x.1 x.2) (L:=F.f70 w p (ZG w t p)) hl (by omega) (fun out i=>by rw[F.f70]) hf ih _ 0 _ rfl (by simp at hsum ⊢;omega)]
    simp only[oS]
    rw[ZU,iP (.inr h6),iN (by omega),full _ (zA _)];simp
   ·rw[iN h6]
    by_cases h5:p.op=5
    ·have et:=Zz ho h5
     rw[et]at hl
     have h0:0<p.kids.length:=by rw[hl];simp
     have h0':0<(ZG w t p).length:=by rw[et];simp
     have hw0:1+p.kids[0].wt<=p.wt:=by
      rw[hsum,zV]
      obtain⟨a,r,e⟩:=yP h0
      simp[e]
     have e0:=ih 0 h0' h0 out (by omega)
     rw[uE,iP h0',iP rfl,gQ h0',gQ h0]
     simp only[oE,oS]
     rw[e0]
     simp only[oS]
     rw[uE,iP (by rw[et];simp),iN (by omega),iP h5]
     simp only[oS]
     rw[ZU,iN (by omega),iP h5]
     have e1:((ZG w t p).zip p.kids).take 1=[((ZG w t p)[0],p.kids[0])]:=by
      obtain⟨a,r,e⟩:=yP h0
      obtain⟨b,r',e'⟩:=yP h0'
      simp[e,e']
     rw[e1];simp
    ·rw[ZDU (f:=fun x=>ZU w d x.1 x.2) (L:=uE w p (ZG w t p)) hl h5 (fun out i=>by rw[uE]) hf ih _ 0 _ rfl (by simp at hsum ⊢;omega)]
     simp only[oS]
     rw[ZU,iN (by omega),iN h5,full _ (zA _)];simp
def ZHO (l:List VarType):Prop:=(l.map VarType.var).Nodup
def ZG4 (a b:List VarType):Prop:=a.length=b.length/\∀x,x∈a->x∈b
theorem ZFE (l:List VarType):ZHO l↔∀i j (hi:i<l.length) (hj:j<l.length),i<j->l[i].var≠l[j].var:=by
 unfold ZHO List.Nodup
 rw[List.pairwise_map,List.pairwise_iff_getElem]
theorem ZEl {l:List VarType}{n:Int}(h:ZEL l n= -1):∀x,x∈l->x.var≠n:=by
 unfold ZEL at h
 cases hf:ZGR (fun x:VarType=>x.var=n) 0 l with
 |none=>exact ZAn hf
 |some j=>rw[hf]at h;simp only at h;omega
theorem ZOw {a b:VarType}(h:a.var=b.var)(h2:eq2 (a.type.data,a.type.index) (b.type.data,b.type.index)):a=b:=by
 obtain⟨v,d,i⟩:=a
 obtain⟨v',d',i'⟩:=b
 simp only[eq2]at h h2
 obtain⟨rfl,rfl⟩:=h2
 subst h;rfl
theorem P.YY (l:List VarType):vI l 0=some (if dec (ZHO l)=true then .go ()else .ret false):=by
 rw[ZIj (n:=l.length) (r:=false) (Q:=fun j=>∀h:j<l.length,ZEL l l[j].var=(j:Int)) (L:=vI l) (fun k hk=>by rw[vI,iN (by omega)])
  (fun k hk hq=>by
   rw[vI,iP hk,gQ hk]
   simp only[oE,oS,P.YF]
   rw[iP (hq hk)])
  (fun k hk hq=>by
   rw[vI,iP hk,gQ hk]
   simp only[oE,oS,P.YF]
   rw[iN fun h=>hq fun _=>h]) _ 0 rfl]
 congr 2
 rw[ZJ]
 rw[ZFE]
 constructor
 ·intro h i j hi hj hij
  exact(ZEk l j hj).1 (h j (by omega) hj hj) i hi hij
 ·intro h j _ _ hj
  exact(ZEk l j hj).2 fun i hi hij=>h i j hi hj hij
theorem P.YAU (a b:List VarType)(hb:ZHO b):F.f76 a b=some (dec (ZG4 a b)):=by
 unfold F.f76
 have step:∀k (hk:k<a.length),vJ a b k=if dec (a[k]∈b)=true then vJ a b (k+1)else some (.ret false):=by
  intro k hk
  rw[vJ,iP hk,gQ hk]
  simp only[oE,oS,P.YF]
  rcases ZB5 b a[k].var with h|⟨j,hj,h1,h2,h3⟩
  ·rw[iP (by omega),iN]
   rw[ZB fun hm=>ZEl h _ hm rfl];simp
  ·rw[iN (by omega),h1,ZEs,gQ hj]
   simp only[oS]
   by_cases he:eq2 (b[j].type.data,b[j].type.index) (a[k].type.data,a[k].type.index)
   ·rw[iP (dec_of he),iP (dec_of (by rw[←ZOw h2 he];exact gM hj))]
   ·rw[iN (by rw[ZB he];simp),iN]
    rw[ZB fun hm=> ?_];· simp
    obtain⟨i,hi,e⟩:=yF hm
    have hij:i=j:=by
     rw[ZFE]at hb
     rcases zM i j with hlt|heq|hlt
     ·exact absurd (by rw[e,h2]) (hb i j hi hj hlt)
     ·exact heq
     ·exact absurd (by rw[e,h2]) (hb j i hj hi hlt)
    subst hij
    exact he (by rw[e];exact⟨rfl,rfl⟩)
 rw[ZIj (n:=a.length) (r:=false) (Q:=fun j=>∀h:j<a.length,a[j]∈b) (L:=vJ a b) (fun k hk=>by rw[vJ,iN (by omega)])
  (fun k hk hq=>by rw[step k hk,iP (dec_of (hq hk))])
  (fun k hk hq=>by rw[step k hk,iN (by rw[ZB fun h=>hq fun _=>h];simp)]) _ 0 rfl]
 simp only[oE,oS]
 by_cases h:∀j,0<=j->j<a.length->∀h:j<a.length,a[j]∈b
 ·rw[iP (dec_of h),←ZAJ]
  have hx:∀x,x∈a->x∈b:=fun x hx=>by obtain⟨j,hj,e⟩:=yF hx;rw[←e];exact h j (by omega) hj hj
  show some (dec (a.length=b.length))=some (dec (ZG4 a b))
  congr 1;exact ZJ ⟨fun hl=>⟨hl,hx⟩,fun hs=>hs.1⟩
 ·rw[iN (by rw[ZB h];simp),ZB fun hs=>h fun j _ hj _=>hs.2 _ (gM hj)]
theorem ZMp {a b:VarType}:eq3 (a.var,a.type.data,a.type.index) (b.var,b.type.data,b.type.index)↔a=b:=by
 obtain⟨v,d,i⟩:=a
 obtain⟨v',d',i'⟩:=b
 simp[eq3]
theorem P.YA (l:List VarType)(n:VarType):F.f157 l n=some (dec (n∈l)):=by
 unfold F.f157 F.f156
 rw[ZKz (a:=l) (p:=fun x=>n=x) (L:=vW l n) (fun k hk=>by rw[vW,iN (by omega)])
  (fun k hk hp=>by
   rw[vW,iP hk,gQ hk]
   simp only[oE,oS]
   rw[iN (by rw[ZB fun h=>hp (ZMp.1 h)];simp)])
  (fun k hk hp=>by
   rw[vW,iP hk,gQ hk]
   simp only[oE,oS]
   rw[iP (dec_of (ZMp.2 hp))]) _ 0 rfl,zV]
 cases h:ZGR (fun x:VarType=>n=x) 0 l with
 |none=>
  simp only[oE,oS]
  rw[ZB fun hm=>ZAn h _ hm rfl];simp
 |some j=>
  obtain⟨_,h2,h3,_⟩:=ZAm h
  simp only[oE,oS]
  rw[dec_of (by rw[h3];exact gM h2)];simp
theorem P.YAA (a b:List VarType):vU a b=some (dec (ZG4 a b)):=by
 unfold vU
 by_cases hl:a.length=b.length
 ·rw[iP hl]
  unfold F.f161 F.f160
  have one:∀q,F.f158 q b=some (!dec (q∈b)):=by
   intro q;unfold F.f158;rw[P.YA];rfl
  rw[ZKz (a:=a) (p:=fun x=>¬x∈b) (L:=vV a b) (fun k hk=>by rw[vV,iN (by omega)])
   (fun k hk hp=>by
    rw[vV,iP hk,gQ hk]
    simp only[oE,oS,one]
    rw[iN (by rw[dec_of (xV hp)];simp)])
   (fun k hk hp=>by
    rw[vV,iP hk,gQ hk]
    simp only[oE,oS,one]
    rw[iP (by rw[ZB hp];simp)]) _ 0 rfl,zV]
  cases h:ZGR (fun x:VarType=>¬x∈b) 0 a with
  |none=>
   simp only[oE,oS]
   rw[dec_of ⟨hl,fun x hx=>xV (ZAn h x hx)⟩];simp
  |some j=>
   obtain⟨_,h2,h3,_⟩:=ZAm h
   simp only[oE,oS]
   rw[ZB fun hs=>h3 (hs.2 _ (gM h2))];simp
 ·rw[iN hl,ZB fun h=>hl h.1]
def ZFf (w:List Data):Nat->Ty->Pattern->Prop
 |0,_,_=>False
 |d+1,t,p=>(∀i,0<=i->i<(ZG w t p).length->∀(h:i<(ZG w t p).length) (h':i<p.kids.length),ZFf w d (ZG w t p)[i] p.kids[i])/\
   if p.op=5 then(∀(h0:0<p.kids.length) (h1:1<p.kids.length),ZG4 (ZU w d t p.kids[0]) (ZU w d t p.kids[1]))else ZHO (ZU w (d+1) t p)
theorem ZDM {d:Nat}(ho:ZAy w t p)(h5:p.op=5)(h0:0<p.kids.length):ZU w (d+1) t p=ZU w d t p.kids[0]:=by
 have et:=Zz ho h5
 rw[ZU,iN (by omega),iP h5,et]
 obtain⟨a,r,e⟩:=yP h0
 simp[e]
theorem ZBg {w:List Data}:∀{d:Nat} {t:Ty} {p:Pattern},Ze w d t p->ZFf w d t p->ZHO (ZU w d t p)
 |0,t,p,hs,hl=>hs.elim
 |d+1,t,p,hs,hl=>by
  obtain⟨ho,hlen,hk⟩:=hs
  obtain⟨h1,h2⟩:=hl
  by_cases h5:p.op=5
  ·have et:=Zz ho h5
   have h0:0<p.kids.length:=by rw[hlen,et];simp
   have h0':0<(ZG w t p).length:=by rw[et];simp
   rw[ZDM ho h5 h0]
   have e0:(ZG w t p)[0]=t:=by simp[et]
   have a:=hk 0 (zA _) h0' h0' h0
   have b:=h1 0 (zA _) h0' h0' h0
   rw[e0]at a b
   exact ZBg a b
  ·rw[iN h5]at h2;exact h2
theorem P.YM (w:List Data)(hw:ZS w):∀(d:Nat) (t:Ty) (p:Pattern),ZAA w t->Ze w d t p->p.wt<=1048576->kE w t p=some (dec (ZFf w d t p))
 |0,t,p,ht,hs,hb=>hs.elim
 |d+1,t,p,ht,hs,hb=>by
  have hs':=hs
  obtain⟨ho,hl,hk⟩:=hs
  have hts:=ZA6 hw ht ho
  have hsum:=p.wt_eq
  have hkw:∀k (h:k<p.kids.length),1+p.kids[k].wt<=p.wt:=fun k h=>by have:=Zb kJ (gM h);omega
  have ih:∀k (h:k<(ZG w t p).length) (h':k<p.kids.length),kE w (ZG w t p)[k] p.kids[k]=some (dec (ZFf w d (ZG w t p)[k] p.kids[k])):=
   fun k h h'=>P.YM w hw d _ _ (hts _ (gM h)) (hk k (by omega) h h h') (by have:=hkw k h';omega)
  rw[kE,P.YG w hw t (ZCE ht.1) p ho]
  simp only[oE,oS]
  rw[ZIj (n:=(ZG w t p).length) (r:=false) (Q:=fun i=>∀(h:i<(ZG w t p).length) (h':i<p.kids.length),ZFf w d (ZG w t p)[i] p.kids[i]) (L:=uC w t p (ZG w t p))
   (fun k hk=>by rw[uC,iN (by omega)])
   (fun k hk hq=>by
    have hk':k<p.kids.length:=by omega
    rw[uC,iP hk,gQ hk,gQ hk']
    simp only[oE,oS]
    rw[ih k hk hk']
    simp only[oS]
    rw[iP (dec_of (hq hk hk'))])
   (fun k hk hq=>by
    have hk':k<p.kids.length:=by omega
    rw[uC,iP hk,gQ hk,gQ hk']
    simp only[oE,oS]
    rw[ih k hk hk']
    simp only[oS]
    rw[iN (by rw[ZB fun h=>hq fun _ _=>h];simp)]) _ 0 rfl]
  simp only[oS]
  by_cases hall:∀i,0<=i->i<(ZG w t p).length->∀(h:i<(ZG w t p).length) (h':i<p.kids.length),ZFf w d (ZG w t p)[i] p.kids[i]
  ·rw[iP (dec_of hall)]
   simp only
   by_cases h5:p.op=5
   ·have et:=Zz ho h5
    have h0:0<p.kids.length:=by rw[hl,et];simp
    have h1:1<p.kids.length:=by rw[hl,et];simp
    have h0':0<(ZG w t p).length:=by rw[et];simp
    have h1':1<(ZG w t p).length:=by rw[et];simp
    have e0:(ZG w t p)[0]=t:=by simp[et]
    have e1:(ZG w t p)[1]=t:=by simp[et]
    have a0:=hk 0 (zA _) h0' h0' h0
    have a1:=hk 1 (by omega) h1' h1' h1
    have b1:=hall 1 (by omega) h1' h1' h1
    rw[e0]at a0
    rw[e1]at a1 b1
    rw[iP h5,gQ h0,gQ h1]
    simp only[oS]
    rw[P.YC w hw d t _ [] ht a0 (by have:=hkw 0 h0;simp;omega),P.YC w hw d t _ [] ht a1 (by have:=hkw 1 h1;simp;omega)]
    simp only[oS,yB]
    rw[P.YAU _ _ (ZBg a1 b1)]
    simp only[oS]
    congr 1
    refine ZJ ⟨fun h=>⟨hall,?_⟩,fun h=> ?_⟩
    ·rw[iP h5];exact fun _ _=>h
    ·have:=h.2;rw[iP h5]at this;exact this h0 h1
   ·rw[iN h5,P.YC w hw (d+1) t p [] ht hs' (by simp;omega)]
    simp only[oS,yB]
    rw[P.YY]
    simp only[oS]
    by_cases hn:ZHO (ZU w (d+1) t p)
    ·rw[iP (dec_of hn),dec_of ⟨hall,by rw[iN h5];exact hn⟩]
    ·rw[iN (by rw[ZB hn];simp),ZB fun h=>hn (by have:=h.2;rwa[iN h5]at this)]
  ·rw[iN (by rw[ZB hall];simp),ZB fun h=>hall h.1]
theorem ZH6 {f:Ty×Pattern->List VarType}{x:VarType}:∀{ts:List Ty} {ks:List Pattern} {n:Nat},x∈(((ts.zip ks).take n).flatMap f)->∃i,∃(h:i<ts.length) (h':i<ks.length),x∈f (ts[i],ks[i])
 | [],ks,n,h=>by simp at h
 |t::ts,[],n,h=>by simp at h
 |t::ts,k::ks,0,h=>by simp at h
 |t::ts,k::ks,n+1,h=>by
  simp only[yT,xF,yA,yH]at h
  rcases h with h|h
  ·exact⟨0,by simp,by simp,by simpa using h⟩
  ·obtain⟨i,h1,h2,h3⟩:=ZH6 h
   exact⟨i+1,by simpa using h1,by simpa using h2,by simpa using h3⟩
theorem ZDN {w:List Data}(hw:ZS w):∀{d:Nat} {t:Ty} {p:Pattern},ZAA w t->Ze w d t p->∀x,x∈ZU w d t p->0<=x.var/\x.var<=5/\ZAA w x.type
 |0,t,p,ht,hs=>hs.elim
 |d+1,t,p,ht,hs=>by
  obtain⟨ho,hl,hk⟩:=hs
  intro x hx
  rw[ZU,yH]at hx
  rcases hx with hx|hx
  ·split at hx
   ·next h=>
    simp at hx;subst hx
    unfold ZAy at ho
    refine⟨?_,?_,ht⟩<;>simp only<;>omega
   ·cases hx
  ·obtain⟨i,h,h',hm⟩:=ZH6 hx
   exact ZDN hw (ZA6 hw ht ho _ (gM h)) (hk i (by omega) h h h') x hm
theorem ZRW {R:Type}{vs:List VarType}{r:R}{M:(Nat->Bool)->Nat->Option (Lo R Unit)}(hv:∀x,x∈vs->0<=x.var/\x.var<=5)
  (hM:∀s i,M s i=if i<vs.length then vs[i]? >>=fun x=>if 0<=x.var/\x.var.toNat<6 then(if s x.var.toNat=true then some (.ret r)else M (ZGw s x.var.toNat true) (i+1))else none else some (.go ())):
  ∀(m i:Nat) (s:Nat->Bool),vs.length-i=m->M s i=some (if dec (ZHO (vs.drop i)/\∀x,x∈vs.drop i->s x.var.toNat=false)=true then .go ()else .ret r):=by
 intro m
 induction m with
 |zero=>
  intro i s hm
  rw[hM,iN (by omega),zT (by omega),iP (dec_of ⟨by simp[ZHO],by simp⟩)]
 |succ m ih=>
  intro i s hm
  have hi:i<vs.length:=by omega
  have hr:=hv _ (gM hi)
  rw[hM,iP hi,gQ hi]
  simp only[oE,oS]
  rw[iP (by omega),zS hi]
  by_cases h:s vs[i].var.toNat=true
  ·rw[iP h,iN]
   rw[ZB fun hh=> ?_];· simp
   have:=hh.2 vs[i] (yG ..)
   rw[h]at this;cases this
  ·rw[iN h,ih (i+1) _ (by omega)]
   congr 2
   rw[ZJ]
   have hs:s vs[i].var.toNat=false:=by simpa using h
   constructor
   ·rintro⟨h1,h2⟩
    refine⟨?_,fun x hx=> ?_⟩
    ·unfold ZHO at h1 ⊢
     rw[zW,yS]
     refine⟨fun hm=> ?_,h1⟩
     obtain⟨y,hy,e⟩:=yE.1 hm
     have:=h2 y hy
     rw[e]at this
     simp[ZGw]at this
    ·rcases yR.1 hx with rfl|hx
     ·exact hs
     ·have:=h2 x hx
      unfold ZGw at this
      split at this
      ·cases this
      ·exact this
   ·rintro⟨h1,h2⟩
    unfold ZHO at h1 ⊢
    rw[zW,yS]at h1
    refine⟨h1.2,fun x hx=> ?_⟩
    unfold ZGw
    have hx':=hv x (List.mem_of_mem_drop hx)
    rw[iN fun e=>h1.1 (yE.2 ⟨x,hx,by omega⟩)]
    exact h2 x (zZ _ hx)
abbrev ZQY (w:List Data)(d:Nat)(ts:List Ty)(ks:List Pattern)(i:Nat):Prop:=∀j,i<=j->j<ts.length->∀(h:j<ts.length) (h':j<ks.length),Ze w d ts[j] ks[j]/\ZFf w d ts[j] ks[j]
def ZCN (w:List Data)(d:Nat)(t:Ty)(p:Pattern)(count:Nat)(vs:List VarType)(b:Bool)(c:Nat):Prop:=
 (b=true↔Ze w d t p/\ZFf w d t p/\count+(1+p.wt)<=60)/\(b=true->c=count+(1+p.wt)/\vs=ZU w d t p)
theorem P.YBH (w:List Data)(d:Nat)(hd:d+1<=10)(p:Pattern)(hp:p.wt<=1048576)(ts:List Ty)(hl:ts.length=p.kids.length)(hts:∀a,a∈ts->ZAA w a)(h5:p.op≠5)
  (L:Int->List VarType->Nat->Option (Lo ((List VarType)×Bool×Int) (Int×(List VarType))))
  (hL:∀z vars i,L z vars i=if i<p.kids.length then p.kids[i]? >>=fun x=>ts[i]? >>=fun y=>vA w y x (i64.wrap (((11- (d+1):Nat):Int)+1)) z>>=fun r=>if r.2.1=true then(if p.op=5 then(if i=1 then vU vars r.1>>=fun b=>if b=true then L r.2.2 vars (i+1)else some (.ret ([],false,r.2.2))else(if vars.length+r.1.length<=67108864 then L r.2.2 (vars++r.1) (i+1)else none))else(if vars.length+r.1.length<=67108864 then L r.2.2 (vars++r.1) (i+1)else none))else some (.ret ([],false,r.2.2))else some (.go (z,vars)))
  (ih:∀(t:Ty) (x:Pattern) (count:Nat),ZAA w t->x.wt<=1048576->count<=60->∃vs b c,vA w t x ((11-d:Nat):Int) (count:Int)=some (vs,b,((c:Nat):Int))/\ZCN w d t x count vs b c):
  ∀(m i z:Nat) (vars:List VarType),p.kids.length-i=m->z<=60->vars.length+((p.kids.drop i).map fun k=>1+k.wt).sum<=67108864->∃o,L z vars i=some o/\
   match o with
   | .ret (vs,b,c)=>b=false/\∃c':Nat,c=(c':Int)/\¬(ZQY w d ts p.kids i/\z+((p.kids.drop i).map fun k=>1+k.wt).sum<=60)
   | .go (c,vs)=>c=((z+((p.kids.drop i).map fun k=>1+k.wt).sum:Nat):Int)/\vs=vars++((ts.zip p.kids).drop i).flatMap (fun x=>ZU w d x.1 x.2)/\ZQY w d ts p.kids i/\z+((p.kids.drop i).map fun k=>1+k.wt).sum<=60:=by
 intro m
 induction m with
 |zero=>
  intro i z vars hm hz hb
  rw[hL,iN (by omega)]
  refine⟨_,rfl,?_⟩
  rw[zT (by omega),zT (by simp;omega)]
  exact⟨by simp,by simp,fun j h1 h2=>by omega,by simpa using hz⟩
 |succ m ihm=>
  intro i z vars hm hz hb
  have hi:i<p.kids.length:=by omega
  have hi':i<ts.length:=by omega
  have hkw:=Zb kJ (gM hi)
  have hpw:=p.wt_eq
  rw[zS hi]at hb ⊢
  simp only[zW,yV]at hb ⊢
  rw[hL,iP hi,gQ hi,gQ hi']
  simp only[oE,oS]
  rw[ZD (by omega) (by omega),show(((11- (d+1):Nat):Int)+1)=((11-d:Nat):Int)from by omega]
  obtain⟨vs,b,c,h1,h2,h3⟩:=ih ts[i] p.kids[i] z (hts _ (gM hi')) (by omega) hz
  rw[h1]
  simp only[oS]
  cases b with
  |true=>
   rw[iP rfl,iN h5]
   obtain⟨hc,hv⟩:=h3 rfl
   obtain⟨hp1,hp2,hle⟩:=h2.1 rfl
   have hvl:=ZCQ w d ts[i] p.kids[i]
   rw[←hv]at hvl
   rw[iP (by omega)]
   obtain⟨o,g1,g2⟩:=ihm (i+1) c (vars++vs) (by omega) (by omega) (by rw[zU];omega)
   refine⟨o,g1,?_⟩
   cases o with
   |ret r=>
    obtain⟨vs',b',c'⟩:=r
    obtain⟨q1,c2,q2,q3⟩:=g2
    exact⟨q1,c2,q2,fun hh=>q3 ⟨fun j a b e f=>hh.1 j (by omega) b e f,by omega⟩⟩
   |go r=>
    obtain⟨c2,vs2⟩:=r
    obtain⟨q1,q2,q3,q4⟩:=g2
    refine⟨by rw[q1];congr 1;omega,?_,fun j a b e f=> ?_,by omega⟩
    ·rw[q2,zS (l:=ts.zip p.kids) (i:=i) (by simp;omega),hv];simp
    ·by_cases hj:i=j
     ·subst hj;exact⟨hp1,hp2⟩
     ·exact q3 j (by omega) b e f
  |false=>
   rw[iN (by simp)]
   refine⟨_,rfl,rfl,c,rfl,fun hh=> ?_⟩
   have hk:=hh.1 i (zA _) hi' hi' hi
   have:=h2.2 ⟨hk.1,hk.2,by omega⟩
   cases this
theorem P.Yg (w:List Data)(hw:ZS w):∀(d:Nat) (t:Ty) (p:Pattern) (count:Nat),d<=10->ZAA w t->p.wt<=1048576->count<=60->
  ∃vs b c,vA w t p ((11-d:Nat):Int) (count:Int)=some (vs,b,((c:Nat):Int))/\ZCN w d t p count vs b c
 |d,t,p,count,hd,ht,hp,hc=>by
  have e1:i64.wrap ((count:Int)+1)=((count+1:Nat):Int):=by rw[ZD (by omega) (by omega)];omega
  have no:∀(h:¬(Ze w d t p/\ZFf w d t p/\count+(1+p.wt)<=60)) (c:Nat),∃vs b c',(some (([]:List VarType),false,(c:Int)):Option (List VarType×Bool×Int))=some (vs,b,((c':Nat):Int))/\ZCN w d t p count vs b c':=
   fun h c=>⟨[],false,c,rfl,⟨fun h=>(by cases h),fun hh=>absurd hh h⟩,fun h=>by cases h⟩
  rw[vA,e1]
  by_cases h60:60<((count+1:Nat):Int)
  ·rw[iP h60];exact no (fun h=>by omega) _
  rw[iN h60]
  match d,hd with
  |0,_=>
   rw[iP (by omega)]
   exact no (fun h=>h.1.elim) _
  |d+1,hd=>
   rw[iN (by omega)]
   obtain⟨ts,h1,h2⟩:=P.YAr w hw t (ZCE ht.1) p
   rw[h1]
   simp only[oE,oS]
   by_cases hs:ZAy w t p/\p.kids.length=(ZG w t p).length
   ·rw[iP (dec_of hs)]
    obtain⟨ho,hl⟩:=hs
    obtain rfl:=h2 ho
    have hts:=ZA6 hw ht ho
    have hwt:=ZH7 p
    have ihx:∀(t:Ty) (x:Pattern) (count:Nat),ZAA w t->x.wt<=1048576->count<=60->∃vs b c,vA w t x ((11-d:Nat):Int) (count:Int)=some (vs,b,((c:Nat):Int))/\ZCN w d t x count vs b c:=
     fun t x c ht hx hc=>P.Yg w hw d t x c (by omega) ht hx hc
    have shape_of:∀{i:Nat},ZQY w d (ZG w t p) p.kids 0->Ze w (d+1) t p:=fun h=>⟨ho,hl,fun i _ hi h1 h2=>(h i (by omega) hi h1 h2).1⟩
    by_cases h5:p.op=5
    ·rw[iN (by omega),iN (by omega)]
     have et:=Zz ho h5
     have h0:0<p.kids.length:=by rw[hl,et];simp
     have h1':1<p.kids.length:=by rw[hl,et];simp
     have hl2:p.kids.length=2:=by rw[hl,et];rfl
     have e0:(ZG w t p)[0]? =some t:=by rw[et];rfl
     have e1:(ZG w t p)[1]? =some t:=by rw[et];rfl
     have hsum:p.wt=(1+p.kids[0].wt)+(1+p.kids[1].wt):=by
      have e:p.kids=[p.kids[0],p.kids[1]]:=xP (by simp[hl2]) (fun i h1 h2=>by
       have:i=0∨i=1:=by omega
       rcases this with rfl|rfl<;>rfl)
      rw[hwt,zV]
      conv=>lhs;rw[e]
      simp
     have ed:i64.wrap (((11- (d+1):Nat):Int)+1)=((11-d:Nat):Int):=by rw[ZD (by omega) (by omega)];omega
     obtain⟨v0,b0,c0,a1,a2,a3⟩:=ihx t p.kids[0] (count+1) ht (by omega) (by omega)
     have kid0:Ze w (d+1) t p->ZFf w (d+1) t p->(Ze w d t p.kids[0]/\ZFf w d t p.kids[0])/\(Ze w d t p.kids[1]/\ZFf w d t p.kids[1])/\ZG4 (ZU w d t p.kids[0]) (ZU w d t p.kids[1]):=by
      rintro⟨_,_,hk⟩ ⟨q1,q2⟩
      rw[iP h5]at q2
      have x0':0<(ZG w t p).length:=by rw[et];simp
      have x1':1<(ZG w t p).length:=by rw[et];simp
      have y0:(ZG w t p)[0]=t:=by simp[et]
      have y1:(ZG w t p)[1]=t:=by simp[et]
      have k0:=hk 0 (zA _) x0' x0' h0
      have k1:=hk 1 (by omega) x1' x1' h1'
      have l0:=q1 0 (zA _) x0' x0' h0
      have l1:=q1 1 (by omega) x1' x1' h1'
      rw[y0]at k0 l0
      rw[y1]at k1 l1
      exact⟨⟨k0,l0⟩,⟨k1,l1⟩,q2 h0 h1'⟩
     rw[vE,iP h0,gQ h0,e0]
     simp only[oE,oS]
     rw[ed,a1]
     simp only[oS]
     cases b0 with
     |false=>
      rw[iN (by simp)]
      simp only[oS]
      exact no (fun h=>by
       have:=a2.2 ⟨(kid0 h.1 h.2.1).1.1,(kid0 h.1 h.2.1).1.2,by omega⟩
       cases this) _
     |true=>
      obtain⟨hc0,rfl⟩:=a3 rfl
      obtain⟨s0,l0,z0⟩:=a2.1 rfl
      have hv0:=ZCQ w d t p.kids[0]
      rw[iP rfl,iP h5,iN (by omega),iP (by simp;omega),vE,iP h1',gQ h1',e1]
      simp only[oE,oS]
      obtain⟨v1,b1,c1,g1,g2,g3⟩:=ihx t p.kids[1] c0 ht (by omega) (by omega)
      rw[ed,g1]
      simp only[oS]
      cases b1 with
      |false=>
       rw[iN (by simp)]
       simp only[oS]
       exact no (fun h=>by
        have:=g2.2 ⟨(kid0 h.1 h.2.1).2.1.1,(kid0 h.1 h.2.1).2.1.2,by omega⟩
        cases this) _
      |true=>
       obtain⟨hc1,rfl⟩:=g3 rfl
       obtain⟨s1,l1,z1⟩:=g2.1 rfl
       rw[iP rfl,iP h5,iP trivial,P.YAA]
       simp only[oS,yB]
       by_cases hsv:ZG4 (ZU w d t p.kids[0]) (ZU w d t p.kids[1])
       ·rw[iP (dec_of hsv),vE,iN (by omega)]
        simp only[oS]
        have kk:∀i,0<=i->i<(ZG w t p).length->∀(h:i<(ZG w t p).length) (h':i<p.kids.length),Ze w d (ZG w t p)[i] p.kids[i]/\ZFf w d (ZG w t p)[i] p.kids[i]:=by
         intro i _ _ h h'
         have ei:(ZG w t p)[i]=t:=by
          have:i=0∨i=1:=by omega
          rcases this with rfl|rfl<;>simp[et]
         rw[ei]
         have:i=0∨i=1:=by omega
         rcases this with rfl|rfl
         ·exact⟨s0,l0⟩
         ·exact⟨s1,l1⟩
        have sh:Ze w (d+1) t p:=⟨ho,hl,fun i a b c e=>(kk i a b c e).1⟩
        have li:ZFf w (d+1) t p:=⟨fun i a b c e=>(kk i a b c e).2,by rw[iP h5];exact fun _ _=>hsv⟩
        have hnd:=ZBg sh li
        have hvk:=ZDN hw ht sh
        rw[ZDM ho h5 h0]at hnd hvk
        rw[ZRW (vs:=ZU w d t p.kids[0]) (M:=vT ((c1:Int),ZU w d t p.kids[0])) (r:=([],false,(c1:Int))) (fun x hx=>⟨(hvk x hx).1,(hvk x hx).2.1⟩) (fun s i=>by rw[vT]) _ 0 _ rfl,zV,iP (dec_of ⟨hnd,fun _ _=>rfl⟩)]
        exact⟨_,true,c1,rfl,⟨fun _=>⟨sh,li,by omega⟩,fun _=>rfl⟩,fun _=>⟨by omega,(ZDM ho h5 h0).symm⟩⟩
       ·rw[iN (by rw[ZB hsv];simp)]
        simp only[oS]
        exact no (fun h=>hsv (kid0 h.1 h.2.1).2.2) _
    ·have kidx:Ze w (d+1) t p->ZFf w (d+1) t p->ZQY w d (ZG w t p) p.kids 0:=fun a b i hi hlt h h'=>⟨a.2.2 i hi hlt h h',b.1 i hi hlt h h'⟩
     have fin:∀(v00:List VarType) (hv00:v00.length<=1) (hv:v00=if p.op=2∨p.op=6 then[(⟨p.var,t⟩:VarType)]else[])
       (L:Int->List VarType->Nat->Option (Lo ((List VarType)×Bool×Int) (Int×(List VarType))))
       (hL:∀z vars i,L z vars i=if i<p.kids.length then p.kids[i]? >>=fun x=>(ZG w t p)[i]? >>=fun y=>vA w y x (i64.wrap (((11- (d+1):Nat):Int)+1)) z>>=fun r=>if r.2.1=true then(if p.op=5 then(if i=1 then vU vars r.1>>=fun b=>if b=true then L r.2.2 vars (i+1)else some (.ret ([],false,r.2.2))else(if vars.length+r.1.length<=67108864 then L r.2.2 (vars++r.1) (i+1)else none))else(if vars.length+r.1.length<=67108864 then L r.2.2 (vars++r.1) (i+1)else none))else some (.ret ([],false,r.2.2))else some (.go (z,vars)))
       (M:Int×List VarType->(Nat->Bool)->Nat->Option (Lo ((List VarType)×Bool×Int) Unit))
       (hM:∀q s i,M q s i=if i<q.2.length then q.2[i]? >>=fun x=>if 0<=x.var/\x.var.toNat<6 then(if s x.var.toNat=true then some (.ret ([],false,q.1))else M q (ZGw s x.var.toNat true) (i+1))else none else some (.go ())),
       ∃vs b c,((L ((count+1:Nat):Int) v00 0).bind fun o=>match o with
        | .ret r0=>some r0
        | .go s=>(M s (fun _=>false) 0).bind fun o=>match o with
         | .ret r0=>some r0
         | .go _=>some (s.2,true,s.1))=some (vs,b,((c:Nat):Int))/\ZCN w (d+1) t p count vs b c:=by
      intro v00 hv00 hv L hL M hM
      obtain⟨o,g1,g2⟩:=P.YBH w d hd p hp (ZG w t p) hl.symm hts h5 L hL ihx _ 0 (count+1) v00 rfl (by omega) (by rw[←hwt];omega)
      rw[g1]
      simp only[oS]
      rw[←hwt]at g2
      cases o with
      |ret r=>
       obtain⟨vs,b,c⟩:=r
       obtain⟨rfl,c',rfl,q3⟩:=g2
       exact⟨vs,false,c',rfl,⟨fun h=>(by cases h),fun hh=>absurd ⟨kidx hh.1 hh.2.1,by have:=hh.2.2;omega⟩ q3⟩,fun h=>by cases h⟩
      |go s=>
       obtain⟨c,vs⟩:=s
       obtain⟨rfl,q2,q3,q4⟩:=g2
       have hvs:vs=ZU w (d+1) t p:=by
        rw[q2,ZU,hv,iN h5,zX (by simp;omega)];simp
       have sh:Ze w (d+1) t p:=⟨ho,hl,fun i a b c e=>(q3 i a b c e).1⟩
       have hvk:=ZDN hw ht sh
       rw[←hvs]at hvk
       dsimp only
       rw[ZRW (vs:=vs) (M:=M (((count+1+p.wt:Nat):Int),vs)) (r:=([],false,((count+1+p.wt:Nat):Int))) (fun x hx=>⟨(hvk x hx).1,(hvk x hx).2.1⟩) (fun s i=>by rw[hM]) _ 0 _ rfl,zV]
       simp only[oS]
       by_cases hn:ZHO vs
       ·rw[iP (dec_of ⟨hn,fun _ _=>by first|rfl|trivial⟩)]
        exact⟨vs,true,count+1+p.wt,rfl,⟨fun _=>⟨sh,⟨fun i a b c e=>(q3 i a b c e).2,by rw[iN h5,←hvs];exact hn⟩,by omega⟩,fun _=>rfl⟩,fun _=>⟨by omega,hvs⟩⟩
       ·rw[iN (by rw[ZB fun h=>hn h.1];simp)]
        exact no (fun h=>hn (by have:=h.2.1.2;rw[iN h5,←hvs]at this;exact this)) _
     by_cases h2:p.op=2
     ·rw[iP h2]
      exact fin [⟨p.var,t⟩] (by simp) (by rw[iP (.inl h2)]) (F.f169 w p ((11- (d+1):Nat):Int) (ZG w t p,dec (ZAy w t p/\p.kids.length=(ZG w t p).length))) (fun z vars i=>by rw[F.f169]) F.f165 (fun q s i=>by rw[F.f165])
     ·rw[iN h2]
      by_cases h6:p.op=6
      ·rw[iP h6]
       exact fin [⟨p.var,t⟩] (by simp) (by rw[iP (.inr h6)]) (F.f167 w p ((11- (d+1):Nat):Int) (ZG w t p,dec (ZAy w t p/\p.kids.length=(ZG w t p).length))) (fun z vars i=>by rw[F.f167]) F.f163 (fun q s i=>by rw[F.f163])
      ·rw[iN h6]
       exact fin [] (by simp) (by rw[iN (by omega)]) (vE w p ((11- (d+1):Nat):Int) (ZG w t p,dec (ZAy w t p/\p.kids.length=(ZG w t p).length))) (fun z vars i=>by rw[vE]) vT (fun q s i=>by rw[vT])
   ·rw[iN (by rw[ZB hs];simp)]
    exact no (fun h=>hs ⟨h.1.1,h.1.2.1⟩) _
termination_by d=>d
def ZFz (w:List Data)(t:Ty)(p:Pattern):Prop:=Ze w 10 t p/\ZFf w 10 t p/\1+p.wt<=60
theorem P.YBD (w:List Data)(hw:ZS w)(t:Ty)(ht:ZAA w t)(p:Pattern)(hp:p.wt<=1048576):F.f80 w t p=some (dec (ZFz w t p)):=by
 unfold F.f80
 have e10:uH w t p 10=some (dec (Ze w 10 t p)):=P.YH w hw 10 t p ht (by omega)
 rw[e10]
 simp only[oE,oS]
 by_cases h1:Ze w 10 t p
 ·rw[iP (dec_of h1)]
  obtain⟨c,g1,g2,g3,g4,g5⟩:=P.YBI p hp 60 (by omega)
  have g1':kG p 60=some (c:Int):=g1
  rw[g1']
  simp only[oS]
  by_cases hc:1+p.wt<=60
  ·rw[iP (by have:=g4 hc;omega),P.YM w hw 10 t p ht h1 hp]
   simp only[oS]
   congr 1;exact ZJ ⟨fun h=>⟨h1,h,hc⟩,fun h=>h.2.1⟩
  ·rw[iN (by have:=g5 (by omega);omega),ZB fun h=>hc h.2.2]
 ·rw[iN (by rw[ZB h1];simp),ZB fun h=>h1 h.1]
theorem P.Ya (w:List Data)(hw:ZS w)(t:Ty)(ht:ZAA w t)(p:Pattern)(hp:p.wt<=1048576):∃vs,F.f170 w t p=some (vs,dec (ZFz w t p))/\(ZFz w t p->vs=ZU w 10 t p):=by
 unfold F.f170
 obtain⟨vs,b,c,g1,g2,g3⟩:=P.Yg w hw 10 t p 0 (by omega) ht hp (by omega)
 have g1':vA w t p 1 0=some (vs,b,(c:Int)):=g1
 rw[g1']
 simp only[oE,oS]
 have hb:b=dec (ZFz w t p):=by
  cases b with
  |true=>rw[dec_of];obtain⟨a,b,c⟩:=g2.1 rfl;exact⟨a,b,by omega⟩
  |false=>rw[ZB];intro h;have:=g2.2 ⟨h.1,h.2.1,by have:=h.2.2;omega⟩;cases this
 subst hb
 exact⟨vs,rfl,fun h=>(g3 (dec_of h)).2⟩
def gOk (g:Guard)(vs:List VarType):Prop:=(g.op=0/\g.var=0/\g.n=0)∨((g.op=1∨g.op=2)/\0<=g.n/\g.n<=9/\(⟨g.var,⟨-1,0⟩⟩:VarType)∈vs)
theorem P.YAX (g:Guard)(vs:List VarType):F.f171 g vs=some (dec (gOk g vs)):=by
 unfold F.f171
 simp only[P.YD,P.YA,oE,oS]
 by_cases h0:g.op=0
 ·rw[iP h0];congr 1;refine ZJ ?_;unfold gOk eq3;simp only;omega
 ·rw[iN h0]
  by_cases h1:1<=g.op/\g.op<=2
  ·rw[iP (dec_of h1)]
   by_cases h2:0<=g.n/\g.n<=9
   ·rw[iP (dec_of h2)];congr 1
    refine ZJ ⟨fun h=>.inr ⟨by omega,h2.1,h2.2,h⟩,fun h=> ?_⟩
    rcases h with h|h
    ·omega
    ·exact h.2.2.2
   ·rw[iN (by rw[ZB h2];simp),ZB]
    rintro(h|h)
    ·omega
    ·exact h2 ⟨h.2.1,h.2.2.1⟩
  ·rw[iN (by rw[ZB h1];simp),ZB]
   rintro(h|h)
   ·omega
   ·omega
theorem P.YAT (w:List Data)(g:Guard)(vs:List VarType)(hn:ZHO vs)(ht:∀x,x∈vs->ZAA w x.type):F.f81 g vs=some (dec (gOk g vs)):=by
 unfold F.f81
 have key:g.op=1∨g.op=2->(if g.n<0 then some false else if 9<g.n then some false else(kF vs g.var)>>=fun v21=>if 0<=v21 then(at? vs v21)>>=fun x25=>some (decide (x25.type.data=(-1)))else some false)=some (dec (gOk g vs)):=by
  intro hop
  by_cases a1:g.n<0
  ·rw[iP a1,ZB];rintro(h|h)<;>omega
  rw[iN a1]
  by_cases a2:9<g.n
  ·rw[iP a2,ZB];rintro(h|h)<;>omega
  rw[iN a2,P.YF]
  simp only[oE,oS]
  rcases ZB5 vs g.var with h|⟨j,hj,h1,h2,h3⟩
  ·rw[iN (by omega),ZB]
   rintro(h'|h')
   ·omega
   ·exact ZEl h _ h'.2.2.2 rfl
  ·rw[iP (by omega),h1,ZEs,gQ hj]
   simp only[oS]
   rw[←ZAJ];congr 1
   refine ZJ ⟨fun h=>.inr ⟨hop,by omega,by omega,?_⟩,fun h=> ?_⟩
   ·have hty:=ht _ (gM hj)
    have hi:vs[j].type.index=0:=by unfold ZAA ZBn at hty;omega
    have:(⟨g.var,⟨-1,0⟩⟩:VarType)=vs[j]:=ZOw (by simp[h2]) ⟨by simp[h],by simp[hi]⟩
    rw[this];exact gM hj
   ·rcases h with h|h
    ·omega
    ·obtain⟨i,hi,e⟩:=yF h.2.2.2
     have hij:i=j:=by
      rw[ZFE]at hn
      rcases zM i j with hlt|heq|hlt
      ·exact absurd (by rw[e,h2]) (hn i j hi hj hlt)
      ·exact heq
      ·exact absurd (by rw[e,h2]) (hn j i hj hi hlt)
     subst hij
     rw[e]
 by_cases h0:g.op=0
 ·rw[iP h0]
  by_cases h1:g.var=0
  ·rw[iP h1,←ZAJ];congr 1;refine ZJ ⟨fun h=>.inl ⟨h0,h1,h⟩,fun h=> ?_⟩
   rcases h with h|h
   ·exact h.2.2
   ·omega
  ·rw[iN h1,ZB];rintro(h|h)<;>omega
 ·rw[iN h0]
  by_cases h1:g.op=1
  ·rw[iP h1];exact key (.inl h1)
  ·rw[iN h1]
   by_cases h2:g.op=2
   ·rw[iP h2];exact key (.inr h2)
   ·rw[iN h2,ZB];rintro(h|h)<;>omega
def ZLA (w:List Data)(t:Ty)(c:Clause):Prop:=ZFz w t c.pat/\gOk c.guard (ZU w 10 t c.pat)
theorem P.YBC (w:List Data)(hw:ZS w)(t:Ty)(ht:ZAA w t)(c:Clause)(hp:c.pat.wt<=1048576):F.f82 w t c=some (dec (ZLA w t c)):=by
 unfold F.f82
 rw[P.YBD w hw t ht _ hp]
 simp only[oE,oS]
 by_cases h:ZFz w t c.pat
 ·rw[iP (dec_of h),P.YC w hw 10 t c.pat [] ht h.1 (by simp;omega)]
  simp only[oS,yB]
  rw[P.YAT w _ _ (ZBg h.1 h.2.1) (fun x hx=>(ZDN hw ht h.1 x hx).2.2)]
  simp only[oS]
  congr 1;exact ZJ ⟨fun g=>⟨h,g⟩,fun g=>g.2⟩
 ·rw[iN (by rw[ZB h];simp),ZB fun g=>h g.1]
theorem P.YAE (w:List Data)(hw:ZS w)(t:Ty)(ht:ZAA w t)(c:Clause)(hp:c.pat.wt<=1048576):F.f172 w t c=some (dec (ZLA w t c)):=by
 unfold F.f172
 obtain⟨vs,h1,h2⟩:=P.Ya w hw t ht c.pat hp
 rw[h1]
 simp only[oE,oS]
 by_cases h:ZFz w t c.pat
 ·rw[iP (dec_of h),P.YAX,h2 h]
  simp only[oS]
  congr 1;exact ZJ ⟨fun g=>⟨h,g⟩,fun g=>g.2⟩
 ·rw[iN (by rw[ZB h];simp),ZB fun g=>h g.1]
def ZRX (v:Int):Nat->Pattern->Prop
 |0,_=>False
 |d+1,p=>(∃i,∃h:i<p.kids.length,ZRX v d p.kids[i])∨((p.op=2∨p.op=6)/\p.var=v)
def hv (d:Nat)(p:Pattern):Prop:=∃v,ZRX v d p
theorem ZDP (h:l.length=2):l=[l[0]'(by omega),l[1]'(by omega)]:=by
 match l,h with
 | [x,y],_=>rfl
def ZOY (w:List Data)(t:Ty)(l:List Clause):Prop:=ZAf w t/\l.length<=8/\∀c,c∈l->ZLA w t c
theorem P.YU (w:List Data)(hw:ZAg w)(t:Ty)(l:List Clause)(hp:∀c,c∈l->c.pat.wt<=1048576):F.f84 w t l=some (dec (ZOY w t l)):=by
 unfold F.f84
 rw[P.Yp w t hw]
 simp only[oE,oS]
 by_cases h1:ZAf w t
 ·rw[iP (dec_of h1)]
  by_cases h2:8<l.length
  ·rw[iP h2,ZB fun h=>by have:=h.2.1;omega]
  ·rw[iN h2]
   have hl:∀k,k<=l.length->kD w t l (l.length-k)=some (if dec (∀c,c∈l.drop (l.length-k)->ZLA w t c)=true then .go ()else .ret false):=by
    intro k
    induction k with
    |zero=>intro _;rw[kD,iN (by omega),iP (dec_of fun c hc=>by simp at hc)]
    |succ k ih=>
     intro hk
     have hi:l.length- (k+1)<l.length:=by omega
     rw[kD,iP hi,gQ hi]
     simp only[oE,oS]
     rw[P.YBC w h1.1 t h1.2 _ (hp _ (gM hi))]
     simp only[oS]
     have e1:l.length- (k+1)+1=l.length-k:=by omega
     have e2:l.drop (l.length- (k+1))=l[l.length- (k+1)]::l.drop (l.length-k):=by rw[zS hi,e1]
     by_cases hc:ZLA w t l[l.length- (k+1)]
     ·rw[iP (dec_of hc),e1,ih (by omega),e2]
      rw[ZJ (q:=∀c,c∈l[l.length- (k+1)]::l.drop (l.length-k)->ZLA w t c) ⟨fun h c hc'=>by
       rcases yR.1 hc' with rfl|hc'
       ·exact hc
       ·exact h c hc',fun h c hc'=>h c (zZ _ hc')⟩]
     ·rw[iN (by rw[ZB hc];simp),e2,iN (by rw[ZB fun h=>hc (h _ (yG ..))];simp)]
   have:=hl l.length (zA _)
   rw[zO,zV]at this
   rw[this]
   simp only[oS]
   by_cases h3:∀c,c∈l->ZLA w t c
   ·rw[iP (dec_of h3)];simp only;rw[dec_of ⟨h1,by omega,h3⟩]
   ·rw[iN (by rw[ZB h3];simp)];simp only;rw[ZB fun h=>h3 h.2.2]
 ·rw[iN (by rw[ZB h1];simp),ZB fun h=>h1 h.1]
theorem P.YW (w:List Data)(hw:ZAg w)(t:Ty)(l:List Clause)(hp:∀c,c∈l->c.pat.wt<=1048576):F.f177 w t l=some (dec (ZOY w t l)):=by
 unfold F.f177
 rw[P.Ys w t hw]
 simp only[oE,oS]
 by_cases h1:ZAf w t
 ·rw[iP (dec_of h1)]
  by_cases h2:l.length<=8
  ·rw[iP h2]
   unfold F.f176 F.f175
   have one:∀c,c∈l->F.f173 c w t=some (dec (¬ZLA w t c)):=by
    intro c hc
    unfold F.f173
    rw[P.YAE w h1.1 t h1.2 c (hp c hc)]
    simp only[oE,oS]
    by_cases a:ZLA w t c
    ·rw[dec_of a,ZB (by simp[a])];rfl
    ·rw[ZB a,dec_of a];rfl
   rw[ZKz (a:=l) (p:=fun c=>¬ZLA w t c) (L:=vS l w t) (fun k hk=>by rw[vS,iN (by omega)])
    (fun k hk hp=>by rw[vS,iP hk,gQ hk];simp only[oE,oS];rw[one _ (gM hk)];simp only[oS];rw[iN (by rw[ZB hp];simp)])
    (fun k hk hp=>by rw[vS,iP hk,gQ hk];simp only[oE,oS];rw[one _ (gM hk)];simp only[oS];rw[iP (dec_of hp)]) _ 0 rfl,zV]
   cases hf:ZGR (fun c=>¬ZLA w t c) 0 l with
   |none=>
    have:=ZAn hf
    simp only[oE,oS]
    rw[dec_of ⟨h1,h2,fun c hc=>xV fun h=>this c hc h⟩];rfl
   |some j=>
    obtain⟨_,h3,h4,_⟩:=ZAm hf
    simp only[oE,oS]
    rw[ZB fun h=>h4 (h.2.2 _ (gM h3))];simp
  ·rw[iN h2,ZB fun h=>h2 h.2.1]
 ·rw[iN (by rw[ZB h1];simp),ZB fun h=>h1 h.1]
def Tree.nodes :Tree->Nat
 |⟨_,_,_,_,branches,els⟩=>1+(branches.attach.map fun⟨b,_⟩=>Tree.nodes b.tree).sum+(els.attach.map fun⟨k,_⟩=>Tree.nodes k).sum
termination_by t=>SizeOf.sizeOf t
decreasing_by
 ·rename_i h
  have:=xC h
  cases b
  simp at this ⊢
  omega
 ·rename_i h
  have:=xC h
  simp
  omega
theorem P.YB (l:List Int)(h:l.length<=67108864):uL l=some l:=by unfold uL;rw[iP h]
def ZKA :Nat->Tree->Prop
 |0,_=>False
 |n+1,x=>(0<=x.op/\x.op<=2/\x.els.length<=1/\x.branches.length<=10)/\(∀b,b∈x.branches->ZKA n b.tree)/\∀y,y∈x.els->ZKA n y
def right (x:Tree):Prop:=ZKA x.nodes x
def ZFd (w:List Data):Nat->Ty->Pattern->Prop
 |0,_,_=>False
 |d+1,t,p=>ZAy w t p/\p.op≠5/\p.kids.length=(ZG w t p).length/\∀i (h:i<(ZG w t p).length) (h':i<p.kids.length),ZFd w d (ZG w t p)[i] p.kids[i]
theorem ZDa {w:List Data}:∀{d:Nat} {t:Ty} {p:Pattern},ZFd w d t p->ZFd w (d+1) t p
 |0,_,_,h=>h.elim
 |d+1,t,p,⟨h1,h2,h3,h4⟩=>⟨h1,h2,h3,fun i h h'=>ZDa (h4 i h h')⟩
theorem ZJy :∀{a b:List Pattern},a.length=b.length->(∀i (h:i<a.length) (h':i<b.length),a[i].wt<=b[i].wt)->wtL kJ a<=wtL kJ b
 | [],[],_,_=>zA _
 | [],_::_,h,_=>by simp at h
 |_::_,[],h,_=>by simp at h
 |x::a,y::b,h,hh=>by
  have h0:=hh 0 (by simp) (by simp)
  have:=ZJy (a:=a) (b:=b) (by simpa using h) fun i hi hi'=>by have:=hh (i+1) (by simpa using hi) (by simpa using hi');simpa using this
  simp only[Zw,xA]at h0 ⊢
  omega
theorem P.YBP (p:Pattern)(l:List (List Pattern)):∀(m i:Nat) (out:List Pattern),l.length-i=m->out.length+m<=67108864->kB p l out i=some (out++(l.drop i).map fun x=>⟨p.op,p.ctor,p.n,p.m,p.var,x⟩)
 |0,i,out,hm,hb=>by rw[kB,iN (by omega),zT (by omega)];simp
 |m+1,i,out,hm,hb=>by
  have hi:i<l.length:=by omega
  rw[kB,iP hi,gQ hi]
  simp only[oE,oS]
  rw[iP (by omega),P.YBP p l m (i+1) _ (by omega) (by simp;omega),zS hi,zW]
  simp[←List.map_drop]
def ZAk :List Nat->Nat
 | []=>1
 |a::r=>a*ZAk r
def Pattern.alts :Pattern->Nat
 |⟨op,_,_,_,_,kids⟩=>if op=5 then(kids.map fun k=>Pattern.alts k).sum else ZAk (kids.map fun k=>Pattern.alts k)
theorem ZFY (p:Pattern):p.alts=if p.op=5 then(p.kids.map Pattern.alts).sum else ZAk (p.kids.map Pattern.alts):=by
 cases p;rw[Pattern.alts]
theorem ZNs (a b:Nat):min (min a 401+min b 401) 401=min (a+b) 401:=by omega
theorem ZNr (a b:Nat):min (min a 401*min b 401) 401=min (a*b) 401:=by
 by_cases ha:a<=401
 ·by_cases hb:b<=401
  ·rw[zE ha,zE hb]
  ·rw[zE ha,zH (by omega:401<=b)]
   rcases zL a with rfl|h
   ·simp
   ·have h1:1*401<=a*401:=zC _ h
    have h2:1*b<=a*b:=zC _ h
    omega
 ·rw[zH (by omega:401<=a)]
  rcases zL b with rfl|h
  ·simp
  ·have h0:1<=min b 401:=by omega
   have h1:401*1<=401*min b 401:=zD _ h0
   have h2:a*1<=a*b:=zD _ h
   omega
theorem P.YAy (p:Pattern):F.f178 p=some ((min p.alts 401:Nat):Int):=by
 induction p using kK with
 |_ p ih=>
  have e:=ZFY p
  rw[F.f178]
  by_cases h5:p.op=5
  ·rw[iP h5]at e ⊢
   have key:∀(m i n:Nat),p.kids.length-i=m->vR p i ((min n 401:Nat):Int)=some ((min (n+((p.kids.drop i).map Pattern.alts).sum) 401:Nat):Int):=by
    intro m
    induction m with
    |zero=>intro i n hm;rw[vR,iN (by omega),zT (by omega)];simp
    |succ m ihm=>
     intro i n hm
     have hi:i<p.kids.length:=by omega
     rw[vR,iP hi,gQ hi]
     simp only[oE,oS]
     rw[iP h5,ih _ (gM hi)]
     simp only[oS]
     have hw:i64.wrap (((min n 401:Nat):Int)+((min p.kids[i].alts 401:Nat):Int))=((min n 401+min p.kids[i].alts 401:Nat):Int):=by rw[ZD (by omega) (by omega)];omega
     have hr:(if 401<((min n 401+min p.kids[i].alts 401:Nat):Int)then 401 else((min n 401+min p.kids[i].alts 401:Nat):Int))=((min (n+p.kids[i].alts) 401:Nat):Int):=by
      rw[←ZNs];split<;>omega
     rw[hw,hr,ihm (i+1) _ (by omega),zS hi,zW,yV,zJ]
   have k0:=key _ 0 0 rfl
   rw[zV,zG,←e]at k0
   rw[show vR p 0 0=some ((min p.alts 401:Nat):Int)from k0]
   rfl
  ·rw[iN h5]at e ⊢
   have key:∀(m i n:Nat),p.kids.length-i=m->vQ p i ((min n 401:Nat):Int)=some ((min (n*ZAk ((p.kids.drop i).map Pattern.alts)) 401:Nat):Int):=by
    intro m
    induction m with
    |zero=>intro i n hm;rw[vQ,iN (by omega),zT (by omega)];simp[ZAk]
    |succ m ihm=>
     intro i n hm
     have hi:i<p.kids.length:=by omega
     rw[vQ,iP hi,gQ hi]
     simp only[oE,oS]
     rw[iN h5,ih _ (gM hi)]
     simp only[oS]
     have hb:min n 401*min p.kids[i].alts 401<=401*401:=zN (by omega) (by omega)
     have hw:i64.wrap (((min n 401:Nat):Int)*((min p.kids[i].alts 401:Nat):Int))=((min n 401*min p.kids[i].alts 401:Nat):Int):=by
      rw[←Int.natCast_mul,ZD (by omega) (by omega)]
     have hr:(if 401<((min n 401*min p.kids[i].alts 401:Nat):Int)then 401 else((min n 401*min p.kids[i].alts 401:Nat):Int))=((min (n*p.kids[i].alts) 401:Nat):Int):=by
      rw[←ZNr]
      generalize min n 401*min p.kids[i].alts 401=z
      split<;>omega
     rw[hw,hr,ihm (i+1) _ (by omega),zS hi,zW,ZAk,zI]
   have k0:=key _ 0 1 rfl
   rw[zV,zF,←e]at k0
   rw[show vQ p 0 1=some ((min p.alts 401:Nat):Int)from k0]
   rfl
theorem ZCO :∀{l:List Nat},(∀x,x∈l->1<=x)->1<=ZAk l
 | [],_=>zA _
 |a::r,h=>by
  have h1:=h a (by simp)
  have h2:=ZCO (l:=r) fun x hx=>h x (zZ _ hx)
  exact zN h1 h2
theorem ZFX {w:List Data}:∀{d:Nat} {t:Ty} {p:Pattern},Ze w d t p->1<=p.alts
 |0,_,_,h=>h.elim
 |d+1,t,p,⟨ho,hl,hk⟩=>by
  have hks:∀k,k∈p.kids->1<=k.alts:=fun k hm=>by
   obtain⟨i,hi,rfl⟩:=yF hm
   exact ZFX (hk i (zB _) (by omega) (by omega) hi)
  rw[ZFY]
  split
  ·next h5=>
   have e5:=Zz ho h5
   have h2:p.kids.length=2:=by rw[hl,e5];rfl
   have q0:=hks _ (gM (show 0<p.kids.length by omega))
   have e9:(([p.kids[0]'(by omega),p.kids[1]'(by omega)]:List Pattern).map Pattern.alts).sum=(p.kids[0]'(by omega)).alts+(p.kids[1]'(by omega)).alts:=by simp
   rw[←ZDP h2]at e9
   omega
  ·exact ZCO fun x hx=>by
    obtain⟨k,hk2,rfl⟩:=yE.1 hx
    exact hks k hk2
theorem ZEZ {l:List Nat}(h:∀x,x∈l->1<=x)(i:Nat):ZAk (l.take i)<=ZAk l:=by
 induction l generalizing i with
 |nil=>simp[ZAk]
 |cons a r ih=>
  have hr:∀x,x∈r->1<=x:=fun x hx=>h x (zZ _ hx)
  cases i with
  |zero=>exact ZCO h
  |succ i=>exact zD _ (ih hr i)
theorem ZI8 (l:List Nat)(a:Nat):ZAk (l++[a])=ZAk l*a:=by
 induction l with
 |nil=>simp[ZAk]
 |cons b r ih=>simp only[yZ,ZAk,ih,zI]
theorem ZKR {l:List Nat}(h:∀x,x∈l->1<=x){a:Nat}(ha:a∈l):a<=ZAk l:=by
 induction l with
 |nil=>cases ha
 |cons b r ih=>
  have hr:∀x,x∈r->1<=x:=fun x hx=>h x (zZ _ hx)
  have h1:=h b (by simp)
  have h2:=ZCO hr
  rcases yR.1 ha with rfl|ha
  ·have:=zD a h2;rw[Nat.mul_one]at this;exact this
  ·have h3:=ih hr ha
   have h4:=zC (ZAk r) h1
   rw[zF]at h4
   exact Nat.le_trans h3 h4
theorem P.YAe (p:Pattern)(list:List Pattern)(i:Nat)(v:List Pattern)(i17:Nat)(q:Pattern)(hq:q.kids.length<=1048576):∀(m j:Nat) (more:List Pattern),v.length-j=m->more.length+m<=67108864->
  uO p list i v i17 q more j=some (more++(v.drop j).map fun x=>⟨q.op,q.ctor,q.n,q.m,q.var,q.kids++[x]⟩)
 |0,j,more,hm,hb=>by rw[uO,iN (by omega),zT (by omega)];simp
 |m+1,j,more,hm,hb=>by
  have hj:j<v.length:=by omega
  rw[uO,iP hj,gQ hj]
  simp only[oE,oS]
  unfold F.f181
  rw[iP (by omega)]
  simp only[oS]
  rw[iP (by omega),iP (by omega),P.YAe p list i v i17 q hq m (j+1) _ (by omega) (by simp;omega),zS hj,zW]
  simp
def Zp {β:Type}(op:Int)(path:List Int):Nat->List (List Int->List β)->List β
 |_,[]=>[]
 |i,f::r=>f (if op=4 then path++[(i:Int)]else path)++Zp op path (i+1) r
def Pattern.tst :Pattern->List Int->List Step
 |⟨op,ctor,n,m,_,kids⟩=>fun path=>(if op=3 then[(⟨1,path,-1,n,m,0,[],0⟩:Step)]else if op=4 then[⟨1,path,ctor,0,0,0,[],0⟩]else[])++Zp op path 0 (kids.map fun k=>Pattern.tst k)
def Pattern.bnd :Pattern->List Int->List PathBind
 |⟨op,_,_,_,var,kids⟩=>fun path=>(if op=2∨op=6 then[(⟨var,path⟩:PathBind)]else[])++Zp op path 0 (kids.map fun k=>Pattern.bnd k)
theorem ZFg (p:Pattern)(path:List Int):p.tst path=(if p.op=3 then[(⟨1,path,-1,p.n,p.m,0,[],0⟩:Step)]else if p.op=4 then[⟨1,path,p.ctor,0,0,0,[],0⟩]else[])++Zp p.op path 0 (p.kids.map Pattern.tst):=by
 cases p;rw[Pattern.tst]
theorem ZD8 (p:Pattern)(path:List Int):p.bnd path=(if p.op=2∨p.op=6 then[(⟨p.var,path⟩:PathBind)]else[])++Zp p.op path 0 (p.kids.map Pattern.bnd):=by
 cases p;rw[Pattern.bnd]
theorem ZCp {β:Type}(op:Int)(g:Pattern->List Int->List β)(path:List Int):∀(l:List Pattern) (h:∀k,k∈l->∀path,(g k path).length<=1+k.wt) (i:Nat),(Zp op path i (l.map g)).length<=wtL kJ l
 | [],h,i=>by simp[Zp]
 |k::r,h,i=>by
  have h1:=h k (yG ..) (if op=4 then path++[(i:Int)]else path)
  have h2:=ZCp op g path r (fun k hk=>h k (zZ _ hk)) (i+1)
  rw[zW,Zp,zU,Zw]
  omega
theorem ZDV (p:Pattern):∀path,(p.tst path).length<=1+p.wt:=by
 induction p using kK with
 |_ p ih=>
  intro path
  have h1:=ZCp p.op Pattern.tst path p.kids ih 0
  rw[ZFg,zU,p.wt_eq]
  grind
theorem ZD7 (p:Pattern):∀path,(p.bnd path).length<=1+p.wt:=by
 induction p using kK with
 |_ p ih=>
  intro path
  have h1:=ZCp p.op Pattern.bnd path p.kids ih 0
  rw[ZD8,zU,p.wt_eq]
  grind
theorem ZES {p:Pattern}{path:List Int}{L:List Step->List PathBind->Nat->Option (List Step×List PathBind)}
  (hL:∀o b i,L o b i=if i<p.kids.length then(p.kids[i]?)>>=fun x=>if p.op=4 then(uL path)>>=fun v=>if v.length+1<=67108864 then(vB x (v++[(i:Int)]) o b)>>=fun v15=>L v15.1 v15.2 (i+1)else none
   else(vB x path o b)>>=fun v18=>L v18.1 v18.2 (i+1)else some (o,b))
  (ih:∀k,k∈p.kids->∀(path:List Int) o b,path.length+k.wt<=67108863->o.length+(1+k.wt)<=67108864->b.length+(1+k.wt)<=67108864->vB k path o b=some (o++k.tst path,b++k.bnd path)) (hp:path.length+p.wt<=67108863):
  ∀(m i:Nat) (o:List Step) (b:List PathBind),p.kids.length-i=m->o.length+wtL kJ (p.kids.drop i)<=67108864->b.length+wtL kJ (p.kids.drop i)<=67108864->
   L o b i=some (o++Zp p.op path i ((p.kids.drop i).map Pattern.tst),b++Zp p.op path i ((p.kids.drop i).map Pattern.bnd))
 |0,i,o,b,hm,h1,h2=>by rw[hL,iN (by omega),zT (by omega)];simp[Zp]
 |m+1,i,o,b,hm,h1,h2=>by
  have hi:i<p.kids.length:=by omega
  have hk:1+p.kids[i].wt<=p.wt:=by rw[p.wt_eq];exact Zb kJ (gM hi)
  have ed:p.kids.drop i=p.kids[i]::p.kids.drop (i+1):=zS hi
  rw[ed,Zw]at h1 h2
  have e:L o b i=(vB p.kids[i] (if p.op=4 then path++[(i:Int)]else path) o b)>>=fun v15=>L v15.1 v15.2 (i+1):=by
   rw[hL,iP hi,gQ hi]
   simp only[oE,oS]
   by_cases h4:p.op=4
   ·rw[iP h4,iP h4,P.YB path (by omega)]
    grind
   ·rw[iN h4,iN h4]
  have hpl:(if p.op=4 then path++[(i:Int)]else path).length<=path.length+1:=by split<;>simp
  rw[e,ih _ (gM hi) _ o b (by omega) (by omega) (by omega)]
  simp only[oE,oS]
  have t1:=ZDV p.kids[i] (if p.op=4 then path++[(i:Int)]else path)
  have t2:=ZD7 p.kids[i] (if p.op=4 then path++[(i:Int)]else path)
  rw[ZES hL ih hp m (i+1) _ _ (by omega) (by rw[zU];omega) (by rw[zU];omega),ed]
  simp only[zW,Zp,zY]
theorem P.YAq (p:Pattern):∀(path:List Int) (o:List Step) (b:List PathBind),path.length+p.wt<=67108863->o.length+(1+p.wt)<=67108864->b.length+(1+p.wt)<=67108864->vB p path o b=some (o++p.tst path,b++p.bnd path):=by
 induction p using kK with
 |_ p ih=>
  intro path o b h1 h2 h3
  have hw:=p.wt_eq
  have key:=fun(L:List Step->List PathBind->Nat->Option (List Step×List PathBind)) hL o b q1 q2=>ZES (p:=p) (path:=path) (L:=L) hL ih h1 _ 0 o b rfl q1 q2
  simp only[zV]at key
  rw[vB,P.YB path (by omega),ZFg,ZD8]
  simp only[oE,oS]
  by_cases c2:p.op=2
  ·rw[iP c2,iP (by omega),key (F.f190 p path) (fun o b i=>by rw[F.f190]) _ _ (by omega) (by simp;omega)]
   simp[c2]
  ·rw[iN c2]
   by_cases c6:p.op=6
   ·rw[iP c6,iP (by omega),key (F.f191 p path) (fun o b i=>by rw[F.f191]) _ _ (by omega) (by simp;omega)]
    simp[c6]
   ·rw[iN c6]
    by_cases c3:p.op=3
    ·rw[iP c3,iP (by omega),key (F.f192 p path) (fun o b i=>by rw[F.f192]) _ _ (by simp;omega) (by omega)]
     simp[c3]
    ·rw[iN c3]
     by_cases c4:p.op=4
     ·rw[iP c4,iP (by omega),key (F.f193 p path) (fun o b i=>by rw[F.f193]) _ _ (by simp;omega) (by omega)]
      simp[c4]
     ·rw[iN c4,key (F.f194 p path) (fun o b i=>by rw[F.f194]) _ _ (by omega) (by omega)]
      simp[c2,c3,c4,c6]
theorem ZDu (path:List Int)(i:Int)(h:path.length+1<=67108864):uZ path i=some (path++[i]):=by
 unfold uZ
 grind
theorem ZIV {p:Pattern}{path:List Int}(c4:p.op=4)(ih:∀k,k∈p.kids->∀(path:List Int) o,path.length+k.wt<=67108863->o.length+(1+k.wt)<=67108864->uA o k path=some (o++k.tst path))(hp:path.length+p.wt<=67108863):
  ∀(m i:Nat) (o:List Step),p.kids.length-i=m->o.length+wtL kJ (p.kids.drop i)<=67108864->uY p path o i=some (o++Zp p.op path i ((p.kids.drop i).map Pattern.tst))
 |0,i,o,hm,h1=>by rw[uY,iN (by omega),zT (by omega)];simp[Zp]
 |m+1,i,o,hm,h1=>by
  have hi:i<p.kids.length:=by omega
  have hk:1+p.kids[i].wt<=p.wt:=by rw[p.wt_eq];exact Zb kJ (gM hi)
  have ed:p.kids.drop i=p.kids[i]::p.kids.drop (i+1):=zS hi
  rw[ed,Zw]at h1
  rw[uY,iP hi,gQ hi]
  simp only[oE,oS]
  rw[ZDu path i (by omega)]
  simp only[oS]
  rw[ih _ (gM hi) _ o (by simp;omega) (by omega)]
  simp only[oS]
  have t1:=ZDV p.kids[i] (path++[(i:Int)])
  rw[ZIV c4 ih hp m (i+1) _ (by omega) (by rw[zU];omega),ed]
  simp only[zW,Zp,zY,iP c4]
theorem ZLf {d:Nat}(h:ZFd w (d+1) t p)(h4:p.op≠4)(h6:p.op≠6):p.kids=[]:=by
 obtain⟨_,h5,hl,_⟩:=h
 unfold ZG at hl
 grind
theorem P.YA6 (w:List Data):∀(d:Nat) (t:Ty) (p:Pattern),ZFd w d t p->∀(path:List Int) (o:List Step),path.length+p.wt<=67108863->o.length+(1+p.wt)<=67108864->uA o p path=some (o++p.tst path)
 |0,_,_,h,_,_,_,_=>h.elim
 |d+1,t,p,hs,path,o,q1,q2=>by
  have nil:=ZLf hs
  obtain⟨h1,h5,hl,hk⟩:=hs
  have hw:=p.wt_eq
  have ih:∀k,k∈p.kids->∀(path:List Int) o,path.length+k.wt<=67108863->o.length+(1+k.wt)<=67108864->uA o k path=some (o++k.tst path):=fun k hk' path o r1 r2=>by
   obtain⟨i,hi,rfl⟩:=xE.1 hk'
   exact P.YA6 w d _ _ (hk i (by omega) hi) path o r1 r2
  rw[uA,ZFg]
  by_cases c6:p.op=6
  ·have et:ZG w t p=[t]:=by unfold ZG;rw[iN (by omega),iN (by omega),iP c6]
   rw[et]at hl
   obtain⟨k,ek⟩:=List.length_eq_one_iff.1 hl
   have hwk:p.wt=1+k.wt:=by rw[hw,ek];simp[wtL]
   rw[iP c6,ek]
   simp only[List.getElem?_cons_zero,oE,oS]
   rw[ih k (by simp[ek]) path o (by omega) (by omega)]
   simp[c6,Zp]
  ·rw[iN c6]
   by_cases c3:p.op=3
   ·rw[iP c3,iP (by omega),iP (by omega),nil (by omega) c6]
    simp[c3,Zp]
   ·rw[iN c3]
    by_cases c4:p.op=4
    ·have key:=ZIV c4 ih q1 _ 0 (o++[(⟨1,path,p.ctor,0,0,0,[],0⟩:Step)]) rfl (by rw[zV];simp;omega)
     grind
    ·rw[iN c4,nil c4 c6]
     simp[c3,c4,Zp]
theorem ZIW {p:Pattern}{path:List Int}{L:List PathBind->Nat->Option (List PathBind)}
  (hL:∀o i,L o i=if i<p.kids.length then if p.op=4 then(uZ path (i:Int))>>=fun v=>(p.kids[i]?)>>=fun x=>(vG o x v)>>=fun v15=>L v15 (i+1)
   else(p.kids[i]?)>>=fun x18=>(vG o x18 path)>>=fun v20=>L v20 (i+1)else some o)
  (ih:∀k,k∈p.kids->∀(path:List Int) o,path.length+k.wt<=67108863->o.length+(1+k.wt)<=67108864->vG o k path=some (o++k.bnd path)) (hp:path.length+p.wt<=67108863):
  ∀(m i:Nat) (o:List PathBind),p.kids.length-i=m->o.length+wtL kJ (p.kids.drop i)<=67108864->L o i=some (o++Zp p.op path i ((p.kids.drop i).map Pattern.bnd))
 |0,i,o,hm,h1=>by rw[hL,iN (by omega),zT (by omega)];simp[Zp]
 |m+1,i,o,hm,h1=>by
  have hi:i<p.kids.length:=by omega
  have hk:1+p.kids[i].wt<=p.wt:=by rw[p.wt_eq];exact Zb kJ (gM hi)
  have ed:p.kids.drop i=p.kids[i]::p.kids.drop (i+1):=zS hi
  rw[ed,Zw]at h1
  have e:L o i=(vG o p.kids[i] (if p.op=4 then path++[(i:Int)]else path))>>=fun v15=>L v15 (i+1):=by
   rw[hL,iP hi,gQ hi]
   by_cases h4:p.op=4
   ·rw[iP h4,iP h4,ZDu path i (by omega)]
    grind
   ·grind
  have hpl:(if p.op=4 then path++[(i:Int)]else path).length<=path.length+1:=by split<;>simp
  rw[e,ih _ (gM hi) _ o (by omega) (by omega)]
  simp only[oE,oS]
  have t2:=ZD7 p.kids[i] (if p.op=4 then path++[(i:Int)]else path)
  rw[ZIW hL ih hp m (i+1) _ (by omega) (by rw[zU];omega),ed]
  simp only[zW,Zp,zY]
theorem P.YBc (p:Pattern):∀(path:List Int) (o:List PathBind),path.length+p.wt<=67108863->o.length+(1+p.wt)<=67108864->vG o p path=some (o++p.bnd path):=by
 induction p using kK with
 |_ p ih=>
  intro path o h1 h2
  have hw:=p.wt_eq
  have key:=fun(L:List PathBind->Nat->Option (List PathBind)) hL o q1=>ZIW (p:=p) (path:=path) (L:=L) hL ih h1 _ 0 o rfl q1
  simp only[zV]at key
  rw[vG,ZD8]
  by_cases c2:p.op=2
  ·rw[iP c2,iP (by omega),iP (by omega),key (F.f98 p path) (fun o i=>by rw[F.f98]) _ (by simp;omega)]
   simp[c2]
  ·rw[iN c2]
   by_cases c6:p.op=6
   ·rw[iP c6,iP (by omega),iP (by omega),key (F.f96 p path) (fun o i=>by rw[F.f96]) _ (by simp;omega)]
    simp[c6]
   ·rw[iN c6,key (F.f97 p path) (fun o i=>by rw[F.f97]) _ (by omega)]
    simp[c2,c6]
theorem ZEf {w:List Data}{d:Nat}(op:Int)(path:List Int):∀(ts:List Ty) (ks:List Pattern) (j:Nat),ts.length=ks.length->(∀i (h:i<ts.length) (h':i<ks.length),∀path,(ks[i].bnd path).map PathBind.var=(ZU w d ts[i] ks[i]).map VarType.var)->
  (Zp op path j (ks.map Pattern.bnd)).map PathBind.var=((ts.zip ks).flatMap fun x=>ZU w d x.1 x.2).map VarType.var
 | [],[],j,_,_=>rfl
 | [],_::_,_,h,_=>by simp at h
 |_::_,[],_,h,_=>by simp at h
 |t::ts,k::ks,j,hl,h=>by
  have h0:=h 0 (by simp) (by simp) (if op=4 then path++[(j:Int)]else path)
  have h1:=ZEf op path ts ks (j+1) (by simpa using hl) fun i hi hi' path=>by have:=h (i+1) (by simpa using hi) (by simpa using hi') path;simpa using this
  rw[zW,Zp,yI,h1,yT,yA,yI]
  congr 1
theorem ZIe (w:List Data):∀(d:Nat) (t:Ty) (q:Pattern),ZFd w d t q->∀path,(q.bnd path).map PathBind.var=(ZU w d t q).map VarType.var
 |0,_,_,h,_=>h.elim
 |d+1,t,q,⟨h1,h5,hl,hk⟩,path=>by
  rw[ZD8,ZU,iN h5,zX (by simp;omega),yI,yI,ZEf (w:=w) (d:=d) q.op path (ZG w t q) q.kids 0 hl.symm fun i hi hi' path=>ZIe w d _ _ (hk i hi hi') path]
  grind
def ZAv (list v:List Pattern):List Pattern:=list.flatMap fun q=>v.map fun x=>⟨q.op,q.ctor,q.n,q.m,q.var,q.kids++[x]⟩
def Pattern.splits :Pattern->List Pattern
 |⟨op,ctor,n,m,var,kids⟩=>if op=5 then(kids.map fun k=>Pattern.splits k).flatten else(kids.map fun k=>Pattern.splits k).foldl ZAv [⟨op,ctor,n,m,var,[]⟩]
theorem ZCH (p:Pattern):p.splits=if p.op=5 then(p.kids.map Pattern.splits).flatten else(p.kids.map Pattern.splits).foldl ZAv [⟨p.op,p.ctor,p.n,p.m,p.var,[]⟩]:=by
 cases p;rw[Pattern.splits]
theorem ZEv (list v:List Pattern):(ZAv list v).length=list.length*v.length:=by
 unfold ZAv
 induction list with
 |nil=>simp
 |cons q r ih=>rw[yA,zU,ih,yJ,yD,zK,zF,zR]
theorem ZGN :∀(vs:List (List Pattern)) (list:List Pattern),(vs.foldl ZAv list).length=list.length*ZAk (vs.map xU)
 | [],list=>by simp[ZAk]
 |v::vs,list=>by rw[yL,ZGN vs,ZEv,zW,ZAk,zI]
theorem ZAP (p:Pattern):p.splits.length=p.alts:=by
 induction p using kK with
 |_ p ih=>
  have e:(p.kids.map Pattern.splits).map xU=p.kids.map Pattern.alts:=by simp_all
  rw[ZCH,ZFY]
  by_cases h5:p.op=5
  ·grind
  ·rw[iN h5,iN h5,ZGN,e];simp
theorem ZGM {G:Nat->Pattern->Prop}{p:Pattern}:∀(vs:List (List Pattern)) (i:Nat) (list:List Pattern) (hv:∀k (h:k<vs.length) x,x∈vs[k]->G (i+k) x)
  (hl:∀q,q∈list->q=⟨p.op,p.ctor,p.n,p.m,p.var,q.kids⟩/\q.kids.length=i/\∀k (h:k<q.kids.length),G k q.kids[k]) (q:Pattern) (hq:q∈vs.foldl ZAv list),
  q=⟨p.op,p.ctor,p.n,p.m,p.var,q.kids⟩/\q.kids.length=i+vs.length/\∀k (h:k<q.kids.length),G k q.kids[k]
 | [],i,list,hv,hl,q,hq=>hl q hq
 |v::vs,i,list,hv,hl,q,hq=>by
  rw[yL]at hq
  have:=ZGM vs (i+1) (ZAv list v) (fun k h x hx=>by have:=hv (k+1) (by simpa using h) x (by simpa using hx);rw[show i+(k+1)=i+1+k by omega]at this;exact this) (fun q hq=>by
   obtain⟨q0,h0,hq⟩:=yQ.1 hq
   obtain⟨x,hx,rfl⟩:=yE.1 hq
   obtain⟨e1,e2,e3⟩:=hl q0 h0
   have f1:q0.op=p.op:=by rw[e1]
   have f2:q0.ctor=p.ctor:=by rw[e1]
   have f3:q0.n=p.n:=by rw[e1]
   have f4:q0.m=p.m:=by rw[e1]
   have f5:q0.var=p.var:=by rw[e1]
   refine⟨?_,by simp[e2],fun k hk=> ?_⟩
   ·show(⟨q0.op,q0.ctor,q0.n,q0.m,q0.var,q0.kids++[x]⟩:Pattern)=⟨p.op,p.ctor,p.n,p.m,p.var,q0.kids++[x]⟩
    rw[f1,f2,f3,f4,f5]
   ·by_cases hk':k<q0.kids.length
    ·grind
    ·have:k=i:=by simp at hk;omega
     subst this
     show G k (q0.kids++[x])[k]
     rw[List.getElem_append_right (by omega)]
     have:=hv 0 (by simp) x (by simpa using hx)
     simpa[e2]using this) q hq
  grind
theorem P.YAI (p:Pattern)(list:List Pattern)(i:Nat)(v:List Pattern)(hq:∀q,q∈list->q.kids.length<=1048576)(hb:list.length*v.length<=60000000)(hll:list.length<=1048576):
  ∀(m k:Nat) (more:List Pattern),list.length-k=m->k<=list.length->more.length=k*v.length->uN p list i v more k=some (more++ZAv (list.drop k) v)
 |0,k,more,hm,hk,ho=>by
  rw[uN,iN (by omega),zT (by omega)]
  simp[ZAv]
 |m+1,k,more,hm,hk,ho=>by
  have hkl:k<list.length:=by omega
  have hmul:(k+1)*v.length<=list.length*v.length:=zC _ hkl
  rw[zK,zF]at hmul
  rw[uN,iP hkl,gQ hkl]
  simp only[oE,oS]
  rw[P.YAe p list i v k list[k] (hq _ (gM hkl)) _ 0 more rfl (by omega)]
  simp only[oS]
  rw[iP (by omega),P.YAI p list i v hq hb hll m (k+1) _ (by omega) (by omega) (by rw[zU,yJ,zV,ho,zK,zF]),zS hkl,zV]
  simp only[ZAv,yA,zY]
theorem P.YAR {w:List Data}:∀(d:Nat) (t:Ty) (p:Pattern),Ze w d t p->p.wt<=1048576->p.alts<=400->F.f184 p=some p.splits
 |0,_,_,h,_,_=>h.elim
 |d+1,t,p,⟨ho,hl,hk⟩,hw,ha=>by
  have hwk:∀i (h:i<p.kids.length),1+p.kids[i].wt<=p.wt:=fun i h=>by rw[p.wt_eq];exact Zb kJ (gM h)
  have hkl:p.kids.length<=p.wt:=by rw[p.wt_eq];exact ZAG kJ p.kids
  have hsh:∀i (h:i<p.kids.length),∃u,Ze w d u p.kids[i]:=fun i h=>⟨_,hk i (zB _) (by omega) (by omega) h⟩
  have hpos:∀x,x∈p.kids.map Pattern.alts->1<=x:=fun x hx=>by
   obtain⟨k,hk2,rfl⟩:=yE.1 hx
   obtain⟨i,hi,rfl⟩:=yF hk2
   obtain⟨u,hu⟩:=hsh i hi
   exact ZFX hu
  have e:=ZFY p
  rw[F.f184,ZCH]
  by_cases h5:p.op=5
  ·rw[iP h5]at e ⊢
   rw[iP h5]
   have e5:=Zz ho h5
   have h2:p.kids.length=2:=by rw[hl,e5];rfl
   have e2:p.kids=[p.kids[0]'(by omega),p.kids[1]'(by omega)]:=ZDP h2
   have es:p.alts=(p.kids[0]'(by omega)).alts+(p.kids[1]'(by omega)).alts:=by grind
   obtain⟨u0,s0⟩:=hsh 0 (by omega)
   obtain⟨u1,s1⟩:=hsh 1 (by omega)
   have w0:=hwk 0 (by omega)
   have w1:=hwk 1 (by omega)
   have ea:=P.YAR d u0 _ s0 (by omega) (by omega)
   have eb:=P.YAR d u1 _ s1 (by omega) (by omega)
   have la:=ZAP (p.kids[0]'(by omega))
   have lb:=ZAP (p.kids[1]'(by omega))
   have es2:(p.kids.map Pattern.splits).flatten=(p.kids[0]'(by omega)).splits++(p.kids[1]'(by omega)).splits:=by grind
   rw[gQ (by omega),gQ (by omega)]
   simp only[oE,oS]
   grind
  ·rw[iN h5]at e ⊢
   rw[iN h5]
   have key:∀(m i:Nat) (list:List Pattern),p.kids.length-i=m->i<=p.kids.length->list.length=ZAk ((p.kids.map Pattern.alts).take i)->(∀q,q∈list->q.kids.length=i)->
     uM p list i=some (((p.kids.map Pattern.splits).drop i).foldl ZAv list):=by
    intro m
    induction m with
    |zero=>
     intro i list hm hi hlen hq
     rw[uM,iN (by omega),zT (by simp;omega)]
     rfl
    |succ m ihm=>
     intro i list hm hi hlen hq
     have hik:i<p.kids.length:=by omega
     obtain⟨u,hu⟩:=hsh i hik
     have hm1:p.kids[i].alts<=ZAk (p.kids.map Pattern.alts):=ZKR hpos (yE.2 ⟨_,gM hik,rfl⟩)
     have hm2:=ZEZ hpos i
     have hwi:=hwk i hik
     have ev:=P.YAR d u _ hu (by omega) (by omega)
     have lv:=ZAP p.kids[i]
     have hts:(p.kids.map Pattern.alts).take (i+1)=(p.kids.map Pattern.alts).take i++[p.kids[i].alts]:=by
      rw[yO (by simpa using hik)];simp
     have hprod:list.length*p.kids[i].splits.length=ZAk ((p.kids.map Pattern.alts).take (i+1)):=by rw[hts,ZI8,hlen,lv]
     have hm3:=ZEZ hpos (i+1)
     have el:=P.YAI p list i p.kids[i].splits (fun q h=>by rw[hq q h];omega) (by rw[hprod];omega) (by omega) _ 0 [] rfl (zB _) (by simp)
     rw[yB,zV]at el
     rw[uM,iP hik,gQ hik]
     simp only[oE,oS]
     rw[ev]
     simp only[oS]
     rw[el]
     simp only[oS]
     rw[iP (by omega),ihm (i+1) _ (by omega) (by omega) (by rw[ZEv,hprod]) fun q h=>by
      obtain⟨q0,h0,h⟩:=yQ.1 h
      obtain⟨x,_,rfl⟩:=yE.1 h
      simp[hq q0 h0]]
     rw[zS (show i<(p.kids.map Pattern.splits).length by simpa using hik),yL,yY]
   have k0:=key _ 0 [⟨p.op,p.ctor,p.n,p.m,p.var,[]⟩] rfl (zB _) (by simp[ZAk]) (fun q h=>by rw[yU.1 h];rfl)
   grind
theorem ZH5 {f:Ty×Pattern->List VarType}:∀(ts:List Ty) (qs ks:List Pattern),qs.length=ts.length->ks.length=ts.length->(∀i (h:i<ts.length) (h1:i<qs.length) (h2:i<ks.length),((f (ts[i],qs[i])).map VarType.var).Perm ((f (ts[i],ks[i])).map VarType.var))->
  (((ts.zip qs).flatMap f).map VarType.var).Perm (((ts.zip ks).flatMap f).map VarType.var)
 | [],_,_,_,_,_=>by simp
 |t::ts,[],_,h,_,_=>by simp at h
 |t::ts,_::_,[],_,h,_=>by simp at h
 |t::ts,q::qs,k::ks,h1,h2,h=>by
  have h0:=h 0 (by simp) (by simp) (by simp)
  have hr:=ZH5 ts qs ks (by simpa using h1) (by simpa using h2) fun i a b c=>by have:=h (i+1) (by simpa using a) (by simpa using b) (by simpa using c);simpa using this
  rw[yT,yT,yA,yA,yI,yI]
  grind
theorem ZIw {a b:List VarType}(ha:ZHO a)(h:ZG4 a b):(a.map VarType.var).Perm (b.map VarType.var):=by
 obtain⟨hl,hs⟩:=h
 have sub:∀l l':List VarType,l.length=l'.length->l.Nodup->(∀x,x∈l->x∈l')->l.Perm l':=by
  intro l
  induction l with
  |nil=>intro l' h _ _;rw[xH (l:=l') (by simpa using h.symm)]
  |cons x r ih=>
   intro l' h hn hs
   obtain⟨s,t,rfl⟩:=xM (hs x (yG ..))
   rw[yS]at hn
   refine((ih (s++t) (by simp at h ⊢;omega) hn.2 fun y hy=> ?_).cons x).trans xO.symm
   grind
 have hn:a.Nodup:=by
  unfold ZHO at ha
  exact List.Pairwise.of_map VarType.var (fun a b h e=>h (congrArg _ e)) ha
 grind
theorem ZMo {f g:Ty×Pattern->List VarType}:∀(ts:List Ty) (ks:List Pattern),ks.length=ts.length->(∀i (h:i<ts.length) (h2:i<ks.length),f (ts[i],ks[i])=g (ts[i],ks[i]))->(ts.zip ks).flatMap f=(ts.zip ks).flatMap g
 | [],_,_,_=>by simp
 |t::ts,[],h,_=>by simp at h
 |t::ts,k::ks,h2,h=>by
  have h0:=h 0 (by simp) (by simp)
  have hr:=ZMo ts ks (by simpa using h2) fun i a c=>by have:=h (i+1) (by simpa using a) (by simpa using c);simpa using this
  simp_all
theorem ZCn {w:List Data}:∀(d:Nat) (t:Ty) (q:Pattern),ZFd w d t q->ZU w (d+1) t q=ZU w d t q
 |0,_,_,h=>h.elim
 |d+1,t,q,⟨h1,h5,hl,hk⟩=>by
  rw[ZU,ZU,iN h5,zX (by simp;omega)]
  congr 1
  exact ZMo _ _ hl fun i h h2=>ZCn d _ _ (hk i h h2)
theorem ZCG {w:List Data}:∀(d:Nat) (t:Ty) (p:Pattern),Ze w d t p->ZFf w d t p->∀q,q∈p.splits->ZFd w d t q/\((ZU w d t q).map VarType.var).Perm ((ZU w d t p).map VarType.var)/\q.wt<=p.wt
 |0,_,_,h,_,_,_=>h.elim
 |d+1,t,p,⟨ho,hl,hk⟩,⟨hlk,hlin⟩,q,hq=>by
  have hwk:∀i (h:i<p.kids.length),1+p.kids[i].wt<=p.wt:=fun i h=>by rw[p.wt_eq];exact Zb kJ (gM h)
  have ih:∀i (h:i<(ZG w t p).length) (h':i<p.kids.length) q,q∈p.kids[i].splits->ZFd w d (ZG w t p)[i] q/\((ZU w d (ZG w t p)[i] q).map VarType.var).Perm ((ZU w d (ZG w t p)[i] p.kids[i]).map VarType.var)/\q.wt<=p.kids[i].wt:=
   fun i h h' q hq=>ZCG d _ _ (hk i (zB _) h h h') (hlk i (zB _) h h h') q hq
  rw[ZCH]at hq
  by_cases h5:p.op=5
  ·rw[iP h5]at hq hlin
   have et:=Zz ho h5
   have h2:p.kids.length=2:=by rw[hl,et];rfl
   have ev:=ZDM (d:=d) ho h5 (by omega)
   have es2:(p.kids.map Pattern.splits).flatten=(p.kids[0]'(by omega)).splits++(p.kids[1]'(by omega)).splits:=by
    have e9:(([p.kids[0]'(by omega),p.kids[1]'(by omega)]:List Pattern).map Pattern.splits).flatten=(p.kids[0]'(by omega)).splits++(p.kids[1]'(by omega)).splits:=by simp
    rw[←ZDP h2]at e9;exact e9
   rw[es2]at hq
   have hall:∀x,x∈ZG w t p->x=t:=by rw[et];simp
   have t0:∀i (h:i<(ZG w t p).length),(ZG w t p)[i]=t:=fun i h=>hall _ (gM h)
   have i0:=ih 0 (by omega) (by omega)
   have i1:=ih 1 (by omega) (by omega)
   have s0:=hk 0 (zB _) (by omega) (by omega) (by omega)
   have l0:=hlk 0 (zB _) (by omega) (by omega) (by omega)
   have s1:=hk 1 (zB _) (by omega) (by omega) (by omega)
   have l1:=hlk 1 (zB _) (by omega) (by omega) (by omega)
   rw[t0]at i0 i1 s0 l0 s1 l1
   have w0:=hwk 0 (by omega)
   have w1:=hwk 1 (by omega)
   rcases yH.1 hq with hq|hq
   ·obtain⟨a1,a2,a3⟩:=i0 q hq
    exact⟨ZDa a1,by rw[ZCn d t q a1,ev];exact a2,by omega⟩
   ·obtain⟨a1,a2,a3⟩:=i1 q hq
    refine⟨ZDa a1,?_,by omega⟩
    rw[ZCn d t q a1,ev]
    exact a2.trans (ZIw (ZBg s0 l0) (hlin (by omega) (by omega))).symm
  ·rw[iN h5]at hq
   obtain⟨e1,e2,e3⟩:=ZGM (G:=fun k x=>∀h:k<p.kids.length,x∈p.kids[k].splits) (p:=p) _ 0 _ (fun k h x hx h'=>by
    have e:(0+k)=k:=zG k
    simp only[yY]at hx
    simpa only[e]using hx) (fun q hq=>by rw[yU.1 hq];exact⟨rfl,rfl,fun k h=>absurd h (by simp)⟩) q hq
   rw[yJ,zG]at e2
   have eo:q.op=p.op:=by rw[e1]
   have ec:q.ctor=p.ctor:=by rw[e1]
   have en:q.n=p.n:=by rw[e1]
   have em:q.m=p.m:=by rw[e1]
   have ew:q.var=p.var:=by rw[e1]
   have ety:ZG w t q=ZG w t p:=by unfold ZG;rw[eo,ec]
   have eow:ZAy w t q:=by unfold ZAy at ho ⊢;rw[eo,ec,en,em,ew];exact ho
   have ihq:∀i (h:i<(ZG w t p).length) (h1:i<q.kids.length) (h':i<p.kids.length),ZFd w d (ZG w t p)[i] q.kids[i]/\((ZU w d (ZG w t p)[i] q.kids[i]).map VarType.var).Perm ((ZU w d (ZG w t p)[i] p.kids[i]).map VarType.var)/\q.kids[i].wt<=p.kids[i].wt:=
    fun i h h1 h'=>ih i h h' _ (e3 i h1 h')
   refine⟨⟨eow,by omega,by rw[ety];omega,fun i h h'=> ?_⟩,?_,?_⟩
   ·grind
   ·have vp:ZU w (d+1) t p=(if p.op=2∨p.op=6 then[⟨p.var,t⟩]else[])++((ZG w t p).zip p.kids).flatMap fun x=>ZU w d x.1 x.2:=by
     rw[ZU,iN h5,zX (by rw[xR];omega)]
    have vq:ZU w (d+1) t q=(if p.op=2∨p.op=6 then[⟨p.var,t⟩]else[])++((ZG w t p).zip q.kids).flatMap fun x=>ZU w d x.1 x.2:=by
     rw[ZU,iN (show ¬q.op=5 by omega),zX (by rw[xR];omega),ety,eo,ew]
    rw[vp,vq,yI,yI]
    exact(ZH5 _ _ _ (by omega) hl fun i h h1 h2=>(ihq i h h1 h2).2.1).append_left _
   ·rw[q.wt_eq,p.wt_eq]
    exact ZJy (by omega) fun i h h'=>(ihq i (by omega) h h').2.2
theorem ZFl {d:Nat}(h1:Ze w d t p)(h2:ZFf w d t p){q:Pattern}(hq:q∈p.splits)(path:List Int):((q.bnd path).map PathBind.var).Nodup:=by
 obtain⟨s1,s2,_⟩:=ZCG d t p h1 h2 q hq
 rw[ZIe w d t q s1 path]
 exact s2.nodup_iff.2 (ZBg h1 h2)
/-! The reference cuts a pattern's choices off at 401. -/
theorem ZBK (n:Nat)(a b:List α):((a.take n)++b).take n=(a++b).take n:=by
 rw[yM,yM,xI,Nat.min_self]
 grind
theorem P.YA1 {lists:List (List Pattern)}{i:Nat}(hi:i<lists.length){out:List (List Pattern)}{k:Nat}(hk:k<out.length)(hR:out[k].length<=1048576)(hx:lists[i].length<=401):
  ∀(m j:Nat) (next:List (List Pattern)),lists[i].length-j=m->next.length<=401->F.f85 lists out i k next j=some ((next++(lists[i].drop j).map fun x=>out[k]++[x]).take 401)
 |m,j,next,hm,hn=>by
  rw[F.f85,gQ hi]
  simp only[oE,oS]
  by_cases hj:j<lists[i].length
  ·rw[iP hj]
   by_cases h4:next.length<=400
   ·rw[iP h4,gQ hk]
    simp only[oS]
    rw[iP (by omega),gQ hj]
    simp only[oS]
    rw[iP (by omega),iP (by omega),iP (by omega)]
    match m,hm with
    |0,hm=>omega
    |m+1,hm=>
     rw[P.YA1 hi hk hR hx m (j+1) _ (by omega) (by simp;omega),zS hj,zW,zY]
     rfl
   ·grind
  ·rw[iN hj,zT (by omega),xG,xB,zX (by omega)]
def addT (out:List (List Pattern))(v:List Pattern):List (List Pattern):=out.flatMap fun x=>v.map fun y=>x++[y]
theorem P.YA2 {lists:List (List Pattern)}{i:Nat}(hi:i<lists.length){out:List (List Pattern)}(ho:out.length<=401)(hR:∀x,x∈out->x.length<=1048576)(hx:lists[i].length<=401):
  ∀(m k:Nat) (next:List (List Pattern)),out.length-k=m->next.length<=401->F.f86 lists out i next k=some ((next++addT (out.drop k) lists[i]).take 401)
 |m,k,next,hm,hn=>by
  rw[F.f86]
  by_cases hk:k<out.length
  ·rw[iP hk]
   by_cases h4:next.length<=400
   ·rw[iP h4,P.YA1 hi hk (hR _ (gM hk)) hx _ 0 next rfl hn]
    simp only[oE,oS]
    rw[iP (by omega)]
    match m,hm with
    |0,hm=>omega
    |m+1,hm=>
     rw[P.YA2 hi ho hR hx m (k+1) _ (by omega) (by rw[yN];omega),ZBK,zV,zS hk]
     simp only[addT,yA,zY]
   ·grind
  ·rw[iN hk,zT (by omega)]
   simp only[addT,List.flatMap_nil,xB]
   rw[zX (by omega)]
theorem ZFi {f:α->List β}(hf:∀x,f x≠[])(n:Nat):∀l:List α,((l.take n).flatMap f).take n=(l.flatMap f).take n:=by
 have key:∀(l:List α) (n m:Nat),m<=n->((l.take n).flatMap f).take m=(l.flatMap f).take m:=by
  intro l
  induction l with
  |nil=>intro n m _;simp
  |cons x r ih=>
   intro n m hm
   cases n with
   |zero=>grind
   |succ n=>
    rw[xF,yA,yA,yM,yM,ih n (m- (f x).length) (by have:=List.length_pos_iff.2 (hf x);omega)]
 grind
theorem ZET {α β γ:Type}(g:α->β->γ)(n:Nat)(v:List β):∀(l:List α) (m:Nat),m<=n->(l.flatMap fun x=>(v.take n).map (g x)).take m=(l.flatMap fun x=>v.map (g x)).take m
 | [],m,_=>by simp
 |x::r,m,hm=>by
  rw[yA,yA,yM,yM,yJ,yJ,yN,←xS,←xS,xI,zE hm]
  by_cases h:v.length<=n
  ·rw[zH h,ZET g n v r _ (by omega)]
  ·rw[show m-min n v.length=0 by omega,show m-v.length=0 by omega]
   simp
theorem ZLK {v:List Pattern}(hv:v≠[])(out:List (List Pattern)):(addT (out.take 401) (v.take 401)).take 401=(addT out v).take 401:=by
 unfold addT
 rw[ZET (fun(x:List Pattern) y=>x++[y]) 401 v _ 401 (zA _),ZFi (fun x h=>hv (List.map_eq_nil_iff.1 h))]
theorem P.YA3 {Ls:List (List Pattern)}(hb:Ls.length<=1048576)(hne:∀L,L∈Ls->L≠[]):
  ∀(m i:Nat) (out:List (List Pattern)),Ls.length-i=m->(∀x,x∈out->x.length=i)->i<=Ls.length->kC (Ls.map fun L=>L.take 401) (out.take 401) i=some (((Ls.drop i).foldl addT out).take 401)
 |m,i,out,hm,hR,hi=>by
  rw[kC]
  by_cases h:i<Ls.length
  ·have h':i<(Ls.map fun L=>L.take 401).length:=by simpa using h
   have ei:(Ls.map fun L=>L.take 401)[i]=Ls[i].take 401:=yY ..
   rw[iP h',P.YA2 h' (by rw[yN];omega) (fun x hx=>by rw[hR x (List.mem_of_mem_take hx)];omega) (by rw[ei,yN];omega) _ 0 [] rfl (by simp)]
   simp only[oE,oS,yB,zV]
   rw[iP (by omega),ei,ZLK (hne _ (gM h))]
   match m,hm with
   |0,hm=>omega
   |m+1,hm=>
    rw[P.YA3 hb hne m (i+1) _ (by omega) (fun x hx=>by
     obtain⟨y,hy,hx⟩:=yQ.1 hx
     obtain⟨z,_,rfl⟩:=yE.1 hx
     simp[hR y hy]) (by omega),zS h,yL]
  ·grind
theorem ZEi (mk:List Pattern->Pattern)(hmk:∀q,mk q=⟨(mk q).op,(mk q).ctor,(mk q).n,(mk q).m,(mk q).var,q⟩)(hmk2:∀a b,(⟨(mk a).op,(mk a).ctor,(mk a).n,(mk a).m,(mk a).var,b⟩:Pattern)=mk b)(hk:∀a,(mk a).kids=a):
  ∀(Ls:List (List Pattern)) (out:List (List Pattern)),Ls.foldl ZAv (out.map mk)=(Ls.foldl addT out).map mk
 | [],out=>rfl
 |L::Ls,out=>by
  have e:ZAv (out.map mk) L=(addT out L).map mk:=by
   unfold ZAv addT
   rw[List.flatMap_map,List.map_flatMap]
   refine congrArg (fun f=>out.flatMap f) (funext fun x=> ?_)
   simp_all
  rw[yL,yL,e,ZEi mk hmk hmk2 hk Ls]
theorem P.YAJ (p:Pattern)(h:∀i (h:i<p.kids.length),uB p.kids[i]=some (p.kids[i].splits.take 401))(hk:p.kids.length<=67108863):
  ∀(m i:Nat) (out:List (List Pattern)),p.kids.length-i=m->out.length=i->kA p out i=some (out++(p.kids.drop i).map fun k=>k.splits.take 401)
 |0,i,out,hm,ho=>by rw[kA,iN (by omega),zT (by omega)];simp
 |m+1,i,out,hm,ho=>by
  have hi':i<p.kids.length:=by omega
  rw[kA,iP hi',gQ hi']
  simp only[oE,oS]
  rw[h i hi']
  simp only[oS]
  rw[iP (by omega),P.YAJ p h hk m (i+1) _ (by omega) (by simp[ho]),zS hi',zW,zY]
  rfl
theorem P.Yr (w:List Data):∀(d:Nat) (t:Ty) (p:Pattern),Ze w d t p->p.wt<=1048576->uB p=some (p.splits.take 401)
 |0,_,_,h,_=>h.elim
 |d+1,t,p,⟨h1,h2,h3⟩,hw=>by
  have hwk:∀i (h:i<p.kids.length),1+p.kids[i].wt<=p.wt:=fun i h=>by rw[p.wt_eq];exact Zb kJ (gM h)
  have hkl:p.kids.length<=p.wt:=by rw[p.wt_eq];exact ZAG kJ p.kids
  have hsh:∀i (h:i<p.kids.length),∃u,Ze w d u p.kids[i]:=fun i h=>⟨_,h3 i (zB _) (by omega) (by omega) h⟩
  have ih:∀i (h':i<p.kids.length),uB p.kids[i]=some (p.kids[i].splits.take 401):=fun i h'=>by
   obtain⟨u,hu⟩:=hsh i h'
   exact P.Yr w d _ _ hu (by have:=hwk i h';omega)
  rw[uB,ZCH]
  by_cases h5:p.op=5
  ·have ht:ZG w t p=[t,t]:=Zz h1 h5
   have k2:p.kids.length=2:=by rw[h2,ht];rfl
   have es2:(p.kids.map Pattern.splits).flatten=(p.kids[0]'(by omega)).splits++(p.kids[1]'(by omega)).splits:=by
    have e9:(([p.kids[0]'(by omega),p.kids[1]'(by omega)]:List Pattern).map Pattern.splits).flatten=(p.kids[0]'(by omega)).splits++(p.kids[1]'(by omega)).splits:=by simp
    rw[←ZDP k2]at e9;exact e9
   rw[iP h5,iP h5,es2,gQ (by omega),gQ (by omega)]
   simp only[oE,oS]
   rw[ih 0 (by omega),ih 1 (by omega)]
   simp only[oS]
   generalize(p.kids[0]'(by omega)).splits=a
   generalize(p.kids[1]'(by omega)).splits=b
   have e:((a.take 401)++(b.take 401)).take 401=(a++b).take 401:=by
    rw[ZBK,yM,yM,xI]
    grind
   have l1:(a.take 401).length<=401:=by rw[yN];omega
   have l2:(b.take 401).length<=401:=by rw[yN];omega
   rw[iP (by omega)]
   by_cases hc:401<(a.take 401++b.take 401).length
   ·grind
   ·have e2:(a.take 401++b.take 401).take 401=a.take 401++b.take 401:=zX (by omega)
    rw[iN hc,←e,e2]
  ·have key:=P.YAJ p ih (by omega) _ 0 [] rfl rfl
   rw[zV,yB]at key
   have hne:∀L,L∈p.kids.map Pattern.splits->L≠[]:=fun L hL hn=>by
    obtain⟨k,hk,rfl⟩:=yE.1 hL
    obtain⟨i,hi,rfl⟩:=xE.1 hk
    obtain⟨u,hu⟩:=hsh i hi
    have l1:=ZAP p.kids[i]
    have l2:=ZFX hu
    grind
   have t1:=P.YA3 (Ls:=p.kids.map Pattern.splits) (by simp;omega) hne _ 0 [[]] rfl (by simp) (zB _)
   rw[xT,zV]at t1
   rw[iN h5,iN h5,key]
   simp only[oE,oS]
   unfold F.f88
   rw[show kC (p.kids.map fun k=>k.splits.take 401) [[]] 0=some (((p.kids.map Pattern.splits).foldl addT [[]]).take 401)from t1]
   simp only[oE,oS]
   rw[P.YBP p _ _ 0 [] rfl (by rw[yN,yC];omega),zV,yB]
   have e:=ZEi (fun ks=>⟨p.op,p.ctor,p.n,p.m,p.var,ks⟩) (fun q=>rfl) (fun a b=>rfl) (fun a=>rfl) (p.kids.map Pattern.splits) [[]]
   simp_all
/-! The code of clauses. -/
theorem ZDL {α:Type}{f:α->α}{L:List α->Nat->Option (List α)}{n:Nat}(hL:∀out k,out.length=n->L out k=if h:k<out.length then L (out.set k (f out[k])) (k+1)else some out):
  ∀(m k:Nat) (out:List α),out.length=n->out.length-k=m->k<=out.length->L out k=some (out.take k++(out.drop k).map f)
 |0,k,out,hn,hm,hk=>by
  rw[hL out k hn,dif_neg (by omega),zT (by omega),zX (by omega)]
  simp
 |m+1,k,out,hn,hm,hk=>by
  have hk':k<out.length:=by omega
  rw[hL out k hn,dif_pos hk',ZDL hL m (k+1) _ (by simpa using hn) (by simp;omega) (by simp;omega)]
  have e1:(out.set k (f out[k])).take (k+1)=out.take k++[f out[k]]:=by
   rw[yO (by simpa using hk'),List.take_set_of_le (zA _)]
   simp
  have e2:(out.set k (f out[k])).drop (k+1)=out.drop (k+1):=List.drop_set_of_lt (by omega)
  rw[e1,e2,zS hk',zW]
  simp
def ZM9 (i:Nat)(q:Pattern)(e:Int):Step:=⟨2,[],0,0,0,(i:Int),sortI (fun x=>x.var) (q.bnd []),e⟩
def toS (e:Int)(s:Step):Step:=⟨s.op,s.path,s.ctor,s.n,s.m,s.clause,s.binds,e⟩
end Go.Vl
set_option maxRecDepth 100000
namespace Go.Vl
open Go Go.RowKit
open F renaming f123->kL,f224->kM,f221->kN,f208->kO,f128->kP,f120->kQ,f216->kR,f213->kS,f199->kT,f197->kU,f196->kV,f186->kW,f127->kX,f117->kY,f114->kZ
open Go.IntKind (i64)
def Zk (g:Nat->Int)(i:Nat):Nat->List Pattern->List Step
 |_,[]=>[]
 |n,q::r=>((q.tst []).map (toS ((n+(q.tst []).length+1:Nat):Int))++[ZM9 i q (g (n+(q.tst []).length+1))])++Zk g i (n+(q.tst []).length+1) r
theorem ZBf (g g':Nat->Int)(i:Nat):∀(qs:List Pattern) (n:Nat),(Zk g i n qs).length=(Zk g' i n qs).length
 | [],n=>rfl
 |q::r,n=>by simp only[Zk,zU,ZBf g g' i r];simp
theorem ZGB {β:Type}{R:β->Prop}(op:Int)(g:Pattern->List Int->List β)(path:List Int):∀(l:List Pattern) (h:∀k,k∈l->∀path s,s∈g k path->R s) (i:Nat) (s:β),s∈Zp op path i (l.map g)->R s
 | [],h,i,s,hs=>by simp[Zp]at hs
 |k::r,h,i,s,hs=>by
  rw[zW,Zp,yH]at hs
  rcases hs with hs|hs
  ·grind
  ·exact ZGB op g path r (fun k hk=>h k (zZ _ hk)) (i+1) s hs
theorem ZOy (p:Pattern):∀path s,s∈p.tst path->s.op=1:=by
 induction p using Pattern.ind with
 |_ p ih=>
  intro path s hs
  rw[ZFg,yH]at hs
  rcases hs with hs|hs
  ·grind
  ·exact ZGB p.op Pattern.tst path p.kids ih 0 s hs
theorem P.Yu (v4:List (List Pattern)×Bool)(out:List Step)(i:Nat)(x:List Pattern)(hx:∀q,q∈x->q.wt<=900/\((q.bnd []).map PathBind.var).Nodup)(hxl:x.length<=1000):
  ∀(m j:Nat) (o:List Step),x.length-j=m->o.length+m*1000<=67108000->kU v4 out i x o j=some (o++Zk (fun _=>0) i o.length (x.drop j))
 |0,j,o,hm,hb=>by
  rw[kU,iN (by omega),zT (by omega)]
  simp[Zk]
 |m+1,j,o,hm,hb=>by
  have hj:j<x.length:=by omega
  obtain⟨w1,n1⟩:=hx _ (gM hj)
  have t1:=ZDV x[j] []
  have b1:=ZD7 x[j] []
  rw[kU,iP hj,gQ hj]
  simp only[oE,oS]
  rw[P.YAq x[j] [] o [] (by simp;omega) (by omega) (by simp;omega)]
  simp only[oS,yB]
  unfold F.f195
  rw[iP ⟨n1,by omega⟩]
  simp only[oS]
  have hl:(o++x[j].tst []).length=o.length+(x[j].tst []).length:=zU
  have key:=ZDL (f:=toS ((o.length+(x[j].tst []).length+1:Nat):Int)) (n:=o.length+(x[j].tst []).length) (L:=fun a k=>kV v4 out i x j (sortI (fun x=>x.var) (x[j].bnd [])) a k)
   (fun a k ha=>by
    show kV v4 out i x j _ a k=_
    rw[kV]
    by_cases hk:k<a.length
    ·rw[iP hk,dif_pos hk,iP (by omega),gQ hk]
     simp only[oE,oS]
     rw[ha]
     rfl
    ·rw[iN hk,dif_neg hk]) _ o.length (o++x[j].tst []) hl rfl (by omega)
  rw[key,xJ,yW]
  simp only[oS]
  rw[iP (by simp;omega),iP (by omega),P.Yu v4 out i x hx hxl m (j+1) _ (by omega) (by simp;omega),zS hj]
  have el:(o++(x[j].tst []).map (toS ((o.length+(x[j].tst []).length+1:Nat):Int))++[(⟨2,[],0,0,0,(i:Int),sortI (fun x=>x.var) (x[j].bnd []),0⟩:Step)]).length=o.length+(x[j].tst []).length+1:=by simp;omega
  rw[el,Zk]
  simp only[ZM9,zY]
theorem ZEc {α:Type}:∀l l':List α,l.Nodup->l'.Nodup->(∀x,x∈l↔x∈l')->l.Perm l'
 | [],l',_,_,h=>by
  cases l' with
  |nil=>exact .refl _
  |cons a r=>exact absurd ((h a).2 (yG ..)) (by simp)
 |x::r,l',hn,hn',h=>by
  obtain⟨s,t,rfl⟩:=xM ((h x).1 (yG ..))
  rw[yS]at hn
  have hp:(s++x::t).Perm (x::(s++t)):=xO
  have hn2:=hp.nodup_iff.1 hn'
  rw[yS]at hn2
  refine((ZEc r (s++t) hn.2 hn2.2 fun y=> ?_).cons x).trans hp.symm
  grind
def ZD6 (l:List PathBind)(n m:Nat):List PathBind:=(List.range' n m).flatMap fun(k:Nat)=>l.filter fun b=>decide (b.var=(k:Int))
variable {l:List PathBind}
theorem ZGh {n m:Nat}{x:PathBind}:x∈ZD6 l n m↔x∈l/\(n:Int)<=x.var/\x.var<(n+m:Nat):=by
 unfold ZD6
 simp only[yQ,xQ,decide_eq_true_eq,List.mem_range'_1]
 constructor
 ·grind
 ·rintro⟨hx,h1,h2⟩
  exact⟨x.var.toNat,by omega,hx,by omega⟩
theorem ZMO (h:(l.map PathBind.var).Nodup)(n:Int):(l.filter fun b=>decide (b.var=n)).Pairwise fun x y=>x.var<y.var:=by
 induction l with
 |nil=>simp
 |cons b r ih=>
  rw[zW,yS]at h
  by_cases e:b.var=n
  all_goals simp_all
theorem ZFV {l:List PathBind}(h:(l.map PathBind.var).Nodup):∀m n,(ZD6 l n m).Pairwise fun x y=>x.var<y.var
 |0,n=>by simp[ZD6]
 |m+1,n=>by
  have ih:=ZFV h m (n+1)
  have e:ZD6 l n (m+1)=(l.filter fun b=>decide (b.var=(n:Int)))++ZD6 l (n+1) m:=by
   unfold ZD6;rw[xN,yA]
  rw[e,List.pairwise_append]
  refine⟨ZMO h _,ih,fun a ha b hb=> ?_⟩
  have h1:=(xQ.1 ha).2
  have h2:=(ZGh.1 hb).2.1
  grind
theorem ZJh (h:(l.map PathBind.var).Nodup)(hv:∀b,b∈l->0<=b.var/\b.var<=5):ZD6 l 0 6=sortI (fun x=>x.var) l:=by
 have nd:∀l:List PathBind,l.Pairwise (fun x y=>x.var<y.var)->l.Nodup:=fun l h=>h.imp fun{a b} hab e=>by subst e;omega
 refine ZHR (key:=fun x=>x.var) _ _ (ZEc _ _ (nd _ (ZFV h 6 0)) (nd _ (ZDJ l h)) fun x=> ?_) (ZFV h 6 0) (ZDJ l h)
 rw[ZGh,ZDY]
 grind
theorem P.YBp (list:List PathBind)(n:Nat)(hp:∀b,b∈list->b.path.length<=67108864):∀(m i:Nat) (out:List PathBind),list.length-i=m->out.length+m<=67108864->F.f99 list n out i=some (out++(list.drop i).filter fun b=>decide (b.var=(n:Int)))
 |0,i,out,hm,hb=>by rw[F.f99,iN (by omega),zT (by omega)];simp
 |m+1,i,out,hm,hb=>by
  have hi:i<list.length:=by omega
  rw[F.f99,iP hi,gQ hi,zS hi,List.filter_cons]
  simp only[oE,oS]
  by_cases e:list[i].var=(n:Int)
  ·rw[iP e,iP (hp _ (gM hi)),iP (by omega),iP (by simpa using e),P.YBp list n hp m (i+1) _ (by omega) (by simp;omega),←e,zY]
   rfl
  ·rw[iN e,iN (by simpa using e),P.YBp list n hp m (i+1) _ (by omega) (by omega)]
theorem P.YBx (list:List PathBind)(hp:∀b,b∈list->b.path.length<=67108864)(hl:list.length<=1048576):∀(m n:Nat) (out:List PathBind),6-n=m->n<=6->out.length+m*1048576<=67108864->F.f100 list out n=some (out++ZD6 list n m)
 |0,n,out,hm,hn,hb=>by rw[F.f100,iN (by omega)];simp[ZD6]
 |m+1,n,out,hm,hn,hb=>by
  have hf:(list.filter fun b=>decide (b.var=(n:Int))).length<=list.length:=List.length_filter_le ..
  rw[F.f100,iP (by omega),P.YBp list n hp _ 0 out rfl (by omega)]
  simp only[oE,oS,zV]
  rw[iP (by omega),P.YBx list hp hl m (n+1) _ (by omega) (by omega) (by rw[zU];omega)]
  unfold ZD6
  rw[xN,yA,zY]
theorem P.YAp (list:List PathBind)(hp:∀b,b∈list->b.path.length<=67108864)(hl:list.length<=1048576)(h:(list.map PathBind.var).Nodup)(hv:∀b,b∈list->0<=b.var/\b.var<=5):F.f101 list=some (sortI (fun x=>x.var) list):=by
 unfold F.f101
 rw[P.YBx list hp hl 6 0 [] rfl (by omega) (by simp),ZJh h hv]
 rfl
theorem ZDv {β:Type}(op:Int)(g:Pattern->List Int->List β)(path:List Int):∀(l:List Pattern) (i:Nat) (s:β),s∈Zp op path i (l.map g)->∃k,k∈l/\∃path',path'.length<=path.length+1/\s∈g k path'
 | [],i,s,hs=>by simp[Zp]at hs
 |k::r,i,s,hs=>by
  rw[zW,Zp,yH]at hs
  rcases hs with hs|hs
  ·grind
  ·obtain⟨k',h1,h2⟩:=ZDv op g path r (i+1) s hs
   grind
theorem ZMb (p:Pattern):∀path b,b∈p.bnd path->b.path.length<=path.length+p.wt:=by
 induction p using Pattern.ind with
 |_ p ih=>
  intro path b hb
  rw[ZD8,yH]at hb
  rcases hb with hb|hb
  ·grind
  ·obtain⟨k,hk,path',hp,hb⟩:=ZDv p.op Pattern.bnd path p.kids 0 b hb
   have h1:=ih k hk path' b hb
   have h2:1+k.wt<=p.wt:=by rw[p.wt_eq];exact Zb Pattern.wt hk
   omega
theorem ZLE {w:List Data}:∀(d:Nat) (t:Ty) (p:Pattern),ZFd w d t p->∀path b,b∈p.bnd path->0<=b.var/\b.var<=5
 |0,_,_,h,_,_,_=>h.elim
 |d+1,t,p,⟨h1,h5,hl,hk⟩,path,b,hb=>by
  rw[ZD8,yH]at hb
  rcases hb with hb|hb
  ·split at hb
   ·next h26=>
    rw[yU.1 hb]
    show 0<=p.var/\p.var<=5
    unfold ZAy at h1
    omega
   ·cases hb
  ·obtain⟨k,hm,path',hp,hb⟩:=ZDv p.op Pattern.bnd path p.kids 0 b hb
   obtain⟨i,hi,rfl⟩:=xE.1 hm
   exact ZLE d _ _ (hk i (by omega) hi) path' b hb
theorem P.YBQ (w:List Data)(list:List Clause)(out:List Step)(i:Nat)(x:List Pattern)(hx:∀q,q∈x->q.wt<=900/\((q.bnd []).map PathBind.var).Nodup/\∃d t,ZFd w d t q)(hxl:x.length<=1000):
  ∀(m j:Nat) (o:List Step),x.length-j=m->o.length+m*1000<=67108000->F.f103 list out i x o j=some (o++Zk (fun n=>(n:Int)) i o.length (x.drop j))
 |0,j,o,hm,hb=>by
  rw[F.f103,iN (by omega),zT (by omega)]
  simp[Zk]
 |m+1,j,o,hm,hb=>by
  have hj:j<x.length:=by omega
  obtain⟨w1,n1,d,t,s1⟩:=hx _ (gM hj)
  have t1:=ZDV x[j] []
  have b1:=ZD7 x[j] []
  rw[F.f103,iP hj,gQ hj]
  simp only[oE,oS]
  rw[P.YA6 w d t x[j] s1 [] o (by simp;omega) (by omega)]
  simp only[oS]
  rw[P.YBc x[j] [] [] (by simp;omega) (by simp;omega),yB]
  simp only[oS]
  rw[P.YAp _ (fun b hb=>by have:=ZMb x[j] [] b hb;simp at this;omega) (by omega) n1 (ZLE d t x[j] s1 [])]
  simp only[oS]
  have hl:(o++x[j].tst []++[(⟨2,[],0,0,0,(i:Int),sortI (fun x=>x.var) (x[j].bnd []),0⟩:Step)]).length=o.length+(x[j].tst []).length+1:=by simp;omega
  have key:=ZDL (f:=toS ((o.length+(x[j].tst []).length+1:Nat):Int)) (n:=o.length+(x[j].tst []).length+1) (L:=fun a k=>F.f102 list out i x j a k)
   (fun a k ha=>by
    show F.f102 list out i x j a k=_
    rw[F.f102]
    by_cases hk:k<a.length
    ·rw[iP hk,dif_pos hk,gQ hk]
     simp only[oE,oS]
     rw[ha]
     rfl
    ·rw[iN hk,dif_neg hk]) _ o.length _ hl rfl (by omega)
  rw[iP (by rw[zU];omega),key,zY,xJ,yW]
  simp only[oS]
  rw[iP (by omega),P.YBQ w list out i x hx hxl m (j+1) _ (by omega) (by simp;omega),zS hj]
  have el:(o++(x[j].tst []++[(⟨2,[],0,0,0,(i:Int),sortI (fun x=>x.var) (x[j].bnd []),0⟩:Step)]).map (toS ((o.length+(x[j].tst []).length+1:Nat):Int))).length=o.length+(x[j].tst []).length+1:=by simp;omega
  rw[el,Zk,yI]
  simp only[ZM9,zY]
  rfl
def ZOF (e:Int)(s:Step):Step:=if s.op=2 then toS e s else s
theorem ZEa (g:Nat->Int)(e:Int)(i:Nat):∀(qs:List Pattern) (n:Nat),(Zk g i n qs).map (ZOF e)=Zk (fun _=>e) i n qs
 | [],n=>rfl
 |q::r,n=>by
  simp only[Zk,yI,ZEa g e i r,xT,zW,xG]
  congr 2
  refine List.map_congr_left fun s hs=> ?_
  have:=ZOy q [] s hs
  show ZOF e (toS _ s)=toS _ s
  unfold ZOF
  rw[iN (by show ¬s.op=2;omega)]
theorem ZF1 (g:Nat->Int)(i:Nat):∀(qs:List Pattern) (n:Nat),(∀q,q∈qs->q.wt<=900)->(Zk g i n qs).length<=qs.length*1000
 | [],n,_=>by simp[Zk]
 |q::r,n,h=>by
  have h1:=ZF1 g i r (n+(q.tst []).length+1) fun q hq=>h q (zZ _ hq)
  have h2:=ZDV q []
  have h3:=h q (yG ..)
  simp only[Zk,zU,yJ,yD,yC]at h1 ⊢
  omega
def clS (i:Nat)(o:List Step)(x:List Pattern):List Step:=o++Zk (fun _=>((o.length+(Zk (fun _=>0) i o.length x).length:Nat):Int)) i o.length x
def ZBE :Nat->List Step->List (List Pattern)->List Step
 |_,o,[]=>o
 |i,o,x::r=>ZBE (i+1) (clS i o x) r
def ZIO (q:Pattern):Prop:=q.wt<=900/\((q.bnd []).map PathBind.var).Nodup
theorem ZIc {L:List Step->Nat->Option (List Step)}(hL:∀o k,L o k=if k<o.length then(o[k]?)>>=fun x=>if x.op=2 then L (o.set k (⟨x.op,x.path,x.ctor,x.n,x.m,x.clause,x.binds,(o.length:Int)⟩:Step)) (k+1)else L o (k+1)else some o)
  (o:List Step) (k:Nat) (hk:k<=o.length):L o k=some (o.take k++(o.drop k).map (ZOF (o.length:Int))):=by
 refine ZDL (f:=ZOF (o.length:Int)) (n:=o.length) (L:=L) (fun a k ha=> ?_) _ k o rfl rfl hk
 rw[hL]
 by_cases h:k<a.length
 ·rw[iP h,dif_pos h,gQ h]
  simp only[oE,oS]
  unfold ZOF
  by_cases h2:a[k].op=2
  ·rw[iP h2,iP h2,ha];rfl
  ·rw[iN h2,iN h2,List.set_getElem_self]
 ·rw[iN h,dif_neg h]
theorem ZK9 (g:Nat->Int)(i:Nat)(o:List Step)(x:List Pattern):(o++Zk g i o.length x).take o.length++((o++Zk g i o.length x).drop o.length).map (ZOF ((o++Zk g i o.length x).length:Int))=clS i o x:=by
 rw[xJ,yW,ZEa,zU,ZBf g (fun _=>0)]
 rfl
theorem ZHt {i:Nat}{o:List Step}{x:List Pattern}(h:∀q,q∈x->q.wt<=900):(clS i o x).length<=o.length+x.length*1000:=by
 unfold clS
 rw[zU]
 have:=ZF1 (fun _=>((o.length+(Zk (fun _=>0) i o.length x).length:Nat):Int)) i x o.length h
 omega
theorem P.YAN (vs:List (List Pattern))(b:Bool)(hv:∀x,x∈vs->x.length<=40/\∀q,q∈x->ZIO q)(hl:vs.length<=1000):∀(m i:Nat) (o:List Step),vs.length-i=m->o.length+m*40000<=67000000->kT (vs,b) o i=some (ZBE i o (vs.drop i))
 |0,i,o,hm,hb=>by
  rw[kT,iN (by show ¬i<vs.length;omega),zT (by omega)]
  rfl
 |m+1,i,o,hm,hb=>by
  have hi:i<vs.length:=by omega
  obtain⟨h40,hq⟩:=hv _ (gM hi)
  have hw:∀q,q∈vs[i]->q.wt<=900:=fun q h=>(hq q h).1
  have cl:=ZHt (i:=i) (o:=o) hw
  rw[kT,iP (show i<vs.length from hi),show(vs,b).1[i]? =some vs[i]from gQ hi]
  simp only[oE,oS]
  rw[P.Yu (vs,b) o i vs[i] hq (by omega) _ 0 o rfl (by omega),zV]
  simp only[oS]
  rw[ZIc (L:=F.f198 (vs,b) i) (fun o k=>by rw[F.f198]) _ _ (by rw[zU];omega),ZK9]
  simp only[oS]
  rw[iP (by omega),P.YAN vs b hv hl m (i+1) _ (by omega) (by omega),zS hi]
  rfl
theorem P.YAL (w:List Data)(list:List Clause)(hv:∀c,c∈list->F.f90 c.pat=some c.pat.splits/\c.pat.splits.length<=40/\∀q,q∈c.pat.splits->ZIO q/\∃d t,ZFd w d t q)(hl:list.length<=1000):
  ∀(m i:Nat) (o:List Step),list.length-i=m->o.length+m*40000<=67000000->F.f105 list o i=some (ZBE i o ((list.map fun c=>c.pat.splits).drop i))
 |0,i,o,hm,hb=>by
  rw[F.f105,iN (by omega),zT (by simp;omega)]
  rfl
 |m+1,i,o,hm,hb=>by
  have hi:i<list.length:=by omega
  obtain⟨e,h40,hq⟩:=hv _ (gM hi)
  have hw:∀q,q∈list[i].pat.splits->q.wt<=900:=fun q h=>(hq q h).1.1
  have cl:=ZHt (i:=i) (o:=o) hw
  rw[F.f105,iP hi,gQ hi]
  simp only[oE,oS]
  rw[e]
  simp only[oS]
  rw[P.YBQ w list o i _ (fun q h=>⟨(hq q h).1.1,(hq q h).1.2,(hq q h).2⟩) (by omega) _ 0 o rfl (by omega),zV]
  simp only[oS]
  rw[ZIc (L:=F.f104 list i) (fun o k=>by rw[F.f104]) _ _ (by rw[zU];omega),ZK9]
  simp only[oS]
  rw[iP (by omega),P.YAL w list hv hl m (i+1) _ (by omega) (by omega),zS (show i<(list.map fun c=>c.pat.splits).length by simpa using hi),yY]
  rfl
theorem P.YR (l:List Clause)(hv:∀c,c∈l->c.pat.alts<=40->F.f184 c.pat=some c.pat.splits)(hl:l.length<=1000):
  ∀(m i:Nat) (out:List (List Pattern)),l.length-i=m->out.length=i->kW l out i=some (if ∀c,c∈l.drop i->c.pat.alts<=40 then .go (out++(l.drop i).map fun c=>c.pat.splits)else .ret ([],false))
 |0,i,out,hm,ho=>by
  rw[kW,iN (by omega),zT (by omega),iP (by simp)]
  simp
 |m+1,i,out,hm,ho=>by
  have hi:i<l.length:=by omega
  rw[kW,iP hi,gQ hi,zS hi]
  simp only[oE,oS]
  rw[P.YAy]
  simp only[oS]
  by_cases h:l[i].pat.alts<=40
  ·rw[iN (by omega),hv _ (gM hi) h]
   simp only[oS]
   rw[iP (by omega),P.YR l hv hl m (i+1) _ (by omega) (by simp[ho])]
   grind
  ·grind
theorem P.YL (l:List Clause)(hv:∀c,c∈l->F.f90 c.pat=some (c.pat.splits.take 401)):
  ∀(m i:Nat),l.length-i=m->F.f107 l i=some (if ∀c,c∈l.drop i->c.pat.alts<=40 then .go ()else .ret ([],false))
 |0,i,hm=>by rw[F.f107,iN (by omega),zT (by omega),iP (by simp)]
 |m+1,i,hm=>by
  have hi:i<l.length:=by omega
  rw[F.f107,iP hi,gQ hi,zS hi]
  simp only[oE,oS]
  rw[hv _ (gM hi)]
  simp only[oS]
  have hl:(l[i].pat.splits.take 401).length=min 401 l[i].pat.alts:=by rw[yN,ZAP]
  by_cases h:l[i].pat.alts<=40
  ·rw[iN (by omega),P.YL l hv m (i+1) (by omega)]
   grind
  ·grind
theorem ZD2 :∀(vs:List (List Pattern)) (i:Nat) (o:List Step),(∀x,x∈vs->x.length<=40/\∀q,q∈x->q.wt<=900)->(ZBE i o vs).length<=o.length+vs.length*40000
 | [],i,o,_=>by simp[ZBE]
 |x::r,i,o,h=>by
  obtain⟨h1,h2⟩:=h x (yG ..)
  have h3:=ZHt (i:=i) (o:=o) h2
  have h4:=ZD2 r (i+1) (clS i o x) fun y hy=>h y (zZ _ hy)
  rw[ZBE,yD]
  omega
def ZD0 :Step:=⟨3,[],0,0,0,0,[],0⟩
theorem P.YAb (w:List Data)(hw:ZAg w)(t:Ty)(l:List Clause)(hp:∀c,c∈l->c.pat.wt<=1048576)(hpat:ZOY w t l->∀c,c∈l->ZFz w t c.pat):∃r b,F.f200 w t l=some (r,b)/\F.f108 w t l=some (r,b)/\
  (b=true->ZOY w t l/\(∀c,c∈l->c.pat.alts<=40)/\r=ZBE 0 [] (l.map fun c=>c.pat.splits)++[ZD0]):=by
 unfold F.f200 F.f108
 rw[P.YW w hw t l hp,P.YU w hw t l hp]
 simp only[oE,oS]
 by_cases hc:ZOY w t l
 ·have hpc:=hpat hc
  have hl8:l.length<=8:=hc.2.1
  rw[dec_of hc,iP rfl,iP rfl]
  have h1:∀c,c∈l->F.f90 c.pat=some (c.pat.splits.take 401):=fun c h=>P.Yr w 10 t c.pat (hpc c h).1 (hp c h)
  unfold F.f187
  rw[P.YR l (fun c h ha=>P.YAR 10 t c.pat (hpc c h).1 (hp c h) (by omega)) (by omega) _ 0 [] rfl rfl,P.YL l h1 _ 0 rfl,zV,yB]
  by_cases ha:∀c,c∈l->c.pat.alts<=40
  ·rw[iP ha,iP ha]
   simp only[oE,oS]
   have hq:∀c,c∈l->∀q,q∈c.pat.splits->ZIO q/\∃d u,ZFd w d u q:=fun c h q hq=>by
    obtain⟨s1,s2,s3⟩:=ZCG 10 t c.pat (hpc c h).1 (hpc c h).2.1 q hq
    have:=(hpc c h).2.2
    exact⟨⟨by omega,ZFl (hpc c h).1 (hpc c h).2.1 hq []⟩,10,t,s1⟩
   have hlen:∀c,c∈l->c.pat.splits.length<=40:=fun c h=>by rw[ZAP];exact ha c h
   have hvs:∀x,x∈l.map (fun c=>c.pat.splits)->x.length<=40/\∀q,q∈x->ZIO q:=fun x hx=>by
    grind
   have e1:=P.YAN (l.map fun c=>c.pat.splits) true hvs (by simp;omega) _ 0 [] rfl (by simp;omega)
   have e2:=P.YAL w l (fun c h=>⟨by rw[h1 c h,zX (by have:=hlen c h;omega)],hlen c h,hq c h⟩) (by omega) _ 0 [] rfl (by simp;omega)
   have cl:=ZD2 (l.map fun c=>c.pat.splits) 0 [] fun x hx=>⟨(hvs x hx).1,fun q hq=>((hvs x hx).2 q hq).1⟩
   rw[yJ,yC]at cl
   unfold F.f106
   rw[iP True.intro,e1,e2,zV]
   simp only[oE,oS]
   rw[iP (by omega),iP (by omega)]
   exact⟨_,_,rfl,rfl,fun _=>⟨hc,ha,rfl⟩⟩
  ·rw[iN ha,iN ha]
   simp_all
 ·simp_all
variable {w:List Data}{v:Value}
theorem ZNR {e:Nat}{t:Ty}(h:pv w false e t v)(ht:t.data≠-1):v.ctor∈ZY w t/\v.kids.length=(ZP w t v.ctor).length/\∀i (h:i<(ZP w t v.ctor).length) (h':i<v.kids.length),∃e',pv w false e' (ZP w t v.ctor)[i] v.kids[i]:=by
 cases e with
 |zero=>exact h.elim
 |succ e=>
  rcases h with h|⟨_,h|h⟩
  ·simp at h
  ·exact absurd h.1 ht
  ·exact⟨h.2.2.1,h.2.2.2.1,fun i h1 h2=>⟨e,h.2.2.2.2 i (zB _) h1 h1 h2⟩⟩
theorem P.YAB (v:Value)(hv:v.wt<=67108864):kR v=some v:=by
 induction v using Value.ind with
 |_ v ih=>
  have hw:=v.wt_eq
  rw[kR,ZFW (a:=v.kids) (g:=id) (f:=kR) (L:=F.f217 v) (fun out i=>by rw[F.f217]) (fun x hx=>ih x hx (by have:=Zb Value.wt hx;omega)) _ 0 [] rfl (by have:=ZAG Value.wt v.kids;simp;omega)]
  simp
  cases v;rfl
def vAt :List Int->Value->Option Value
 | [],v=>some v
 |i::r,v=>(at? v.kids i).bind fun u=>vAt r u
theorem ZIC (i:Int):∀(p:List Int) (v:Value),vAt (p++[i]) v=(vAt p v).bind fun u=>at? u.kids i
 | [],v=>by simp[vAt]
 |j::r,v=>by
  rw[yZ,vAt,vAt]
  cases at? v.kids j with
  |none=>rfl
  |some u=>exact ZIC i r u
variable {α:Type}
theorem ZLI {xs:List α}{i:Int}{x:α}(h:at? xs i=some x):x∈xs:=by
 obtain⟨_,h⟩:=ZX h
 exact List.mem_of_getElem? h
theorem ZJ1 :∀(p:List Int) (v u:Value),vAt p v=some u->u.wt<=v.wt
 | [],v,u,h=>by cases h;exact zA _
 |i::r,v,u,h=>by
  rw[vAt]at h
  cases e:at? v.kids i with
  |none=>rw[e]at h;cases h
  |some x=>
   rw[e]at h
   have:=ZJ1 r x u h
   have h2:=Zb Value.wt (ZLI e)
   rw[Value.wt_eq v]
   omega
theorem P.YBb (path:List Int):∀(m i:Nat) (v:Value),path.length-i=m->kS path v.ctor v.n v.kids i=(vAt (path.drop i) v).map fun u=>(u.ctor,u.n,u.kids):=by
 intro m
 induction m with
 |zero=>
  intro i v hm
  rw[kS,iN (by omega),zT (by omega)];rfl
 |succ m ih=>
  intro i v hm
  have hi:i<path.length:=by omega
  rw[kS,iP hi,gQ hi,zS hi,vAt]
  simp only[oE,oS]
  cases at? v.kids path[i]with
  |none=>rfl
  |some x=>exact ih (i+1) x (by omega)
theorem P.YAM (v:Value)(path:List Int):F.f214 v path=vAt path v:=by
 unfold F.f214
 rw[P.YBb path _ 0 v rfl,zV]
 cases vAt path v with
 |none=>rfl
 |some u=>cases u;rfl
theorem P.YBd (path:List Int):∀(m i:Nat) (v:Value),path.length-i=m->kZ path v.ctor v.n v.kids i=(vAt (path.drop i) v).map fun u=>(u.ctor,u.n,u.kids):=by
 intro m
 induction m with
 |zero=>
  intro i v hm
  rw[kZ,iN (by omega),zT (by omega)];rfl
 |succ m ih=>
  intro i v hm
  have hi:i<path.length:=by omega
  rw[kZ,iP hi,gQ hi,zS hi,vAt]
  simp only[oE,oS]
  cases at? v.kids path[i]with
  |none=>rfl
  |some x=>exact ih (i+1) x (by omega)
theorem P.YAK (v:Value)(path:List Int):F.f115 v path=vAt path v:=by
 unfold F.f115
 rw[P.YBd path _ 0 v rfl,zV]
 cases vAt path v with
 |none=>rfl
 |some u=>cases u;rfl
def ZJB (s:Step)(u:Value):Prop:=u.ctor=s.ctor/\(s.ctor= -1->s.n<=u.n/\u.n<=s.m)
theorem P.YAY (s:Step)(u:Value):F.f215 s.ctor s.n s.m u=some (dec (ZJB s u)):=by
 unfold F.f215 ZJB
 by_cases h:s.ctor=u.ctor
 ·rw[iP h]
  by_cases h2:s.ctor= -1
  ·rw[iP h2,P.YD]
   simp only[oE,oS]
   congr 1
   exact ZJ ⟨fun q=>⟨h.symm,fun _=>q⟩,fun q=>q.2 h2⟩
  ·rw[iN h2,dec_of ⟨h.symm,fun q=>absurd q h2⟩]
 ·rw[iN h,ZB fun q=>h q.1.symm]
theorem P.Yw (s:Step)(u:Value):F.f122 s u=some (dec (ZJB s u)):=by
 unfold F.f122 ZJB
 by_cases h:u.ctor=s.ctor
 ·rw[iP h]
  by_cases h2:s.ctor= -1
  ·rw[iP h2]
   by_cases h3:s.n<=u.n
   ·rw[iP h3,←ZAJ];congr 1
    exact ZJ ⟨fun q=>⟨h,fun _=>⟨h3,q⟩⟩,fun q=>(q.2 h2).2⟩
   ·rw[iN h3,ZB fun q=>h3 (q.2 h2).1]
  ·rw[iN h2,dec_of ⟨h,fun q=>absurd q h2⟩]
 ·rw[iN h,ZB fun q=>h q.1]
theorem P.YAf :∀(n:Nat) (v:Value),SizeOf.sizeOf v<n->v.wt<=67108864->F.f116 v=some v:=by
 intro n
 induction n with
 |zero=>intro v h;omega
 |succ n ih=>
  intro v h hv
  rw[Value.wt_eq]at hv
  have hl:=ZAG Value.wt v.kids
  have lp:∀(m i:Nat) (out:List Value),v.kids.length-i=m->out=v.kids.take i->i<=v.kids.length->kY v out i=some v.kids:=by
   intro m
   induction m with
   |zero=>
    intro i out hm ho hi
    rw[kY,iN (by omega),ho,zX (by omega)]
   |succ m ihm=>
    intro i out hm ho hi
    have hi:i<v.kids.length:=by omega
    have hmem:=gM hi
    rw[kY,iP hi,gQ hi]
    simp only[oE,oS]
    rw[ih _ (by have:=xC hmem;have:SizeOf.sizeOf v.kids<SizeOf.sizeOf v:=(by cases v;simp only[Value.mk.sizeOf_spec];omega);omega) (by have:=Zb Value.wt hmem;omega)]
    simp only[oS]
    rw[iP (by rw[ho];simp;omega)]
    refine ihm (i+1) _ (by omega) ?_ (by omega)
    rw[ho,yO hi]
  rw[F.f116,lp _ 0 [] rfl rfl (by omega)]
  simp only[oE,oS]
  cases v;rfl
def ZJi (v:Value)(b:PathBind):Bind:=⟨b.var,(vAt b.path v).getD v⟩
def ZNf (v:Value)(b:PathBind):Prop:=∃u,vAt b.path v=some u
theorem ZEq {L:Nat->List Bind->Option (List Bind)}(hb:∀b,b∈l->ZNf v b)(hl:l.length<=67108864)(hL:∀i out,L i out=if i<l.length then(l[i]?)>>=fun x=>(vAt x.path v)>>=fun u=>if out.length+1<=67108864 then L (i+1) (out++[(⟨x.var,u⟩:Bind)])else none else some out):
  ∀(m i:Nat) (out:List Bind),l.length-i=m->out=(l.take i).map (ZJi v)->i<=l.length->L i out=some (l.map (ZJi v)):=by
 intro m
 induction m with
 |zero=>
  intro i out hm ho hi
  rw[hL,iN (by omega),ho,zX (by omega)]
 |succ m ih=>
  intro i out hm ho hi
  have hi:i<l.length:=by omega
  obtain⟨u,hu⟩:=hb _ (gM hi)
  rw[hL,iP hi,gQ hi]
  simp only[oE,oS]
  rw[hu]
  simp only[oS]
  rw[iP (by rw[ho];simp;omega)]
  refine ih (i+1) _ (by omega) ?_ (by omega)
  rw[ho,yO hi,yI]
  simp[ZJi,hu]
theorem P.YAs (l:List PathBind)(v:Value)(hb:∀b,b∈l->ZNf v b)(hl:l.length<=67108864)(hv:v.wt<=67108864):F.f219 l v=some (l.map (ZJi v)):=by
 unfold F.f219
 rw[ZEq (L:=fun i out=>F.f218 l v i out) hb hl (fun i out=> ?_) _ 0 [] rfl rfl (by omega)]
 ·rfl
 ·rw[F.f218]
  split
  ·next hi=>
   obtain⟨u,hu⟩:=hb _ (gM hi)
   rw[gQ hi]
   simp only[oE,oS]
   rw[P.YAM,hu]
   simp only[oS]
   rw[P.YAB u (by have:=ZJ1 _ _ _ hu;omega)]
   simp only[oS]
  ·rfl
theorem P.Yx (l:List PathBind)(v:Value)(hb:∀b,b∈l->ZNf v b)(hl:l.length<=67108864)(hv:v.wt<=67108864):F.f119 l v=some (l.map (ZJi v)):=by
 unfold F.f119
 rw[ZEq (L:=fun i out=>F.f118 l v out i) hb hl (fun i out=> ?_) _ 0 [] rfl rfl (by omega)]
 ·rfl
 ·rw[F.f118]
  split
  ·next hi=>
   obtain⟨u,hu⟩:=hb _ (gM hi)
   rw[gQ hi]
   simp only[oE,oS]
   rw[P.YAK,hu]
   simp only[oS]
   rw[P.YAf _ u (Nat.lt_succ_self _) (by have:=ZJ1 _ _ _ hu;omega)]
   simp only[oS]
  ·rfl
noncomputable def ZNx (g:Guard)(x:Bind):Bool:=if x.value.ctor= -1 then(if g.op=1 then dec (x.value.n<g.n)else if g.op=2 then dec (x.value.n=g.n)else false)else false
theorem P.YBS (g:Guard)(l:List Bind):∀(m i:Nat),l.length-i=m->
  (∃j,∃h:j<l.length,kN l g i=some (.ret (j:Int))/\kQ g l i=some (.ret (ZNx g l[j])))∨
  (kN l g i=some (.go ())/\kQ g l i=some (.go ())):=by
 intro m
 induction m with
 |zero=>
  intro i hm
  rw[kN,kQ,iN (by omega),iN (by omega)]
  exact .inr ⟨rfl,rfl⟩
 |succ m ih=>
  intro i hm
  have hi:i<l.length:=by omega
  rw[kN,kQ,iP hi,iP hi,gQ hi]
  simp only[oE,oS,F.f220,decide_eq_true_eq]
  by_cases hv:l[i].var=g.var
  ·rw[iP hv,iP hv]
   refine .inl ⟨i,hi,rfl,?_⟩
   unfold ZNx
   by_cases h1:l[i].value.ctor= -1
   ·rw[iP h1,iP h1]
    by_cases h2:g.op=1
    ·rw[iP h2,iP h2]
     by_cases h3:l[i].value.n<g.n
     ·rw[iP h3,dec_of h3]
     ·rw[iN h3,ZB h3]
    ·rw[iN h2,iN h2]
     by_cases h3:g.op=2
     ·rw[iP h3,iP h3,ZAJ]
     ·rw[iN h3,iN h3]
   ·rw[iN h1,iN h1]
  ·rw[iN hv,iN hv]
   exact ih (i+1) (by omega)
theorem P.YA0 (g:Guard)(l:List Bind):∃b,F.f223 g l=some b/\F.f121 g l=some b:=by
 unfold F.f223 F.f121 F.f222
 by_cases h0:g.op=0
 ·rw[iP h0,iP h0];exact⟨_,rfl,rfl⟩
 rw[iN h0,iN h0]
 rcases P.YBS g l _ 0 rfl with⟨j,hj,e1,e2⟩|⟨e1,e2⟩
 ·rw[e1,e2]
  simp only[oE,oS]
  rw[iN (by omega),ZCx hj]
  simp only[oS]
  refine⟨_,?_,rfl⟩
  unfold ZNx
  by_cases h1:l[j].value.ctor= -1
  ·rw[iP h1,iP h1]
   by_cases h2:g.op=1
   ·rw[iP h2,iP h2]
    by_cases h3:l[j].value.n<g.n
    ·rw[iP h3,dec_of h3]
    ·rw[iN h3,ZB h3]
   ·rw[iN h2,iN h2]
    by_cases h3:g.op=2
    ·rw[iP h3,iP h3,ZAJ]
    ·rw[iN h3,iN h3]
  ·rw[iN h1,iN h1]
 ·rw[e1,e2]
  exact⟨false,rfl,rfl⟩
inductive RunOk (C:List Step)(v:Value)(N:Nat):Nat->Prop
 |fail (k:Nat) (s:Step) (h:C[k]? =some s) (h3:s.op=3):RunOk C v N k
 |take (k j c:Nat) (s:Step) (h:C[k]? =some s) (h2:s.op=2) (hb:∀b,b∈s.binds->ZNf v b) (hl:s.binds.length<=1048576) (hc:s.clause=(c:Int)) (hn:c<N) (ht:s.to=(j:Int)) (hk:k<j) (r:RunOk C v N j):RunOk C v N k
 |test (k j:Nat) (s:Step) (u:Value) (h:C[k]? =some s) (h1:s.op=1) (hu:vAt s.path v=some u) (ht:s.to=(j:Int)) (hk:k<j) (hp:ZJB s u->RunOk C v N (k+1)) (r:RunOk C v N j):RunOk C v N k
theorem ZId {C a r:List α}{n:Nat}(h:C.drop n=a++r):C.drop (n+a.length)=r:=by
 rw[←List.drop_drop,h,yW]
theorem ZFO {C r:List α}{x:α}{n:Nat}(h:C.drop n=x::r):C[n]? =some x:=by
 have:(C.drop n)[0]? =some x:=by rw[h];rfl
 rw[List.getElem?_drop]at this
 exact this
theorem ZFI {C:List Step}{v:Value}{N e:Nat}(op:Int)(path:List Int)(rest:List Step):∀(ks:List Pattern) (i n:Nat),
  (∀j (h:j<ks.length) (m:Nat) (rest:List Step),C.drop m=(ks[j].tst (if op=4 then path++[((i+j:Nat):Int)]else path)).map (toS (e:Int))++rest->m+(ks[j].tst (if op=4 then path++[((i+j:Nat):Int)]else path)).length<e->
   ((∀b,b∈ks[j].bnd (if op=4 then path++[((i+j:Nat):Int)]else path)->ZNf v b)->RunOk C v N (m+(ks[j].tst (if op=4 then path++[((i+j:Nat):Int)]else path)).length))->RunOk C v N m)->
  C.drop n=(Zp op path i (ks.map Pattern.tst)).map (toS (e:Int))++rest->n+(Zp op path i (ks.map Pattern.tst)).length<e->
  ((∀b,b∈Zp op path i (ks.map Pattern.bnd)->ZNf v b)->RunOk C v N (n+(Zp op path i (ks.map Pattern.tst)).length))->RunOk C v N n
 | [],i,n,hs,hd,hl,hk=>by
  have:=hk (fun b hb=>by simp[Zp]at hb)
  simpa[Zp]using this
 |q::r,i,n,hs,hd,hl,hk=>by
  simp only[zW,Zp,yI,zY,zU]at hd hl hk
  have h0:=hs 0 (by simp) n _ hd (by simp only[xA,zQ];omega)
  simp only[xA,zQ]at h0
  refine h0 fun hb=> ?_
  have hd2:=ZId hd
  rw[yJ]at hd2
  refine ZFI op path rest r (i+1) _ (fun j hj m rest2 a1 a2 a3=> ?_) hd2 (by omega) fun hb2=> ?_
  ·have:=hs (j+1) (by simp;omega) m rest2
   simp only[xL,show i+(j+1)=i+1+j by omega]at this
   exact this a1 a2 a3
  ·rw[zJ]
   exact hk fun b hb3=>(yH.1 hb3).elim (hb b) (hb2 b)
theorem ZGy {w:List Data}{C:List Step}{v:Value}{N e:Nat}(hE:RunOk C v N e):∀(d:Nat) (t:Ty) (q:Pattern) (path:List Int) (u:Value) (d':Nat),ZFd w d t q->vAt path v=some u->pv w false d' t u->
  ∀(n:Nat) (rest:List Step),C.drop n=(q.tst path).map (toS (e:Int))++rest->n+(q.tst path).length<e->
  ((∀b,b∈q.bnd path->ZNf v b)->RunOk C v N (n+(q.tst path).length))->RunOk C v N n
 |0,t,q,path,u,d',h,_,_=>h.elim
 |d+1,t,q,path,u,d',⟨ho,h5,hlen,hkid⟩,hu,hp=>by
  intro n rest hd hl hk
  rw[ZFg]at hd hl hk
  rw[ZD8]at hk
  have hop:q.op=1∨q.op=2∨q.op=3∨q.op=4∨q.op=6:=by unfold ZAy at ho;omega
  by_cases h4:q.op=4
  ·have hc:q.ctor∈ZY w t:=by
    unfold ZAy at ho
    rcases ho with h|h|h|h|h|h
    all_goals first|exact h.2.2.2.2|(exfalso;omega)
   obtain⟨hdt,hc0,_⟩:=Zj hc
   obtain⟨c1,c2,c3⟩:=ZNR hp hdt
   have hty:ZG w t q=ZP w t q.ctor:=by unfold ZG;rw[iP h4]
   rw[iN (by omega),iP h4]at hd hl hk
   rw[iN (by omega),yB]at hk
   simp only[yI,zW,xG,yZ,yB,zU,yD,yC]at hd hl hk
   have hg:=ZFO hd
   refine .test n e _ u hg rfl hu rfl (by omega) (fun hps=> ?_) hE
   have hcu:u.ctor=q.ctor:=hps.1
   rw[hcu]at c2 c3
   have hd2:C.drop (n+1)=(Zp q.op path 0 (q.kids.map Pattern.tst)).map (toS (e:Int))++rest:=by
    rw[←List.drop_drop,hd];rfl
   refine ZFI q.op path rest q.kids 0 (n+1) (fun j hj m rest2 a1 a2 a3=> ?_) hd2 (by omega) fun hb=> ?_
   ·have hj':j<(ZG w t q).length:=by omega
    have hja:j<(ZP w t q.ctor).length:=by rw[←hty];exact hj'
    have hju:j<u.kids.length:=by omega
    obtain⟨e',hpj⟩:=c3 j hja hju
    have hsj:=hkid j hj' hj
    rw[iP h4]at a1 a2 a3
    rw[zG]at a1 a2 a3
    refine ZGy hE d _ q.kids[j] (path++[(j:Int)]) u.kids[j] e' hsj ?_ ?_ m rest2 a1 a2 a3
    ·rw[ZIC,hu];show at? u.kids (j:Int)=_;rw[ZCx hju]
    ·simp only[hty];exact hpj
   ·have:=hk hb
    rw[zJ,zR 1]
    exact this
  ·by_cases h3:q.op=3
   ·have hk0:q.kids=[]:=by
     have:ZG w t q=[]:=by unfold ZG;rw[iN h4,iN h5,iN (by omega)]
     rw[this]at hlen;exact xH hlen
    rw[iP h3,hk0]at hd hl hk
    rw[iN (by omega)]at hk
    simp only[xG,Zp,xB,zW,yZ,yB,yD,yC]at hd hl hk
    have hg:=ZFO hd
    refine .test n e _ u hg rfl hu rfl (by omega) (fun _=> ?_) hE
    exact hk fun b hb=>by cases hb
   ·rw[iN h3,iN h4,yB]at hd hl hk
    have hsame:∀j:Nat,(if q.op=4 then path++[((0+j:Nat):Int)]else path)=path:=fun j=>iN h4
    refine ZFI q.op path rest q.kids 0 n (fun j hj m rest2 a1 a2 a3=> ?_) hd hl fun hb=>hk fun b hb2=> ?_
    ·rw[hsame]at a1 a2 a3
     have hj':j<(ZG w t q).length:=by omega
     have h6:q.op=6:=by
      rcases hop with h|h|h|h|h
      ·exfalso;have:ZG w t q=[]:=by unfold ZG;rw[iN h4,iN h5,iN (by omega)]
       rw[this]at hj';simp at hj'
      ·exfalso;have:ZG w t q=[]:=by unfold ZG;rw[iN h4,iN h5,iN (by omega)]
       rw[this]at hj';simp at hj'
      ·exact absurd h h3
      ·exact absurd h h4
      ·exact h
     have hty:ZG w t q=[t]:=by unfold ZG;rw[iN h4,iN h5,iP h6]
     have hsj:=hkid j hj' hj
     have e1:(ZG w t q)[j]=t:=by
      have:j=0:=by rw[hty]at hj';simpa using hj'
      subst this;simp[hty]
     rw[e1]at hsj
     exact ZGy hE d t q.kids[j] path u d' hsj hu hp m rest2 a1 a2 a3
    ·rcases yH.1 hb2 with hb2|hb2
     ·split at hb2
      ·rw[yU.1 hb2];exact⟨u,hu⟩
      ·cases hb2
     ·exact hb b hb2
theorem ZF0 {w:List Data}{C:List Step}{v:Value}{N:Nat}{t:Ty}{d':Nat}(hv:pv w false d' t v)(c e:Nat)(hc:c<N)(hE:RunOk C v N e):∀(qs:List Pattern) (n:Nat) (rest:List Step),(∀q,q∈qs->q.wt<=900/\∃d,ZFd w d t q)->
  C.drop n=Zk (fun _=>(e:Int)) c n qs++rest->n+(Zk (fun _=>(e:Int)) c n qs).length=e->RunOk C v N n
 | [],n,rest,_,hd,hl=>by
  simp only[Zk,yC]at hl
  rw[show n=e by omega];exact hE
 |q::r,n,rest,hq,hd,hl=>by
  obtain⟨hw,d,hs⟩:=hq q (yG ..)
  simp only[Zk,zU,yJ,yD,yC,zY]at hd hl
  have hd2:=ZId hd
  rw[yJ]at hd2
  have hd3:C.drop (n+(q.tst []).length+1)=Zk (fun _=>(e:Int)) c (n+(q.tst []).length+1) r++rest:=by
   rw[←List.drop_drop,hd2];rfl
  have ih:=ZF0 hv c e hc hE r (n+(q.tst []).length+1) rest (fun x hx=>hq x (zZ _ hx)) hd3 (by omega)
  have hg:=ZFO hd2
  refine ZGy ih d t q [] v d' hs rfl hv n _ hd (by show n+(q.tst []).length<n+(q.tst []).length+1;omega) fun hb=> ?_
  refine .take _ e c _ hg rfl (fun b hb2=>hb b (ZDY.1 hb2)) ?_ rfl hc rfl (by omega) hE
  have:=ZD7 q []
  show(sortI (fun x=>x.var) (q.bnd [])).length<=_
  rw[ZDZ];omega
theorem ZGb :∀(vs:List (List Pattern)) (i:Nat) (o:List Step),∃r,ZBE i o vs=o++r
 | [],i,o=>⟨[],(xB o).symm⟩
 |x::r,i,o=>by
  obtain⟨a,ha⟩:=ZGb r (i+1) (clS i o x)
  rw[ZBE,ha];unfold clS
  exact⟨_,zY ..⟩
theorem ZGa {w:List Data}{v:Value}{N:Nat}{t:Ty}{d':Nat}(hv:pv w false d' t v):∀(vs:List (List Pattern)) (i:Nat) (o:List Step),(∀x,x∈vs->∀q,q∈x->q.wt<=900/\∃d,ZFd w d t q)->i+vs.length<=N->
  RunOk (ZBE i o vs++[ZD0]) v N o.length
 | [],i,o,h,hn=>by
  refine .fail _ ZD0 ?_ rfl
  rw[ZBE,List.getElem?_append_right (zA _),zO];rfl
 |x::r,i,o,h,hn=>by
  rw[yD]at hn
  have ih:=ZGa (N:=N) hv r (i+1) (clS i o x) (fun y hy=>h y (zZ _ hy)) (by omega)
  obtain⟨a,ha⟩:=ZGb r (i+1) (clS i o x)
  rw[ZBE]
  have hE:(clS i o x).length=o.length+(Zk (fun _=>0) i o.length x).length:=by unfold clS;rw[zU,ZBf _ (fun _=>0)]
  rw[hE]at ih
  refine ZF0 hv i _ (by omega) ih x o.length (a++[ZD0]) (h x (yG ..)) ?_ (by rw[ZBf _ (fun _=>0)])
  rw[ha];unfold clS
  rw[zY,zY,yW]
theorem P.YAV (w:List Data)(t:Ty)(v:Value)(ht:ZAf w t)(hv:v.wt<=1048576):F.f204 w t v=some (dec (pv w false 10 t v/\1+v.wt<=60)):=by
 unfold F.f204
 obtain⟨b,c,h1,h2,_⟩:=P.YAF w ht.1 false 10 t v 0 (by omega) (ZCE ht.2.1) (by omega)
 have h1':F.f201 w t v 1 false 0=some (b,(c:Int)):=h1
 rw[h1']
 simp only[oE,oS]
 congr 1
 cases b with
 |true=>rw[dec_of ⟨(h2.1 rfl).1,by have:=(h2.1 rfl).2;omega⟩]
 |false=>rw[ZB fun hh=>by have:=h2.2 ⟨hh.1,by have:=hh.2;omega⟩;cases this]
theorem P.YBE (w:List Data)(t:Ty)(v:Value)(ht:ZAf w t)(hv:v.wt<=1048576):F.f113 w t v=some (dec (pv w false 10 t v/\1+v.wt<=60)):=by
 unfold F.f113
 have e:F.f109 w t v 10=some (dec (pv w false 10 t v)):=P.YI w ht.1 10 t v (ZCE ht.2.1) (by omega)
 rw[e]
 simp only[oE,oS]
 by_cases hp:pv w false 10 t v
 ·rw[iP (dec_of hp)]
  obtain⟨c,h1,h2,h3,h4,h5⟩:=P.YAo v hv 60 (by omega)
  have h1':F.f111 v 60=some (c:Int):=h1
  rw[h1']
  simp only[oS]
  rw[←ZAJ];congr 1
  refine ZJ ⟨fun hc=>⟨hp,?_⟩,fun hh=> ?_⟩
  ·apply xV
   intro hn
   have:=h5 (by omega);omega
  ·have:=h4 hh.2;have:=hh.2;omega
 ·rw[iN (by rw[ZB hp];simp),ZB fun hh=>hp hh.1]
theorem ZMY {t:Ty}{l:List Clause}(hc:ZOY w t l)(ha:∀c,c∈l->c.pat.alts<=40)(hv:pv w false 10 t v):
  RunOk (ZBE 0 [] (l.map fun c=>c.pat.splits)++[ZD0]) v l.length 0/\(ZBE 0 [] (l.map fun c=>c.pat.splits)++[ZD0]).length<=60000000:=by
 have hq:∀c,c∈l->∀q,q∈c.pat.splits->q.wt<=900/\∃d,ZFd w d t q:=fun c h q hq=>by
  obtain⟨s1,s2,s3⟩:=ZCG 10 t c.pat (hc.2.2 c h).1.1 (hc.2.2 c h).1.2.1 q hq
  have:=(hc.2.2 c h).1.2.2
  exact⟨by omega,10,s1⟩
 have hl8:l.length<=8:=hc.2.1
 refine⟨ZGa hv _ 0 [] (fun x hx=> ?_) (by simp),?_⟩
 ·obtain⟨c,h,rfl⟩:=yE.1 hx
  exact hq c h
 ·have cl:=ZD2 (l.map fun c=>c.pat.splits) 0 [] fun x hx=>by
   obtain⟨c,h,rfl⟩:=yE.1 hx
   exact⟨by rw[ZAP];exact ha c h,fun q hq'=>(hq c h q hq').1⟩
  rw[yJ,yC]at cl
  rw[zU,xD];omega
noncomputable def ZEF (l:List (List Int))(p:List Int):List (List Int):=if p∈l then l else l++[p]
theorem ZMf (l:List (List Int))(p:List Int):(ZEF l p).length<=l.length+1:=by
 unfold ZEF;split<;>simp
theorem ZMe {l:List (List Int)}{p q:List Int}:q∈ZEF l p↔q∈l∨q=p:=by
 unfold ZEF
 split
 ·next h=>exact⟨.inl,fun hq=>hq.elim id fun e=>e▸h⟩
 ·simp
theorem ZGP (ps:List (List Int)):∀l:List (List Int),(ps.foldl ZEF l).length<=l.length+ps.length:=by
 induction ps with
 |nil=>intro l;simp
 |cons p r ih=>intro l;have h1:=ih (ZEF l p);have h2:=ZMf l p;simp only[yL,yD];omega
theorem ZEj (ps:List (List Int))(p:List Int)(l:List (List Int)):(ps++[p]).foldl ZEF l=ZEF (ps.foldl ZEF l) p:=by
 rw[List.foldl_append];rfl
theorem ZGO {q:List Int}:∀(ps:List (List Int)) (l:List (List Int)),q∈ps.foldl ZEF l↔q∈l∨q∈ps
 | [],l=>by simp
 |p::r,l=>by rw[yL,ZGO r,ZMe,yR,or_assoc]
theorem ZH8 {α:Type}(f:α->Nat){x:α}:∀{l:List α},x∈l->1+f x<=wtL f l
 |a::s,h=>by
  rw[Zw]
  rcases yR.1 h with rfl|h
  ·omega
  ·have:=ZH8 f h;omega
theorem ZJ2 :∀(p:List Int) (v u:Value),vAt p v=some u->p.length<=v.wt
 | [],v,u,_=>zB _
 |i::r,v,u,h=>by
  rw[vAt]at h
  cases e:at? v.kids i with
  |none=>rw[e]at h;cases h
  |some x=>
   rw[e]at h
   have h1:=ZJ2 r x u h
   have h2:=ZAG Value.wt v.kids
   have h3:=ZLI e
   have h4:=ZH8 Value.wt h3
   rw[Value.wt_eq v,yD];omega
theorem P.YAZ (l:List (List Int))(p:List Int)(hl:l.length<=67108863)(hp:p.length<=67108864):F.f211 l p=some (ZEF l p):=by
 have hc:F.f210 l p=some (dec (p∈l)):=by
  unfold F.f210 F.f209
  have one:∀q,F.f207 q p=some (dec (q=p)):=by
   intro q;unfold F.f207;rw[P.YZ];rfl
  rw[ZKz (a:=l) (p:=fun q=>q=p) (L:=kO l p) (fun k hk=>by rw[kO,iN (by omega)])
   (fun k hk hp=>by rw[kO,iP hk,gQ hk];simp only[oE,oS];rw[one];simp only[oS];rw[iN (by rw[ZB hp];simp)])
   (fun k hk hp=>by rw[kO,iP hk,gQ hk];simp only[oE,oS];rw[one];simp only[oS];rw[iP (dec_of hp)]) _ 0 rfl,zV]
  cases hf:ZGR (fun q=>q=p) 0 l with
  |none=>
   have:=ZAn hf
   simp only[oE,oS]
   rw[ZB fun h=>this p h rfl];rfl
  |some j=>
   obtain⟨_,h2,h3,_⟩:=ZAm hf
   simp only[oE,oS]
   rw[dec_of (h3▸gM h2)];simp
 unfold F.f211 ZEF
 rw[hc]
 simp only[oE,oS]
 by_cases h:p∈l
 ·rw[iP (dec_of h),iP h]
 ·rw[iN (by rw[ZB h];decide),iN h,P.YB _ hp]
  simp only[oS]
  rw[iP (by omega)]
theorem P.YA9 (v9:Int×List Bind×List (List Int))(out:List (List Int))(i:Nat)(hi:i<v9.2.2.length):∀(m k:Nat) (found:Bool),out.length-k=m->kX v9 out i found k=some (found||dec (v9.2.2[i]∈out.drop k)):=by
 intro m
 induction m with
 |zero=>
  intro k found hm
  rw[kX,iN (by omega),zT (by omega),ZB (by simp),Bool.or_false]
 |succ m ih=>
  intro k found hm
  have hk:k<out.length:=by omega
  rw[kX,iP hk,zS hk]
  cases found with
  |true=>rw[iP rfl,ih (k+1) true (by omega)];simp
  |false=>
   rw[iN (by decide),gQ hk,gQ hi]
   simp only[oE,oS]
   rw[P.Yk]
   simp only[oS]
   rw[ih (k+1) _ (by omega),xX]
   congr 1
   by_cases h1:out[k]=v9.2.2[i]
   ·rw[dec_of h1,dec_of (show v9.2.2[i]∈out[k]::out.drop (k+1) by rw[←h1];exact yG ..),Bool.true_or]
   ·rw[ZB h1,xX]
    exact ZJ ⟨fun h=>zZ _ h,fun h=>(yR.1 h).resolve_left fun e=>h1 e.symm⟩
theorem P.YBA (v9:Int×List Bind×List (List Int))(hl:v9.2.2.length<=60000000)(hp:∀p,p∈v9.2.2->p.length<=67108864):∀(m i:Nat) (out:List (List Int)),v9.2.2.length-i=m->out.length<=i->kP v9 out i=some ((v9.2.2.drop i).foldl ZEF out):=by
 intro m
 induction m with
 |zero=>
  intro i out hm ho
  rw[kP,iN (by omega),zT (by omega)];rfl
 |succ m ih=>
  intro i out hm ho
  have hi:i<v9.2.2.length:=by omega
  rw[kP,iP hi,P.YA9 v9 out i hi _ 0 false rfl,zS hi,yL]
  simp only[oE,oS,xX,zV]
  unfold ZEF
  by_cases h:v9.2.2[i]∈out
  ·rw[iP (dec_of h),iP h,iP (by omega)]
   exact ih (i+1) out (by omega) (by omega)
  ·rw[iN (by rw[ZB h];decide),iN h,gQ hi]
   simp only[oS]
   rw[iP (hp _ (gM hi)),iP (by omega),iP (by omega)]
   exact ih (i+1) _ (by omega) (by simp;omega)
theorem ZG0 {C:List Step}{l:List Clause}(hC:C.length<=60000000)(hv:v.wt<=1048576){k:Nat}(h:RunOk C v l.length k):∀(paths:List (List Int)),paths.length<=k->(∀p,p∈paths->p.length<=1048576)->
  ∃(c:Int) (bs:List Bind) (ps:List (List Int)),kM C l v (paths.foldl ZEF []) paths.length (k:Int)=some (c,bs,(ps.length:Int),ps.foldl ZEF [])/\ps.length<=60000000/\(∀p,p∈ps->p.length<=1048576)/\
   ((kL l C v paths (k:Int)=some (.ret (c,bs,ps)))∨kL l C v paths (k:Int)=some (.go ps)):=by
 induction h with
 |fail k s h h3=>
  intro paths hp hpl
  have hkl:k<C.length:=(yX.1 h).1
  rw[kM,kL,ZEs,h]
  simp only[oE,oS]
  rw[iP h3,iP h3]
  exact⟨_,_,paths,rfl,by omega,hpl,.inr rfl⟩
 |take k j c s h h2 hb hl hc hn ht hk r ih=>
  intro paths hp hpl
  have hkl:k<C.length:=(yX.1 h).1
  obtain⟨b,g1,g2⟩:=P.YA0 (l[c]).guard (s.binds.map (ZJi v))
  rw[kM,kL,ZEs,h]
  simp only[oE,oS,F.f212]
  rw[iN (show ¬s.op=3 by omega),iN (show ¬s.op=1 by omega)]
  simp only[oS]
  rw[iN (show ¬s.op=1 by omega),iN (show ¬s.op=3 by omega),iP h2,P.YAs _ v hb (by omega) (by omega),P.Yx _ v hb (by omega) (by omega),hc,ZCx hn]
  simp only[oS]
  rw[g1,g2]
  simp only[oS]
  cases b with
  |true=>
   rw[iP rfl,iP rfl]
   exact⟨_,_,paths,rfl,by omega,hpl,.inl rfl⟩
  |false=>
   rw[iN (by decide),iN (by decide),ht]
   exact ih paths (by omega) hpl
 |test k j s u h h1 hu ht hk hps r ih1 ih2=>
  intro paths hp hpl
  have hkl:k<C.length:=(yX.1 h).1
  have hsl:=ZJ2 _ _ _ hu
  have hfl:=ZGP paths []
  rw[kM,kL,ZEs,h]
  simp only[oE,oS,F.f212]
  rw[iN (show ¬s.op=3 by omega),iP h1,P.YAZ _ _ (by simp at hfl;omega) (by omega)]
  simp only[oS]
  rw[iP h1,iN (show ¬s.op=3 by omega),iN (show ¬s.op=2 by omega),iP (show paths.length+1<=9223372036854775807 by omega),iP (show paths.length+1<=67108864 by omega),P.YAM,P.YAK,hu]
  simp only[oS]
  rw[P.YAY,P.Yw]
  simp only[oS]
  have hpl':∀p,p∈paths++[s.path]->p.length<=1048576:=fun p hp=>(yH.1 hp).elim (hpl p) fun h=>by rw[yU.1 h];omega
  by_cases hq:ZJB s u
  ·rw[dec_of hq,iP rfl,iP rfl,ZD (by omega) (by omega)]
   have:=ih1 hq (paths++[s.path]) (by simp;omega) hpl'
   rw[zU,xD,ZEj]at this
   exact this
  ·rw[ZB hq,iN (by decide),iN (by decide),ht]
   have:=ih2 (paths++[s.path]) (by simp;omega) hpl'
   rw[zU,xD,ZEj]at this
   exact this
theorem P.Yb (w:List Data)(hw:ZAg w)(t:Ty)(l:List Clause)(v:Value)(hp:∀c,c∈l->c.pat.wt<=1048576)(hv:v.wt<=1048576):
  ∃r:List (List Int),F.f226 w t l v=some r/\F.f129 w t l v=some r/\(r=[]∨∃ps,r=ps.foldl ZEF []/\ps.length<=60000000/\(∀p,p∈ps->p.length<=1048576)/\ZOY w t l/\pv w false 10 t v/\(∀c,c∈l->c.pat.alts<=40)/\
   ((∃c bs,kL l (ZBE 0 [] (l.map fun c=>c.pat.splits)++[ZD0]) v [] 0=some (.ret (c,bs,ps)))∨kL l (ZBE 0 [] (l.map fun c=>c.pat.splits)++[ZD0]) v [] 0=some (.go ps))):=by
 obtain⟨C,b,e1,e2,e3⟩:=P.YAb w hw t l hp fun hc c h=>(hc.2.2 c h).1
 unfold F.f226 F.f129
 rw[e1,e2]
 simp only[oE,oS]
 cases b with
 |false=>rw[iN (by decide),iN (by decide)];exact⟨_,rfl,rfl,.inl rfl⟩
 |true=>
  obtain⟨hc,ha,rfl⟩:=e3 rfl
  rw[iP rfl,iP rfl,P.YAV w t v hc.1 hv,P.YBE w t v hc.1 hv]
  simp only[oS]
  by_cases hg:pv w false 10 t v/\1+v.wt<=60
  ·rw[iP (dec_of hg),iP (dec_of hg)]
   obtain⟨h1,h2⟩:=ZMY hc ha hg.1
   obtain⟨c,bs,ps,q1,q2,q3,q4⟩:=ZG0 h2 hv h1 [] (zB _) (fun p hp=>by cases hp)
   unfold F.f225 F.f124
   have q1:kM (ZBE 0 [] (l.map fun c=>c.pat.splits)++[ZD0]) l v [] 0 0=some (c,bs,(ps.length:Int),ps.foldl ZEF []):=q1
   rw[q1]
   have fin:∀(c:Int) (bs:List Bind),kP (c,bs,ps) [] 0=some (ps.foldl ZEF []):=fun c bs=>P.YBA (c,bs,ps) q2 (fun p hp=>by have:=q3 p hp;omega) _ 0 [] rfl (zA _)
   rcases q4 with q4|q4
   ·have q4:kL l (ZBE 0 [] (l.map fun c=>c.pat.splits)++[ZD0]) v [] 0=some (.ret (c,bs,ps)):=q4
    rw[q4]
    simp only[oE,oS,fin]
    exact⟨_,rfl,rfl,.inr ⟨ps,rfl,q2,q3,hc,hg.1,ha,.inl ⟨c,bs,rfl⟩⟩⟩
   ·have q4:kL l (ZBE 0 [] (l.map fun c=>c.pat.splits)++[ZD0]) v [] 0=some (.go ps):=q4
    rw[q4]
    simp only[oE,oS,fin]
    exact⟨_,rfl,rfl,.inr ⟨ps,rfl,q2,q3,hc,hg.1,ha,.inr rfl⟩⟩
  ·rw[iN (by rw[ZB hg];decide),iN (by rw[ZB hg];decide)]
   exact⟨_,rfl,rfl,.inl rfl⟩
end Go.Vl
