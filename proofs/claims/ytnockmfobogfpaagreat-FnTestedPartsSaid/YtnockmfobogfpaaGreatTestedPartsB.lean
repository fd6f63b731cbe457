import Derived.Test.YtnockmfobogfpaaGreatTestedPartsP
import Derived.Test.YtnockmfobogfpaaGreatTestedPartsE
set_option linter.all false
set_option maxRecDepth 100000
open Nat renaming le_refl->zA,zero_le->zB,mul_add->zC,mul_le_mul_right->zD,sub_self->zE,mul_assoc->zF,add_mul->zG,zero_add->zH,mul_le_mul_left->zI,add_assoc->zJ,mul_comm->zK,pow_succ->zL,add_zero->zM,one_mul->zN,mod_lt->zO,min_eq_left->zP,mul_one->zQ,add_comm->zR,min_eq_right->zS,mul_le_mul->zT,le_trans->zU,xor_lt_two_pow->zV,eq_zero_or_pos->zW,lt_trichotomy->zX,mod_eq_of_lt->zY,div_eq_of_lt->zZ,mul_add_mod->yA,succ_mul->yB,sub_zero->yC,lt_trans->yD,pow_pos->yE
open List renaming drop_eq_getElem_cons->yF,drop_eq_nil_of_le->yG,length_append->yH,drop_zero->yI,map_cons->yJ,append_assoc->yK,take_of_length_le->yL,nil_append->yM,mem_append->yN,length_cons->yO,mem_cons_of_mem->yP,length_nil->yQ,mem_map->yR,map_append->yS,length_map->yT,flatMap_cons->yU,mem_cons_self->yV,getElem_of_mem->yW,getD_eq_getElem?_getD->yX,mem_singleton->yY,mem_take_iff_getElem->yZ,foldl_cons->xA,mem_cons->xB,take_append->xC,length_take->xD,take_succ_eq_append_getElem->xE,exists_cons_of_length_pos->xF,getElem_cons_zero->xG,mem_flatMap->xH,cons_append->xI,all_eq_true->xJ,getElem?_eq_some_iff->xK,sum_cons->xL,nodup_cons->xM,zip_cons_cons->xN,map_nil->xO,drop_left->xP,length_singleton->xQ,mem_append_left->xR,eq_nil_of_length_eq_zero->xS,append_nil->xT,getElem_append_right->xU,getElem_map->xV,range->xW,getElem_cons_succ->xX,mem_filter->xY,sizeOf_lt_of_mem->xZ,take_left->vA,mem_iff_getElem->vB,take_succ_cons->vC,take_take->vD,getElem?_append_right->vE,getElem_append_left->vF,mem_append_right->vG,mem_of_mem_take->vH,mem_of_mem_drop->vI,length_pos_iff->vJ,append_of_mem->vK,range'_succ->vL,perm_middle->vM,not_mem_nil->vN,ext_getElem->vO,any_eq_true->vP,length_zip->vQ,map_take->vR,map_map->vS,length->vT
open Classical renaming byContradiction->vU
open Int renaming toNat_of_nonneg->vV,eq_ofNat_of_zero_le->vW,le_refl->vX,tmod_lt_of_pos->vY,tdiv_le_self->vZ,tmod_nonneg->uA,tdiv_nonneg->uB
open Bool renaming false_eq_true->uC,or_eq_true->uD,and_eq_true->uE,false_or->uF
namespace Go.Vl
open Go Go.RowKit
open F renaming f108->uG,f107->uH,f53->uI,f134->uJ,f74->uK,f38->uL,f169->uM,f136->uN,f68->uO,f99->uP,f82->uQ,f80->uR,f55->uS,f228->uT,f226->uU,f22->uV,f20->uW,f19->uX,f18->uY,f16->uZ,f132->kA,f130->kB,f13->kC,f127->kD,f123->kE,f114->kF,f84->kG,f78->kH,f76->kI,f73->kJ,f71->kK,f70->kL,f64->kM,f56->kN,f54->kO,f225->kP,f171->kQ,f170->kR,f121->kS,f120->kT,f119->kU,f118->kV,f116->kW,f115->kX,f103->kY,f1->kZ
open Go.IntKind (i64)
variable {α:Type}
theorem oS {β:Type}{a:α}{f:α->Option β}:(some a).bind f=f a:=rfl
theorem oE {β:Type}:(bind:Option α->(α->Option β)->Option β)=Option.bind:=rfl
theorem gQ {l:List α}{i:Nat}(h:i<l.length):l[i]? =some l[i]:=List.getElem?_eq_getElem h
theorem gM {l:List α}{n:Nat}(h:n<l.length):l[n]∈l:=List.getElem_mem h
theorem ZSl {c:Prop}[Decidable c]{a b r:Option α}(h1:c->a=r)(h2:¬c->b=r):(if c then a else b)=r:=by
 by_cases h:c
 ·rw[iP h];exact h1 h
 ·rw[iN h];exact h2 h
noncomputable def ZGh {α:Type}(p:α->Prop):Nat->List α->Option Nat
 |_,[]=>none
 |k,x::r=>if dec (p x)=true then some k else ZGh p (k+1) r
theorem ZAi {α:Type}{p:α->Prop}:∀{l:List α} {k j:Nat},ZGh p k l=some j->k<=j/\∃h:j-k<l.length,p l[j-k]/\∀i (hi:i<l.length),i<j-k->¬p l[i]
 |x::r,k,j,h=>by
  simp only[ZGh]at h
  split at h
  ·next hp=>
   obtain rfl:=Option.some.inj h
   refine⟨zA _,by simp,?_,fun i _ hi=>by omega⟩
   simpa using ZD2.1 hp
  ·next hp=>
   obtain⟨h1,h2,h3,h4⟩:=ZAi h
   have e:j-k=(j- (k+1))+1:=by omega
   refine⟨by omega,by simp;omega,?_,fun i hi hlt=> ?_⟩
   ·simp only[e,xX];exact h3
   ·cases i with
    |zero=>exact fun hq=>hp (ZF hq)
    |succ i=>exact h4 i (by simpa using hi) (by omega)
theorem ZAj {α:Type}{p:α->Prop}:∀{l:List α} {k:Nat},ZGh p k l=none->∀x,x∈l->¬p x
 | [],_,_=>fun x hx=>by cases hx
 |x::r,k,h=>by
  simp only[ZGh]at h
  split at h
  ·cases h
  ·next hp=>
   intro y hy
   rcases xB.1 hy with rfl|hy
   ·exact fun hq=>hp (ZF hq)
   ·exact ZAj h y hy
theorem ZLH {a:List α}{p:α->Prop}{L:Nat->Option (Lo Int Unit)}(h0:∀k,a.length<=k->L k=some (.go ()))(h1:∀k (h:k<a.length),¬p a[k]->L k=L (k+1))(h2:∀k (h:k<a.length),p a[k]->L k=some (.ret (k:Int))):∀(m k:Nat),a.length-k=m->L k=some (match ZGh p k (a.drop k)with|some j=>.ret (j:Int)|none=>.go ()):=by
 intro m
 induction m with
 |zero=>intro k hm;rw[h0 k (by omega),yG (by omega)];rfl
 |succ m ih=>
  intro k hm
  have hk:k<a.length:=by omega
  rw[yF hk]
  by_cases hp:p a[k]
  ·rw[h2 k hk hp];simp only[ZGh];rw[iP (ZF hp)]
  ·rw[h1 k hk hp,ih (k+1) (by omega)];simp only[ZGh];rw[iN (by rw[ZD hp];simp)]
def ZPe (c:Nat):Prop:=65<=c/\c<=90
def ZFe (s:ByteArray):Prop:=s.size=1/\ZPe (byteAt s 0)/\s≠⟨#[73]⟩
def ZGM (s:ByteArray):Prop:=1<=s.size/\s.size<=5/\ZPe (byteAt s 0)/\∀i,1<=i->i<s.size->97<=byteAt s i/\byteAt s i<=122
def ZBt (n:Nat)(t:Ty):Prop:=(t.data= -1/\t.index=0)∨(0<=t.data/\t.data<n/\-1<=t.index/\t.index<=3)
def ZE1 (n:Nat)(c:Ctor):Prop:=ZGM c.name/\c.args.length<=3/\0<=c.index/\c.index<=3/\∀j,0<=j->(h:j<c.args.length)->ZBt n c.args[j]
theorem P.Ys (c:Nat):F.f11 c=some (dec (ZPe c)):=by
 unfold F.f11
 by_cases h:65<=(c:Int)
 ·rw[iP h];congr 1;rw[←Zv];exact ZL ⟨fun h'=>⟨by omega,by omega⟩,fun h'=>by have:=h'.2;omega⟩
 ·rw[iN h,ZD fun h'=>h (by have:=h'.1;omega)]
theorem P.YAh (s:ByteArray):F.f12 s=some (dec (ZFe s)):=by
 unfold F.f12
 by_cases h:s.size=1
 ·rw[iP h,iP (by omega),P.Ys]
  simp only[oE,oS]
  by_cases hb:ZPe (byteAt s 0)
  ·rw[iP (ZF hb)];congr 1;rw[←Zv];exact ZL ⟨fun h'=>⟨h,hb,fun e=>h' (by rw[e])⟩,fun h' e=>h'.2.2 (ZAX.1 e)⟩
  ·rw[iN (by rw[ZD hb];simp),ZD fun h'=>hb h'.2.1]
 ·rw[iN h,ZD fun h'=>h h'.1]
theorem P.YAT (s:ByteArray)(hs:s.size<=1048576):kC s 1=some (if dec (∀i,1<=i->i<s.size->97<=byteAt s i/\byteAt s i<=122)=true then .go ()else .ret false):=by
 refine ZIw (L:=kC s) (fun k hk=> ?_) (fun k hk hq=> ?_) (fun k hk hq=> ?_) _ 1 rfl
 ·rw[kC,iN (by omega)]
 ·rw[kC,iP hk,iN (by omega),iN (by omega),iP (by omega)]
 ·rw[kC,iP hk]
  by_cases h:byteAt s k<97
  ·rw[iP h]
  ·rw[iN h,iP (by omega)]
theorem P.YAX (s:ByteArray)(hs:s.size<=1048576):uP s 1=some (if dec (∀i,1<=i->i<s.size->97<=byteAt s i/\byteAt s i<=122)=true then .go ()else .ret false):=by
 refine ZIw (L:=uP s) (fun k hk=> ?_) (fun k hk hq=> ?_) (fun k hk hq=> ?_) _ 1 rfl
 ·rw[uP,iN (by omega)]
 ·rw[uP,iP hk,iN (by omega),iN (by omega),iP (by omega)]
 ·rw[uP,iP hk]
  by_cases h:byteAt s k<97
  ·rw[iP h]
  ·rw[iN h,iP (by omega)]
theorem P.Yu (s:ByteArray)(hs:s.size<=1048576):F.f14 s=some (dec (ZGM s)):=by
 unfold F.f14
 by_cases h0:s.size=0
 ·rw[iP h0,ZD fun h=>by have:=h.1;omega]
 by_cases h5:5<s.size
 ·rw[iN h0,iP h5,ZD fun h=>by have:=h.2.1;omega]
 rw[iN h0,iN h5,iP (by omega),P.Ys]
 simp only[oE,oS]
 by_cases hb:ZPe (byteAt s 0)
 ·rw[iP (ZF hb),P.YAT s hs]
  simp only[oS]
  by_cases hall:∀i,1<=i->i<s.size->97<=byteAt s i/\byteAt s i<=122
  ·rw[iP (ZF hall),ZF ⟨by omega,by omega,hb,hall⟩]
  ·rw[iN (by rw[ZD hall];simp),ZD fun h=>hall h.2.2.2]
 ·rw[iN (by rw[ZD hb];simp),ZD fun h=>hb h.2.2.1]
theorem P.YE (n low high:Int):F.f98 n low high=some (dec (low<=n/\n<=high)):=by
 unfold F.f98
 by_cases h:low<=n
 ·rw[iP h];congr 1;rw[←Zv];exact ZL ⟨fun h'=>⟨h,h'⟩,fun h'=>h'.2⟩
 ·rw[iN h,ZD fun h'=>h h'.1]
theorem P.YAA (s:ByteArray)(hs:s.size<=1048576):F.f100 s=some (dec (ZGM s)):=by
 unfold F.f100
 rw[P.YE]
 simp only[oE,oS]
 by_cases h0:1<=(s.size:Int)/\(s.size:Int)<=5
 ·rw[iP (ZF h0),iP (by omega)]
  by_cases a1:byteAt s 0<65
  ·rw[iP a1,ZD fun h=>by have:=h.2.2.1.1;omega]
  by_cases a2:90<byteAt s 0
  ·rw[iN a1,iP a2,ZD fun h=>by have:=h.2.2.1.2;omega]
  rw[iN a1,iN a2,P.YAX s hs]
  simp only[oS]
  by_cases hall:∀i,1<=i->i<s.size->97<=byteAt s i/\byteAt s i<=122
  ·rw[iP (ZF hall),ZF ⟨by omega,by omega,⟨by omega,by omega⟩,hall⟩]
  ·rw[iN (by rw[ZD hall];simp),ZD fun h=>hall h.2.2.2]
 ·rw[iN (by rw[ZD h0];simp),ZD fun h=>h0 ⟨by have:=h.1;omega,by have:=h.2.1;omega⟩]
theorem P.YW (n:Nat)(t:Ty):F.f15 n t=some (dec (ZBt n t)):=by
 unfold F.f15
 by_cases h:t.data= -1
 ·rw[iP h];congr 1;rw[←Zv];exact ZL ⟨fun h'=>.inl ⟨h,h'⟩,fun h'=>h'.elim (·.2) (fun h'=>by have:=h'.1;omega)⟩
 rw[iN h]
 by_cases h1:0<=t.data
 ·by_cases h2:t.data<n
  ·by_cases h3: -1<=t.index
   ·rw[iP h1,iP h2,iP h3];congr 1;rw[←Zv];exact ZL ⟨fun h'=>.inr ⟨h1,h2,h3,h'⟩,fun h'=>h'.elim (fun h'=>absurd h'.1 h) (fun h'=>h'.2.2.2)⟩
   ·rw[iP h1,iP h2,iN h3,ZD fun h'=>h'.elim (fun h'=>h h'.1) (fun h'=>h3 h'.2.2.1)]
  ·rw[iP h1,iN h2,ZD fun h'=>h'.elim (fun h'=>h h'.1) (fun h'=>h2 h'.2.1)]
 ·rw[iN h1,ZD fun h'=>h'.elim (fun h'=>h h'.1) (fun h'=>h1 h'.1)]
theorem P.YAs (w:List Data)(t:Ty)(hw:w.length<=1048576):F.f101 w t=some (dec (ZBt w.length t)):=by
 unfold F.f101
 by_cases h:eq2 (t.data,t.index) (-1,0)
 ·rw[iP (ZF h),ZF (.inl h)]
 rw[iN (by rw[ZD h];simp),P.YE,ZC (by omega) (by omega)]
 simp only[oE,oS]
 by_cases h1:0<=t.data/\t.data<=(w.length:Int) -1
 ·rw[iP (ZF h1),P.YE]
  simp only[oS]
  congr 1;exact ZL ⟨fun h'=>.inr ⟨h1.1,by omega,h'.1,h'.2⟩,fun h'=>h'.elim (fun h'=>absurd h' h) (fun h'=>h'.2.2)⟩
 ·rw[iN (by rw[ZD h1];simp),ZD fun h'=>h'.elim (fun h'=>h h') (fun h'=>h1 ⟨h'.1,by have:=h'.2.1;omega⟩)]
theorem P.Yj (n:Nat)(c:Ctor)(hs:c.name.size<=1048576):F.f17 n c=some (dec (ZE1 n c)):=by
 unfold F.f17
 rw[P.Yu _ hs]
 simp only[oE,oS]
 by_cases h1:ZGM c.name
 ·rw[iP (ZF h1)]
  by_cases h2:3<c.args.length
  ·rw[iP h2,ZD fun h=>by have:=h.2.1;omega]
  by_cases h3:c.index<0
  ·rw[iN h2,iP h3,ZD fun h=>by have:=h.2.2.1;omega]
  by_cases h4:3<c.index
  ·rw[iN h2,iN h3,iP h4,ZD fun h=>by have:=h.2.2.2.1;omega]
  rw[iN h2,iN h3,iN h4]
  have key:uZ n c 0=some (if dec (∀j,0<=j->j<c.args.length->∀h:j<c.args.length,ZBt n c.args[j])=true then .go ()else .ret false):=by
   refine ZIw (n:=c.args.length) (Q:=fun j=>∀h:j<c.args.length,ZBt n c.args[j]) (L:=uZ n c) (fun k hk=> ?_) (fun k hk hq=> ?_) (fun k hk hq=> ?_) _ 0 rfl
   ·rw[uZ,iN (by omega)]
   ·rw[uZ,iP hk,gQ hk]
    simp only[oE,oS]
    rw[P.YW]
    simp only[oS]
    rw[iP (ZF (hq hk))]
   ·rw[uZ,iP hk,gQ hk]
    simp only[oE,oS]
    rw[P.YW]
    simp only[oS]
    rw[iN (by rw[ZD fun h=>hq fun _=>h];simp)]
  rw[key]
  simp only[oS]
  by_cases hall:∀j,0<=j->j<c.args.length->∀h:j<c.args.length,ZBt n c.args[j]
  ·rw[iP (ZF hall),ZF ⟨h1,by omega,by omega,by omega,fun j h0 hj=>hall j h0 hj hj⟩]
  ·rw[iN (by rw[ZD hall];simp),ZD fun h=>hall fun j h0 _ hj=>h.2.2.2.2 j h0 hj]
 ·rw[iN (by rw[ZD h1];simp),ZD fun h=>h1 h.1]
theorem P.YAJ (t:Ty)(w:List Data)(hw:w.length<=1048576):F.f102 t w=some (!dec (ZBt w.length t)):=by
 unfold F.f102
 rw[P.YAs w t hw];rfl
theorem P.YAu (w:List Data)(hw:w.length<=1048576)(s:List Ty):∃v,F.f104 s w=some v/\(0<=v↔¬∀j,0<=j->(h:j<s.length)->ZBt w.length s[j]):=by
 unfold F.f104
 have key:∀(m k:Nat),s.length-k=m->∃r,kY s w k=some r/\
   match r with| .ret j=>0<=j/\¬∀j,k<=j->(h:j<s.length)->ZBt w.length s[j]| .go _=>∀j,k<=j->(h:j<s.length)->ZBt w.length s[j]:=by
  intro m
  induction m with
  |zero=>
   intro k hm
   rw[kY,iN (by omega)]
   exact⟨_,rfl,fun j hj h=>by omega⟩
  |succ m ih=>
   intro k hm
   have hk:k<s.length:=by omega
   rw[kY,iP hk,gQ hk]
   simp only[oE,oS]
   rw[P.YAJ _ _ hw]
   simp only[oS]
   by_cases h:ZBt w.length s[k]
   ·rw[iN (by rw[ZF h];simp)]
    obtain⟨r,hr,hx⟩:=ih (k+1) (by omega)
    refine⟨r,hr,?_⟩
    cases r with
    |ret j=>exact⟨hx.1,fun hh=>hx.2 fun j hj hl=>hh j (by omega) hl⟩
    |go _=>
     intro j hj hl
     by_cases e:k=j
     ·subst e;exact h
     ·exact hx j (by omega) hl
   ·rw[iP (by rw[ZD h];simp)]
    exact⟨_,rfl,by omega,fun hh=>h (hh k (zA _) hk)⟩
 obtain⟨r,hr,hx⟩:=key _ 0 rfl
 rw[hr]
 cases r with
 |ret j=>exact⟨j,rfl,fun _=>hx.2,fun _=>hx.1⟩
 |go _=>exact⟨-1,rfl,fun h=>by omega,fun h=>absurd hx h⟩
theorem P.Yl (w:List Data)(c:Ctor)(hw:w.length<=1048576)(hs:c.name.size<=1048576):F.f106 w c=some (dec (ZE1 w.length c)):=by
 unfold F.f106
 rw[P.YAA _ hs]
 simp only[oE,oS]
 by_cases h1:ZGM c.name
 ·rw[iP (ZF h1)]
  by_cases h2:c.args.length<=3
  ·rw[iP h2,P.YE]
   simp only[oS]
   by_cases h3:0<=c.index/\c.index<=3
   ·rw[iP (ZF h3)]
    unfold F.f105
    obtain⟨v,hv,hx⟩:=P.YAu w hw c.args
    rw[hv]
    simp only[oE,oS]
    by_cases hall:∀j,0<=j->(h:j<c.args.length)->ZBt w.length c.args[j]
    ·have:¬0<=v:=fun h=>(hx.1 h) hall
     rw[ZF ⟨h1,h2,h3.1,h3.2,hall⟩];simp[this]
    ·have:0<=v:=hx.2 hall
     rw[ZD fun h=>hall h.2.2.2.2];simp[this]
   ·rw[iN (by rw[ZD h3];simp),ZD fun h=>h3 ⟨h.2.2.1,h.2.2.2.1⟩]
  ·rw[iN h2,ZD fun h=>h2 h.2.1]
 ·rw[iN (by rw[ZD h1];simp),ZD fun h=>h1 h.1]
abbrev ZAI (d:Data):List ByteArray:=d.ctors.map (·.name)
structure ctorAt (w:List Data)(i:Nat)(d:Data)(k:Nat)(c:Ctor):Prop where
 ok:ZE1 w.length c
 new:c.name∉(w.take i).flatMap ZAI++(d.ctors.take k).map (·.name)
structure dataAt (w:List Data)(i:Nat)(d:Data):Prop where
 name:ZFe d.name
 new:d.name∉(w.take i).map (·.name)
 some:1<=d.ctors.length
 few:d.ctors.length<=4
 ctors:∀k,0<=k->k<d.ctors.length->∀h:k<d.ctors.length,ctorAt w i d k d.ctors[k]
def ZN (w:List Data):Prop:=w.length<=4/\∀i,0<=i->i<w.length->∀h:i<w.length,dataAt w i w[i]
def ZAD (w:List Data):Prop:=w.length<=1048576/\∀d,d∈w->∀c,c∈d.ctors->c.name.size<=1048576
theorem P.YU (w:List Data)(hw:ZAD w)(met4:List ByteArray)(i:Nat)(hi:i<w.length):uH w met4 i w[i] ((w.take i).flatMap ZAI) 0=
  some (if dec (∀k,0<=k->k<w[i].ctors.length->∀h:k<w[i].ctors.length,ctorAt w i w[i] k w[i].ctors[k])=true then .go ((w.take i).flatMap ZAI++ZAI w[i])else .ret false):=by
 have key:=ZSL (n:=w[i].ctors.length) (r:=false) (p:=(w.take i).flatMap ZAI++ZAI w[i]) (Q:=fun k=>∀h:k<w[i].ctors.length,ctorAt w i w[i] k w[i].ctors[k]) (L:=fun k=>uH w met4 i w[i] ((w.take i).flatMap ZAI++(w[i].ctors.take k).map (·.name)) k)
  (fun k hk=>by
   show uH w met4 i w[i] ((w.take i).flatMap ZAI++(w[i].ctors.take k).map (·.name)) k=_
   rw[uH,iN (by omega),yL hk])
  (fun k hk hq=>by
   show uH w met4 i w[i] ((w.take i).flatMap ZAI++(w[i].ctors.take k).map (·.name)) k=uH w met4 i w[i] ((w.take i).flatMap ZAI++(w[i].ctors.take (k+1)).map (·.name)) (k+1)
   have hc:=hq hk
   rw[uH,iP hk,gQ hk]
   simp only[oE,oS]
   rw[P.Yl w _ hw.1 (hw.2 _ (gM hi) _ (gM hk))]
   simp only[oS]
   rw[iP (ZF hc.ok),iN (by rw[ZD hc.new];simp),ZCX,iN (by rw[ZD hc.new];simp),ZCG hk,yK])
  (fun k hk hq=>by
   show uH w met4 i w[i] ((w.take i).flatMap ZAI++(w[i].ctors.take k).map (·.name)) k=_
   rw[uH,iP hk,gQ hk]
   simp only[oE,oS]
   rw[P.Yl w _ hw.1 (hw.2 _ (gM hi) _ (gM hk))]
   simp only[oS]
   by_cases h1:ZE1 w.length w[i].ctors[k]
   ·rw[iP (ZF h1),iP (ZF ?_)]
    apply vU
    intro h2
    exact hq fun _=>⟨h1,h2⟩
   ·rw[iN (by rw[ZD h1];simp)]) _ 0 rfl
 simpa using key
theorem P.YAF (w:List Data)(hw:ZAD w):uG w [] [] 0=some (if dec (∀i,0<=i->i<w.length->∀h:i<w.length,dataAt w i w[i])=true then .go (w.flatMap ZAI,w.map (·.name))else .ret false):=by
 have key:=ZSL (n:=w.length) (r:=false) (p:=(w.flatMap ZAI,w.map (·.name))) (Q:=fun i=>∀h:i<w.length,dataAt w i w[i]) (L:=fun i=>uG w ((w.take i).flatMap ZAI) ((w.take i).map (·.name)) i)
  (fun i hi=>by
   show uG w ((w.take i).flatMap ZAI) ((w.take i).map (·.name)) i=_
   rw[uG,iN (by omega),yL hi])
  (fun i hi hq=>by
   show uG w ((w.take i).flatMap ZAI) ((w.take i).map (·.name)) i=uG w ((w.take (i+1)).flatMap ZAI) ((w.take (i+1)).map (·.name)) (i+1)
   have hd:=hq hi
   have hn:=hd.name
   have hbig:=hn.2.1
   unfold ZPe at hbig
   have:=hw.1
   rw[uG,iP hi,gQ hi]
   simp only[oE,oS]
   have:=hd.some;have:=hd.few
   rw[iP hn.1,iP (by have:=hn.1;omega),iN (by omega),iN (by omega),iN (fun h=>hn.2.2 (ZAX.1 h)),iN (by rw[ZD hd.new];simp),P.YE]
   simp only[oS]
   rw[iP (ZF (by omega)),P.YU w hw _ i hi,iP (ZF hd.ctors)]
   simp only[oS]
   rw[iP (by omega),ZCX,iN (by rw[ZD hd.new];simp),ZCG hi,ZCk hi])
  (fun i hi hq=>by
   show uG w ((w.take i).flatMap ZAI) ((w.take i).map (·.name)) i=_
   have:=hw.1
   rw[uG,iP hi,gQ hi]
   simp only[oE,oS]
   by_cases h1:w[i].name.size=1
   ·rw[iP h1,iP (by omega)]
    by_cases h2:byteAt w[i].name 0<65
    ·rw[iP h2]
    by_cases h3:90<byteAt w[i].name 0
    ·rw[iN h2,iP h3]
    by_cases h4:w[i].name.toList=(⟨#[73]⟩:ByteArray).toList
    ·rw[iN h2,iN h3,iP h4]
    by_cases h5:w[i].name∈(w.take i).map (·.name)
    ·rw[iN h2,iN h3,iN h4,iP (ZF h5)]
    rw[iN h2,iN h3,iN h4,iN (by rw[ZD h5];simp),P.YE]
    simp only[oS]
    by_cases h6:1<=(w[i].ctors.length:Int)/\(w[i].ctors.length:Int)<=4
    ·rw[iP (ZF h6),P.YU w hw _ i hi,iN (by
      rw[ZD fun hh=>hq fun _=>⟨⟨h1,⟨by omega,by omega⟩,fun e=>h4 (by rw[e])⟩,h5,by omega,by omega,hh⟩];simp)]
     rfl
    ·rw[iN (by rw[ZD h6];simp)]
   ·rw[iN h1]) _ 0 rfl
 simpa using key
theorem P.Yn (w:List Data)(hw:ZAD w):F.f109 w=some (dec (ZN w)):=by
 unfold F.f109
 by_cases h:4<w.length
 ·rw[iP h,ZD fun hh=>by have:=hh.1;omega]
 rw[iN h,P.YAF w hw]
 simp only[oE,oS]
 by_cases hall:∀i,0<=i->i<w.length->∀h:i<w.length,dataAt w i w[i]
 ·rw[iP (ZF hall),ZF ⟨by omega,hall⟩]
 ·rw[iN (by rw[ZD hall];simp),ZD fun hh=>hall hh.2]
theorem P.YAd (w:List Data)(hw:ZAD w)(d k i:Nat)(hd:d<w.length)(hk:k<w[d].ctors.length)(hi:i<d)(hl:w[d].ctors.length<=4)(hli:w[i].ctors.length<=4):uY w d k i 0=
  some (if dec (∀j,0<=j->j<w[i].ctors.length->∀h:j<w[i].ctors.length,w[i].ctors[j].name≠w[d].ctors[k].name)=true then .go ()else .ret true):=by
 have hi':i<w.length:=by omega
 refine ZIw (n:=w[i].ctors.length) (r:=true) (Q:=fun j=>∀h:j<w[i].ctors.length,w[i].ctors[j].name≠w[d].ctors[k].name) (L:=uY w d k i) (fun j hj=> ?_) (fun j hj hq=> ?_) (fun j hj hq=> ?_) _ 0 rfl
 ·rw[uY,gQ hi']
  simp only[oE,oS]
  rw[iN (by omega)]
 ·rw[uY,gQ hi']
  simp only[oE,oS]
  rw[iP hj,iP (by omega),ZCD hd]
  simp only[oS]
  rw[iP (by omega),gQ hj,ZCD hk]
  simp only[oS]
  rw[iN (fun h=>hq hj (ZAX.1 h)),iP (by omega)]
 ·rw[uY,gQ hi']
  simp only[oE,oS]
  rw[iP hj,iP (by omega),ZCD hd]
  simp only[oS]
  rw[iP (by omega),gQ hj,ZCD hk]
  simp only[oS]
  rw[iP (ZAX.2 (vU fun h=>hq fun _=>h))]
theorem P.YAc (w:List Data)(hw:ZAD w)(d k:Nat)(hd:d<w.length)(hk:k<w[d].ctors.length)(hl:w[d].ctors.length<=4):uX w d k d 0=
  some (if dec (∀j,0<=j->j<k->∀h:j<w[d].ctors.length,w[d].ctors[j].name≠w[d].ctors[k].name)=true then .go ()else .ret true):=by
 refine ZIw (n:=k) (r:=true) (Q:=fun j=>∀h:j<w[d].ctors.length,w[d].ctors[j].name≠w[d].ctors[k].name) (L:=uX w d k d) (fun j hj=> ?_) (fun j hj hq=> ?_) (fun j hj hq=> ?_) _ 0 rfl
 ·rw[uX,gQ hd]
  simp only[oE,oS]
  rcases Nat.lt_or_ge j w[d].ctors.length with h|h
  ·rw[iP h,iN (by omega),iN (by omega)]
  ·rw[iN (by omega)]
 ·have hj':j<w[d].ctors.length:=yD hj hk
  rw[uX,gQ hd]
  simp only[oE,oS]
  rw[iP hj',iN (by omega),iP (by omega),ZCD hd]
  simp only[oS]
  rw[iP (by omega),gQ hj',ZCD hk]
  simp only[oS]
  rw[iN (fun h=>hq hj' (ZAX.1 h)),iP (by omega)]
 ·have hj':j<w[d].ctors.length:=yD hj hk
  rw[uX,gQ hd]
  simp only[oE,oS]
  rw[iP hj',iN (by omega),iP (by omega),ZCD hd]
  simp only[oS]
  rw[iP (by omega),gQ hj',ZCD hk]
  simp only[oS]
  rw[iP (ZAX.2 (vU fun h=>hq fun _=>h))]
structure fresh (w:List Data)(d k i:Nat)(hd:d<w.length)(hk:k<w[d].ctors.length):Prop where
 data:i<d->∀h:i<w.length,w[i].name≠w[d].name
 ctor:i<d->∀h:i<w.length,∀j,0<=j->j<w[i].ctors.length->∀h:j<w[i].ctors.length,w[i].ctors[j].name≠w[d].ctors[k].name
 own:i=d->∀j,0<=j->j<k->∀h:j<w[d].ctors.length,w[d].ctors[j].name≠w[d].ctors[k].name
theorem P.YZ (w:List Data)(hw:ZAD w)(d k:Nat)(hd:d<w.length)(hk:k<w[d].ctors.length)(hw4:w.length<=4)(hl:∀i,i<=d->∀h:i<w.length,w[i].ctors.length<=4):F.f21 w d k=some (!dec (∀i,0<=i->i<d+1->fresh w d k i hd hk)):=by
 unfold F.f21
 have key:uW w d k 0=some (if dec (∀i,0<=i->i<d+1->fresh w d k i hd hk)=true then .go ()else .ret true):=by
  refine ZIw (n:=d+1) (r:=true) (Q:=fun i=>fresh w d k i hd hk) (L:=uW w d k) (fun i hi=> ?_) (fun i hi hq=> ?_) (fun i hi hq=> ?_) _ 0 rfl
  ·rw[uW,iN (by omega)]
  ·rw[uW,iP (by omega)]
   by_cases h:i<d
   ·have hi':i<w.length:=by omega
    rw[iP (by omega),gQ hi',ZCD hd]
    simp only[oE,oS]
    rw[iN (fun e=>hq.data h hi' (ZAX.1 e)),P.YAd w hw d k i hd hk h (hl d (zA _) hd) (hl i (by omega) hi'),iP (ZF (hq.ctor h hi'))]
    simp only[oS]
    rw[iP (by omega)]
   ·obtain rfl:i=d:=by omega
    rw[iN (by omega),P.YAc w hw i k hd hk (hl i (zA _) hd),iP (ZF (hq.own rfl))]
    simp only[oE,oS]
    rw[iP (by omega)]
  ·rw[uW,iP (by omega)]
   by_cases h:i<d
   ·have hi':i<w.length:=by omega
    rw[iP (by omega),gQ hi',ZCD hd]
    simp only[oE,oS]
    by_cases hn:w[i].name=w[d].name
    ·rw[iP (ZAX.2 hn)]
    ·rw[iN (fun e=>hn (ZAX.1 e)),P.YAd w hw d k i hd hk h (hl d (zA _) hd) (hl i (by omega) hi'),iN (by rw[ZD fun hh=>hq ⟨fun _ _=>hn,fun _ _=>hh,fun e=>by omega⟩];simp)]
     rfl
   ·obtain rfl:i=d:=by omega
    rw[iN (by omega),P.YAc w hw i k hd hk (hl i (zA _) hd),iN (by rw[ZD fun hh=>hq ⟨fun e=>by omega,fun e=>by omega,fun _=>hh⟩];simp)]
    rfl
 rw[key]
 simp only[oE,oS]
 by_cases hall:∀i,0<=i->i<d+1->fresh w d k i hd hk
 ·rw[iP (ZF hall),ZF hall];rfl
 ·rw[iN (by rw[ZD hall];simp),ZD hall];rfl
theorem ZDz (w:List Data)(d k:Nat)(hd:d<w.length)(hk:k<w[d].ctors.length):(∀i,0<=i->i<d+1->fresh w d k i hd hk)↔w[d].name∉(w.take d).map (·.name)/\w[d].ctors[k].name∉(w.take d).flatMap ZAI++(w[d].ctors.take k).map (·.name):=by
 constructor
 ·intro h
  refine⟨fun hm=> ?_,fun hm=> ?_⟩
  ·obtain⟨x,hx,e⟩:=yR.1 hm
   obtain⟨i,hi,rfl⟩:=yZ.1 hx
   exact(h i (by omega) (by omega)).data (by omega) (by omega) e
  ·rcases yN.1 hm with hm|hm
   ·obtain⟨x,hx,hc⟩:=xH.1 hm
    obtain⟨i,hi,rfl⟩:=yZ.1 hx
    obtain⟨c,hc,e⟩:=yR.1 hc
    obtain⟨j,hj,rfl⟩:=yW hc
    exact(h i (by omega) (by omega)).ctor (by omega) (by omega) j (by omega) hj hj e
   ·obtain⟨c,hc,e⟩:=yR.1 hm
    obtain⟨j,hj,rfl⟩:=yZ.1 hc
    exact(h d (by omega) (by omega)).own rfl j (by omega) (by omega) (by omega) e
 ·rintro⟨h1,h2⟩ i _ hi
  refine⟨fun hid hiw e=>h1 (yR.2 ⟨w[i],yZ.2 ⟨i,by omega,rfl⟩,e⟩),fun hid hiw j _ hj hj' e=>h2 (xR _ (xH.2 ⟨w[i],yZ.2 ⟨i,by omega,rfl⟩,yR.2 ⟨_,gM hj,e⟩⟩)),fun e j _ hj hj' e=>h2 (vG _ (yR.2 ⟨_,yZ.2 ⟨j,by omega,rfl⟩,e⟩))⟩
theorem P.YAD (w:List Data)(hw:ZAD w)(d:Nat)(hd:d<w.length)(hw4:w.length<=4)(hl:∀i,i<=d->∀h:i<w.length,w[i].ctors.length<=4):uV w d 0=
  some (if dec (∀k,0<=k->k<w[d].ctors.length->∀h:k<w[d].ctors.length,w[d].name∉(w.take d).map (·.name)/\ctorAt w d w[d] k w[d].ctors[k])=true then .go ()else .ret false):=by
 have hl0:=hl d (zA _) hd
 refine ZIw (n:=w[d].ctors.length) (r:=false) (Q:=fun k=>∀h:k<w[d].ctors.length,w[d].name∉(w.take d).map (·.name)/\ctorAt w d w[d] k w[d].ctors[k]) (L:=uV w d) (fun k hk=> ?_) (fun k hk hq=> ?_) (fun k hk hq=> ?_) _ 0 rfl
 ·rw[uV,gQ hd]
  simp only[oE,oS]
  rw[iN (by omega)]
 ·obtain⟨h1,h2⟩:=hq hk
  rw[uV,gQ hd]
  simp only[oE,oS]
  rw[iP hk,gQ hk]
  simp only[oS]
  rw[P.Yj _ _ (hw.2 _ (gM hd) _ (gM hk))]
  simp only[oS]
  rw[iP (ZF h2.ok),P.YZ w hw d k hd hk hw4 hl]
  simp only[oS]
  rw[ZF ((ZDz w d k hd hk).2 ⟨h1,h2.new⟩),iN (by simp),iP (by omega)]
 ·rw[uV,gQ hd]
  simp only[oE,oS]
  rw[iP hk,gQ hk]
  simp only[oS]
  rw[P.Yj _ _ (hw.2 _ (gM hd) _ (gM hk))]
  simp only[oS]
  by_cases h1:ZE1 w.length w[d].ctors[k]
  ·rw[iP (ZF h1),P.YZ w hw d k hd hk hw4 hl]
   simp only[oS]
   rw[ZD fun hh=>hq fun _=>⟨((ZDz w d k hd hk).1 hh).1,⟨h1,((ZDz w d k hd hk).1 hh).2⟩⟩,iP (by simp)]
  ·rw[iN (by rw[ZD h1];simp)]
theorem P.YM (w:List Data)(hw:ZAD w):F.f24 w=some (dec (ZN w)):=by
 unfold F.f24
 by_cases h4:4<w.length
 ·rw[iP h4,ZD fun hh=>by have:=hh.1;omega]
 rw[iN h4]
 -- the loop runs only on over types that are right
 have key:∀(m d:Nat),w.length-d=m->(∀i,i<d->∀h:i<w.length,w[i].ctors.length<=4)->F.f23 w d=some (if dec (∀i,d<=i->i<w.length->∀h:i<w.length,dataAt w i w[i])=true then .go ()else .ret false):=by
  intro m
  induction m with
  |zero=>
   intro d hm hl
   rw[F.f23,iN (by omega),iP (ZF fun i h1 h2=>by omega)]
  |succ m ih=>
   intro d hm hl
   have hd:d<w.length:=by omega
   rw[F.f23,iP hd,gQ hd]
   simp only[oE,oS]
   rw[P.YAh]
   simp only[oS]
   have no:¬dataAt w d w[d]->¬∀i,d<=i->i<w.length->∀h:i<w.length,dataAt w i w[i]:=fun h hh=>h (hh d (zA _) hd hd)
   by_cases h1:ZFe w[d].name
   ·rw[iP (ZF h1)]
    by_cases h2:w[d].ctors.length=0
    ·rw[iP h2,iN (by rw[ZD (no fun h=>by have:=h.some;omega)];simp)]
    by_cases h3:4<w[d].ctors.length
    ·rw[iN h2,iP h3,iN (by rw[ZD (no fun h=>by have:=h.few;omega)];simp)]
    have hl':∀i,i<=d->∀h:i<w.length,w[i].ctors.length<=4:=fun i hi h=>by
     by_cases e:i=d
     ·subst e;omega
     ·exact hl i (by omega) h
    rw[iN h2,iN h3,P.YAD w hw d hd (by omega) hl']
    simp only[oS]
    by_cases hq:∀k,0<=k->k<w[d].ctors.length->∀h:k<w[d].ctors.length,w[d].name∉(w.take d).map (·.name)/\ctorAt w d w[d] k w[d].ctors[k]
    ·have hda:dataAt w d w[d]:=⟨h1,(hq 0 (by omega) (by omega) (by omega)).1,by omega,by omega,fun k a b c=>(hq k a b c).2⟩
     rw[iP (ZF hq)]
     simp only
     rw[iP (by omega),ih (d+1) (by omega) fun i hi h=>hl' i (by omega) h]
     by_cases hall:∀i,d+1<=i->i<w.length->∀h:i<w.length,dataAt w i w[i]
     ·rw[iP (ZF hall),iP (ZF fun i a b c=> ?_)]
      by_cases e:i=d
      ·subst e;exact hda
      ·exact hall i (by omega) b c
     ·rw[iN (by rw[ZD hall];simp),iN (by rw[ZD fun hh=>hall fun i a b c=>hh i (by omega) b c];simp)]
    ·rw[iN (by rw[ZD hq];simp)]
     simp only
     rw[iN (by rw[ZD (no fun h=>hq fun k a b c=>⟨h.new,h.ctors k a b c⟩)];simp)]
   ·rw[iN (by rw[ZD h1];simp),iN (by rw[ZD (no fun h=>h1 h.name)];simp)]
 rw[key _ 0 rfl fun i hi=>by omega]
 simp only[oE,oS]
 by_cases hall:∀i,0<=i->i<w.length->∀h:i<w.length,dataAt w i w[i]
 ·rw[iP (ZF hall),ZF ⟨by omega,hall⟩]
 ·rw[iN (by rw[ZD hall];simp),ZD fun hh=>hall hh.2]
def Ze (w:List Data)(t:Ty):Prop:=ZBt w.length t/\0<=t.index
theorem P.YA4 (w:List Data)(t:Ty):F.f195 w t=some (dec (Ze w t)):=by
 unfold F.f195
 rw[P.YW]
 simp only[oE,oS]
 by_cases h:ZBt w.length t
 ·rw[iP (ZF h),←Zv];congr 1;exact ZL ⟨fun h'=>⟨h,h'⟩,fun h'=>h'.2⟩
 ·rw[iN (by rw[ZD h];simp),ZD fun h'=>h h'.1]
theorem P.YAk (w:List Data)(t:Ty)(hw:w.length<=1048576):F.f110 w t=some (dec (Ze w t)):=by
 unfold F.f110
 by_cases h:eq2 (t.data,t.index) (-1,0)
 ·rw[iP (ZF h),ZF ⟨.inl h,by have:=h.2;simp at this;omega⟩]
 rw[iN (by rw[ZD h];simp),P.YE,ZC (by omega) (by omega)]
 simp only[oE,oS]
 by_cases h1:0<=t.data/\t.data<=(w.length:Int) -1
 ·rw[iP (ZF h1),P.YE]
  simp only[oS]
  congr 1;exact ZL ⟨fun h'=>⟨.inr ⟨h1.1,by omega,by omega,h'.2⟩,h'.1⟩,fun h'=>h'.1.elim (fun h'=>absurd h' h) (fun h2=>⟨h'.2,h2.2.2.2⟩)⟩
 ·rw[iN (by rw[ZD h1];simp),ZD fun h'=>h'.1.elim (fun h'=>h h') (fun h'=>h1 ⟨h'.1,by have:=h'.2.1;omega⟩)]
def ZAc (w:List Data)(t:Ty):Prop:=ZN w/\Ze w t
theorem P.Yt (w:List Data)(t:Ty)(hw:ZAD w):F.f196 w t=some (dec (ZAc w t)):=by
 unfold F.f196
 rw[P.YM w hw]
 simp only[oE,oS]
 by_cases h:ZN w
 ·rw[iP (ZF h),P.YA4]
  simp only[oS]
  congr 1;exact ZL ⟨fun h'=>⟨h,h'⟩,fun h'=>h'.2⟩
 ·rw[iN (by rw[ZD h];simp),ZD fun h'=>h h'.1]
theorem P.Yz (w:List Data)(t:Ty)(hw:ZAD w):F.f111 w t=some (dec (ZAc w t)):=by
 unfold F.f111
 rw[P.Yn w hw]
 simp only[oE,oS]
 by_cases h:ZN w
 ·rw[iP (ZF h),P.YAk w t hw.1]
  simp only[oS]
  congr 1;exact ZL ⟨fun h'=>⟨h,h'⟩,fun h'=>h'.2⟩
 ·rw[iN (by rw[ZD h];simp),ZD fun h'=>h h'.1]
variable {w:List Data}
theorem ZKH (h:wtL Data.wt w<=1048576):ZAD w:=by
 refine⟨by have:=ZBN Data.wt w;omega,fun d hd c hc=> ?_⟩
 have h1:=ZAB Data.wt hd
 have h2:=ZAB Ctor.wt hc
 have e1:d.wt=d.name.size+wtL Ctor.wt d.ctors:=rfl
 have e2:c.wt=c.name.size+wtL Ty.wt c.args:=rfl
 omega
def tOk (w:List Data)(t:Ty):Prop:=t.data= -1∨(0<=t.data/\t.data<w.length)
variable {t:Ty}
theorem ZBI (h:ZBt w.length t):tOk w t:=h.elim (fun h=>.inl h.1) (fun h=>.inr ⟨h.1,h.2.1⟩)
def ZMo (i:Int)(c:Ctor):Prop:=i=0∨c.index=0∨c.index=i
noncomputable def ZFu (i:Int):Nat->List Ctor->List Int
 |_,[]=>[]
 |k,c::r=>(if dec (ZMo i c)=true then[(k:Int)]else[])++ZFu i (k+1) r
theorem ZIU (i:Int):∀(k:Nat) (l:List Ctor),(ZFu i k l).length<=l.length
 |_,[]=>by simp[ZFu]
 |k,c::r=>by
  have:=ZIU i (k+1) r
  unfold ZFu
  split<;>simp<;>omega
theorem ZIT (i:Int){x:Int}:∀{k:Nat} {l:List Ctor},x∈ZFu i k l->(k:Int)<=x/\x<k+l.length
 |_,[],h=>by simp[ZFu]at h
 |k,c::r,h=>by
  unfold ZFu at h
  rcases yN.1 h with h|h
  ·split at h
   ·simp at h;subst h;simp;omega
   ·simp at h
  ·have:=ZIT i h
   simp;omega
def ZX (w:List Data)(t:Ty):Data:=w.getD t.data.toNat Data.z
noncomputable def ZP (w:List Data)(t:Ty):List Int:=if t.data= -1 then[]else ZFu t.index 0 (ZX w t).ctors
def Zc (w:List Data)(t:Ty)(c:Int):Ctor:=(ZX w t).ctors.getD c.toNat Ctor.z
def ZC7 (t:Ty)(c:Ctor)(a:Ty):Ty:=if a.index= -1 then⟨a.data,if c.index=0 then t.index else c.index⟩else a
def ZK (w:List Data)(t:Ty)(c:Int):List Ty:=(Zc w t c).args.map (ZC7 t (Zc w t c))
theorem ZC6 (h:tOk w t)(hn:t.data≠-1):at? w t.data=some (ZX w t)/\ZX w t∈w/\∃h:t.data.toNat<w.length,ZX w t=w[t.data.toNat]:=by
 obtain⟨h1,h2⟩:=h.resolve_left hn
 have hlt:t.data.toNat<w.length:=by omega
 unfold at? ZX
 rw[iP h1,gQ hlt,yX,gQ hlt]
 exact⟨rfl,gM hlt,hlt,rfl⟩
theorem Zq (hw:ZN w)(h:tOk w t)(hn:t.data≠-1):(ZX w t).ctors.length<=4/\∀c,c∈(ZX w t).ctors->ZE1 w.length c:=by
 obtain⟨_,_,hlt,e⟩:=ZC6 h hn
 have hd:=hw.2 t.data.toNat (by omega) hlt hlt
 rw[e]
 refine⟨hd.few,fun c hc=> ?_⟩
 obtain⟨k,hk,rfl⟩:=yW hc
 exact(hd.ctors k (by omega) hk hk).ok
theorem P.YAE (w:List Data)(hw:ZN w)(t:Ty)(h:tOk w t)(hn:t.data≠-1):∀(m k:Nat) (out:List Int),(ZX w t).ctors.length-k=m->out.length<=k->k<=(ZX w t).ctors.length->
  F.f41 w t out k=some (out++ZFu t.index k ((ZX w t).ctors.drop k)):=by
 have h4:=(Zq hw h hn).1
 intro m
 induction m with
 |zero=>
  intro k out hm ho hk
  rw[F.f41,(ZC6 h hn).1]
  simp only[oE,oS]
  rw[iN (by omega),yG (by omega)];simp[ZFu]
 |succ m ih=>
  intro k out hm ho hk
  have hlt:k<(ZX w t).ctors.length:=by omega
  rw[F.f41,(ZC6 h hn).1]
  simp only[oE,oS]
  rw[iP hlt,gQ hlt,yF hlt]
  simp only[oS,ZFu]
  have hf:F.f40 (ZX w t).ctors[k] t.index=some (dec (ZMo t.index (ZX w t).ctors[k])):=by
   unfold F.f40
   by_cases h1:(ZX w t).ctors[k].index=0
   ·rw[iP h1,ZF (.inr (.inl h1))]
   ·by_cases h2:t.index=0
    ·rw[iN h1,iP h2,ZF (.inl h2)]
    ·rw[iN h1,iN h2,←Zv];congr 1;exact ZL ⟨fun h=>.inr (.inr h),fun h=>h.elim (fun h=>absurd h h2) (fun h=>h.elim (fun h=>absurd h h1) id)⟩
  rw[hf]
  simp only[oS]
  by_cases hfit:ZMo t.index (ZX w t).ctors[k]
  ·rw[iP (ZF hfit),iP (by omega),iP (by omega),ih (k+1) _ (by omega) (by simp;omega) (by omega),iP (ZF hfit)];simp
  ·rw[iN (by rw[ZD hfit];simp),iP (by omega),ih (k+1) _ (by omega) (by omega) (by omega),iN (by rw[ZD hfit];simp)];simp
theorem P.YG (w:List Data)(hw:ZN w)(t:Ty)(h:tOk w t):F.f42 w t=some (ZP w t):=by
 unfold F.f42 ZP
 by_cases hn:t.data= -1
 ·rw[iP hn,iP hn]
 ·rw[iN hn,iN hn,P.YAE w hw t h hn _ 0 [] rfl (by simp) (by omega)];simp
theorem P.YAI (w:List Data)(hw:ZN w)(t:Ty)(h:tOk w t)(hn:t.data≠-1):∀(m k:Nat) (out:List Int),(ZX w t).ctors.length-k=m->out.length<=k->k<=(ZX w t).ctors.length->
  kF t (ZX w t) k out=some (out++ZFu t.index k ((ZX w t).ctors.drop k)):=by
 have h4:=(Zq hw h hn).1
 intro m
 induction m with
 |zero=>
  intro k out hm ho hk
  rw[kF,iN (by omega),yG (by omega)];simp[ZFu]
 |succ m ih=>
  intro k out hm ho hk
  have hlt:k<(ZX w t).ctors.length:=by omega
  rw[kF,iP hlt,gQ hlt,yF hlt]
  simp only[oE,oS,ZFu]
  have yes:ZMo t.index (ZX w t).ctors[k]->(if out.length+1<=67108864 then kF t (ZX w t) (k+1) (out++[(k:Int)])else none)=
    some (out++((if dec (ZMo t.index (ZX w t).ctors[k])=true then[(k:Int)]else[])++ZFu t.index (k+1) ((ZX w t).ctors.drop (k+1)))):=by
   intro hfit
   rw[iP (by omega),ih (k+1) _ (by omega) (by simp;omega) (by omega),iP (ZF hfit)];simp
  by_cases h1:t.index=0
  ·rw[iP h1];exact yes (.inl h1)
  by_cases h2:(ZX w t).ctors[k].index=0
  ·rw[iN h1,iP h2];exact yes (.inr (.inl h2))
  by_cases h3:(ZX w t).ctors[k].index=t.index
  ·rw[iN h1,iN h2,iP h3];exact yes (.inr (.inr h3))
  ·have hfit:¬ZMo t.index (ZX w t).ctors[k]:=fun h=>h.elim h1 (fun h=>h.elim h2 h3)
   rw[iN h1,iN h2,iN h3,ih (k+1) _ (by omega) (by omega) (by omega),iN (by rw[ZD hfit];simp)];simp
theorem P.Yc (w:List Data)(hw:ZN w)(t:Ty)(h:tOk w t):kX w t=some (ZP w t):=by
 unfold kX ZP
 by_cases hn:t.data= -1
 ·rw[iP hn,iP hn]
 ·rw[iN hn,iN hn,(ZC6 h hn).1]
  simp only[oE,oS]
  rw[P.YAI w hw t h hn _ 0 [] rfl (by simp) (by omega)];simp
variable {c:Int}
theorem ZU (h:c∈ZP w t):t.data≠-1/\0<=c/\c<(ZX w t).ctors.length:=by
 unfold ZP at h
 split at h
 ·cases h
 ·next hn=>
  have:=ZIT t.index h
  exact⟨hn,by omega,by omega⟩
theorem ZBY (h:c∈ZP w t):at? (ZX w t).ctors c=some (Zc w t c)/\Zc w t c∈(ZX w t).ctors:=by
 obtain⟨_,h1,h2⟩:=ZU h
 have hlt:c.toNat<(ZX w t).ctors.length:=by omega
 unfold at? Zc
 rw[iP h1,gQ hlt,yX,gQ hlt]
 exact⟨rfl,gM hlt⟩
theorem ZFn (hw:ZN w)(ht:tOk w t)(h:c∈ZP w t):(ZK w t c).length<=3/\∀a,a∈ZK w t c->tOk w a:=by
 have hc:=(Zq hw ht (ZU h).1).2 _ (ZBY h).2
 refine⟨by unfold ZK;rw[yT];exact hc.2.1,fun a ha=> ?_⟩
 obtain⟨b,hb,rfl⟩:=yR.1 ha
 obtain⟨j,hj,rfl⟩:=yW hb
 have:=ZBI (hc.2.2.2.2 j (by omega) hj)
 unfold ZC7
 split
 ·exact this
 ·exact this
theorem P.YD (w:List Data)(hw:ZN w)(t:Ty)(ht:tOk w t)(c:Int)(h:c∈ZP w t):F.f45 w t c=some (ZK w t c):=by
 have hc:=(Zq hw ht (ZU h).1).2 _ (ZBY h).2
 unfold F.f45
 rw[(ZC6 ht (ZU h).1).1]
 simp only[oE,oS]
 rw[(ZBY h).1]
 simp only[oS]
 rw[ZFo (L:=F.f44 t (Zc w t c)) (a:=(Zc w t c).args) (g:=ZC7 t (Zc w t c)) (f:=fun a=>some (ZC7 t (Zc w t c) a)) (fun out i=> ?_) (fun _ _=>rfl) _ 0 [] rfl (by have:=hc.2.1;simp;omega)]
 ·simp[ZK]
 ·rw[F.f44]
  split
  ·cases(Zc w t c).args[i]? with
   |none=>rfl
   |some a=>
    simp only[oE,oS,F.f43,ZC7]
    split
    ·split<;>simp
    ·simp
  ·rfl
theorem P.YV (w:List Data)(hw:ZN w)(t:Ty)(ht:tOk w t)(c:Int)(h:c∈ZP w t):kS w t c=some (ZK w t c):=by
 have hc:=(Zq hw ht (ZU h).1).2 _ (ZBY h).2
 unfold kS
 rw[(ZC6 ht (ZU h).1).1]
 simp only[oE,oS]
 rw[(ZBY h).1]
 simp only[oS]
 by_cases h0:(Zc w t c).index=0
 ·rw[iP h0,ZFo (L:=fun out i=>kU t (Zc w t c) i out) (a:=(Zc w t c).args) (g:=ZC7 t (Zc w t c)) (f:=fun a=>some (ZC7 t (Zc w t c) a)) (fun out i=> ?_) (fun _ _=>rfl) _ 0 [] rfl (by have:=hc.2.1;simp;omega)]
  ·simp[ZK]
  ·show kU t (Zc w t c) i out=_
   rw[kU]
   split
   ·cases(Zc w t c).args[i]? with
    |none=>rfl
    |some a=>
     simp only[oE,oS,ZC7]
     split
     ·first|rfl|rw[iP h0]
     ·rfl
   ·rfl
 ·rw[iN h0,ZFo (L:=fun out i=>kT (Zc w t c) i out) (a:=(Zc w t c).args) (g:=ZC7 t (Zc w t c)) (f:=fun a=>some (ZC7 t (Zc w t c) a)) (fun out i=> ?_) (fun _ _=>rfl) _ 0 [] rfl (by have:=hc.2.1;simp;omega)]
  ·simp[ZK]
  ·show kT (Zc w t c) i out=_
   rw[kT]
   split
   ·cases(Zc w t c).args[i]? with
    |none=>rfl
    |some a=>
     simp only[oE,oS,ZC7]
     split
     ·first|rfl|rw[iN h0]
     ·rfl
   ·rfl
theorem P.Yr (l:List Int)(n:Int):F.f65 l n=some (dec (n∈l)):=by
 unfold F.f65
 rw[ZIw (n:=l.length) (r:=true) (Q:=fun j=>∀h:j<l.length,l[j]≠n) (L:=kM l n) (fun k hk=>by rw[kM,iN (by omega)])
  (fun k hk hq=>by
   rw[kM,iP hk,gQ hk]
   simp only[oE,oS]
   rw[iN (hq hk)])
  (fun k hk hq=>by
   rw[kM,iP hk,gQ hk]
   simp only[oE,oS]
   rw[iP (vU fun h=>hq fun _=>h)]) _ 0 rfl]
 simp only[oE,oS]
 by_cases hm:n∈l
 ·obtain⟨j,hj,e⟩:=yW hm
  rw[iN (by rw[ZD fun hh=>hh j (by omega) hj hj e];simp),ZF hm]
 ·rw[iP (ZF fun j _ hj h e=>hm (by rw[←e];exact gM h)),ZD hm]
theorem P.YF (l:List Int)(n:Int):kV l n=some (dec (n∈l)):=by
 unfold kV F.f117
 have key:∀(m k:Nat),l.length-k=m->∃r,kW l n k=some r/\match r with| .ret j=>0<=j/\n∈l| .go _=>∀j,k<=j->∀h:j<l.length,l[j]≠n:=by
  intro m
  induction m with
  |zero=>intro k hm;rw[kW,iN (by omega)];exact⟨_,rfl,fun j h1 h2=>by omega⟩
  |succ m ih=>
   intro k hm
   have hk:k<l.length:=by omega
   rw[kW,iP hk,gQ hk]
   simp only[oE,oS]
   by_cases h:n=l[k]
   ·rw[iP h];exact⟨_,rfl,by omega,h▸gM hk⟩
   ·rw[iN h]
    obtain⟨r,hr,hx⟩:=ih (k+1) (by omega)
    refine⟨r,hr,?_⟩
    cases r with
    |ret j=>exact hx
    |go _=>
     intro j hj hl
     by_cases e:k=j
     ·subst e;exact fun e=>h e.symm
     ·exact hx j (by omega) hl
 obtain⟨r,hr,hx⟩:=key _ 0 rfl
 rw[hr]
 cases r with
 |ret j=>
  simp only[oE,oS]
  rw[ZF hx.2];simp[hx.1]
 |go _=>
  simp only[oE,oS]
  rw[ZD fun hm=>by obtain⟨j,hj,e⟩:=yW hm;exact hx j (by omega) hj e];simp
def pv (w:List Data)(holes:Bool):Nat->Ty->Value->Prop
 |0,_,_=>False
 |d+1,t,v=>(holes=true/\v.ctor= -2/\v.n=0/\v.kids.length=0)∨(¬(holes=true/\v.ctor= -2)/\
   ((t.data= -1/\v.ctor= -1/\0<=v.n/\v.n<=9/\v.kids.length=0)∨
   (t.data≠-1/\v.n=0/\v.ctor∈ZP w t/\v.kids.length=(ZK w t v.ctor).length/\
    ∀i,0<=i->i<(ZK w t v.ctor).length->∀(h:i<(ZK w t v.ctor).length) (h':i<v.kids.length),pv w holes d (ZK w t v.ctor)[i] v.kids[i])))
theorem P.YP (w:List Data)(hw:ZN w):∀(d:Nat) (t:Ty) (v:Value),tOk w t->d<=10->kP w t v d=some (dec (pv w false d t v))
 |0,t,v,ht,hd=>by
  rw[kP,iP (by omega),ZD (by simp[pv])]
 |d+1,t,v,ht,hd=>by
  rw[kP,iN (by omega)]
  by_cases h1:t.data= -1
  ·rw[iP h1]
   by_cases a1:v.ctor= -1
   ·by_cases a2:0<=v.n
    ·by_cases a3:v.n<=9
     ·rw[iP a1,iP a2,iP a3,←Zv];congr 1
      exact ZL ⟨fun h=>.inr ⟨by simp,.inl ⟨h1,a1,a2,a3,h⟩⟩,fun h=>h.elim (fun h=>by simp at h) (fun h=>h.2.elim (fun h=>h.2.2.2.2) (fun h=>absurd h1 h.1))⟩
     ·rw[iP a1,iP a2,iN a3,ZD fun h=>h.elim (fun h=>by simp at h) (fun h=>h.2.elim (fun h=>a3 h.2.2.2.1) (fun h=>h.1 h1))]
    ·rw[iP a1,iN a2,ZD fun h=>h.elim (fun h=>by simp at h) (fun h=>h.2.elim (fun h=>a2 h.2.2.1) (fun h=>h.1 h1))]
   ·rw[iN a1,ZD fun h=>h.elim (fun h=>by simp at h) (fun h=>h.2.elim (fun h=>a1 h.2.1) (fun h=>h.1 h1))]
  rw[iN h1]
  by_cases h2:v.n=0
  ·rw[iP h2,P.YG w hw t ht]
   simp only[oE,oS]
   rw[P.Yr]
   simp only[oS]
   by_cases h3:v.ctor∈ZP w t
   ·rw[iP (ZF h3),P.YD w hw t ht _ h3]
    simp only[oS]
    by_cases h4:v.kids.length=(ZK w t v.ctor).length
    ·rw[iP h4,ZIw (n:=(ZK w t v.ctor).length) (r:=false) (Q:=fun i=>∀(h:i<(ZK w t v.ctor).length) (h':i<v.kids.length),pv w false d (ZK w t v.ctor)[i] v.kids[i]) (L:=uU w v ((d+1:Nat):Int) (ZK w t v.ctor))
      (fun k hk=>by rw[uU,iN (by omega)])
      (fun k hk hq=>by
       have hk':k<v.kids.length:=by rw[h4];exact hk
       rw[uU,iP hk,gQ hk,gQ hk']
       simp only[oE,oS]
       rw[ZC (by omega) (by omega),show((d+1:Nat):Int) -1=(d:Int)from by omega,P.YP w hw d _ _ ((ZFn hw ht h3).2 _ (gM hk)) (by omega)]
       simp only[oS]
       rw[iP (ZF (hq hk hk'))])
      (fun k hk hq=>by
       have hk':k<v.kids.length:=by rw[h4];exact hk
       rw[uU,iP hk,gQ hk,gQ hk']
       simp only[oE,oS]
       rw[ZC (by omega) (by omega),show((d+1:Nat):Int) -1=(d:Int)from by omega,P.YP w hw d _ _ ((ZFn hw ht h3).2 _ (gM hk)) (by omega)]
       simp only[oS]
       rw[iN (by rw[ZD fun h=>hq fun _ _=>h];simp)]) _ 0 rfl]
     simp only[oS]
     by_cases hall:∀i,0<=i->i<(ZK w t v.ctor).length->∀(h:i<(ZK w t v.ctor).length) (h':i<v.kids.length),pv w false d (ZK w t v.ctor)[i] v.kids[i]
     ·rw[iP (ZF hall),ZF (.inr ⟨by simp,.inr ⟨h1,h2,h3,h4,hall⟩⟩)]
     ·rw[iN (by rw[ZD hall];simp),ZD fun h=>h.elim (fun h=>by simp at h) (fun h=>h.2.elim (fun h=>h1 h.1) (fun h=>hall h.2.2.2.2))]
    ·rw[iN h4,ZD fun h=>h.elim (fun h=>by simp at h) (fun h=>h.2.elim (fun h=>h1 h.1) (fun h=>h4 h.2.2.2.1))]
   ·rw[iN (by rw[ZD h3];simp),ZD fun h=>h.elim (fun h=>by simp at h) (fun h=>h.2.elim (fun h=>h1 h.1) (fun h=>h3 h.2.2.1))]
  ·rw[iN h2,ZD fun h=>h.elim (fun h=>by simp at h) (fun h=>h.2.elim (fun h=>h1 h.1) (fun h=>h2 h.2.1))]
theorem P.YAm (v:Value)(hv:v.wt<=4000000):∀(most:Nat),most<=60->∃c:Nat,F.f227 v most=some (c:Int)/\1<=c/\c<=1+v.wt/\(1+v.wt<=most->c=1+v.wt)/\(most<1+v.wt->most<c):=by
 induction v using Value.ind with
 |_ v ih=>
  intro most hm
  have hw:=v.wt_eq
  have key:∀(m i:Nat) (n:Nat),v.kids.length-i=m->1<=n->n+((v.kids.drop i).map fun k=>1+k.wt).sum<=1+v.wt->
    ∃c:Nat,uT v most n i=some (c:Int)/\n<=c/\c<=n+((v.kids.drop i).map fun k=>1+k.wt).sum/\(n+((v.kids.drop i).map fun k=>1+k.wt).sum<=most->c=n+((v.kids.drop i).map fun k=>1+k.wt).sum)/\(most<n+((v.kids.drop i).map fun k=>1+k.wt).sum->most<c):=by
   intro m
   induction m with
   |zero=>
    intro i n hmi hn hb
    rw[uT,iN (by omega),yG (by omega)]
    exact⟨n,rfl,by omega,by simp,by simp,by simp⟩
   |succ m ih2=>
    intro i n hmi hn hb
    have hi:i<v.kids.length:=by omega
    rw[yF hi]at hb ⊢
    simp only[yJ,xL]at hb ⊢
    rw[uT,iP hi]
    by_cases hle:n<=most
    ·rw[iP (by omega),gQ hi]
     simp only[oE,oS]
     have hk:v.kids[i].wt<=4000000:=by omega
     obtain⟨c,h1,h2,h3,h4,h5⟩:=ih v.kids[i] (gM hi) hk (most-n) (by omega)
     rw[ZC (by omega) (by omega),show((most:Int) - (n:Int))=((most-n:Nat):Int)from by omega,h1]
     simp only[oS]
     rw[ZC (by omega) (by omega),show((n:Int)+(c:Int))=((n+c:Nat):Int)from by omega]
     obtain⟨c',g1,g2,g3,g4,g5⟩:=ih2 (i+1) (n+c) (by omega) (by omega) (by omega)
     refine⟨c',g1,by omega,by omega,fun h=> ?_,fun h=> ?_⟩
     ·have:=h4 (by omega)
      have:=g4 (by omega)
      omega
     ·by_cases hx:1+v.kids[i].wt<=most-n
      ·have:=h4 hx
       exact g5 (by omega)
      ·have:=h5 (by omega)
       omega
    ·rw[iN (by omega)]
     exact⟨n,rfl,by omega,by omega,fun h=>by omega,fun h=>by omega⟩
  have hs:((v.kids.drop 0).map fun k=>1+k.wt).sum=v.wt:=by
   rw[yI,hw]
   have:∀l:List Value,(l.map fun k=>1+k.wt).sum=wtL Value.wt l:=by
    intro l
    induction l with
    |nil=>rfl
    |cons a r ih=>simp[ih]
   exact this _
  obtain⟨c,h1,h2,h3,h4,h5⟩:=key _ 0 1 rfl (by omega) (by omega)
  rw[hs]at h3 h4 h5
  unfold F.f227
  have h1':uT v most 1 0=some (c:Int):=h1
  rw[h1']
  exact⟨c,rfl,by omega,h3,h4,h5⟩
theorem ZJ8 (v:Value):v.wt=((v.kids.drop 0).map fun k=>1+k.wt).sum:=by
 rw[yI,v.wt_eq]
 have:∀l:List Value,(l.map fun k=>1+k.wt).sum=wtL Value.wt l:=by
  intro l
  induction l with
  |nil=>rfl
  |cons a r ih=>simp[ih]
 exact(this _).symm
def ZCl (w:List Data)(holes:Bool)(d:Nat)(t:Ty)(v:Value)(count:Nat)(b:Bool)(c:Nat):Prop:=
 (b=true↔pv w holes d t v/\count+(1+v.wt)<=60)/\(b=true->c=count+(1+v.wt))
theorem P.YA5 (w:List Data)(hw:ZN w)(holes:Bool)(d:Nat)(hd:d+1<=10)(v:Value)(args:List Ty)(hl:args.length=v.kids.length)(hargs:∀a,a∈args->tOk w a)
  (L:Int->Nat->Option (Lo (Bool×Int) Int))
  (hL:∀z i,L z i=if i<v.kids.length then v.kids[i]? >>=fun x=>args[i]? >>=fun y=>uM w y x (i64.wrap (((11- (d+1):Nat):Int)+1)) holes z>>=fun r=>if r.1=true then L r.2 (i+1)else some (.ret (false,r.2))else some (.go z))
  (ih:∀(t:Ty) (x:Value) (count:Nat),tOk w t->count<=60->∃b c,uM w t x ((11-d:Nat):Int) holes (count:Int)=some (b,((c:Nat):Int))/\ZCl w holes d t x count b c):
  ∀(m i:Nat) (z:Nat),v.kids.length-i=m->z<=60->∃o,L z i=some o/\
   match o with
   | .ret (b,c)=>b=false/\∃c':Nat,c=(c':Int)/\¬((∀j,i<=j->j<args.length->∀(h:j<args.length) (h':j<v.kids.length),pv w holes d args[j] v.kids[j])/\z+((v.kids.drop i).map fun k=>1+k.wt).sum<=60)
   | .go c=>c=((z+((v.kids.drop i).map fun k=>1+k.wt).sum:Nat):Int)/\(∀j,i<=j->j<args.length->∀(h:j<args.length) (h':j<v.kids.length),pv w holes d args[j] v.kids[j])/\z+((v.kids.drop i).map fun k=>1+k.wt).sum<=60:=by
 intro m
 induction m with
 |zero=>
  intro i z hm hz
  rw[hL,iN (by omega)]
  refine⟨_,rfl,?_⟩
  rw[yG (by omega)]
  exact⟨by simp,fun j h1 h2=>by omega,by simpa using hz⟩
 |succ m ihm=>
  intro i z hm hz
  have hi:i<v.kids.length:=by omega
  have hi':i<args.length:=by omega
  rw[hL,iP hi,gQ hi,gQ hi',yF hi]
  simp only[oE,oS,yJ,xL]
  rw[ZC (by omega) (by omega),show(((11- (d+1):Nat):Int)+1)=((11-d:Nat):Int)from by omega]
  obtain⟨b,c,h1,h2,h3⟩:=ih args[i] v.kids[i] z (hargs _ (gM hi')) hz
  rw[h1]
  simp only[oS]
  cases b with
  |true=>
   rw[iP rfl]
   have hc:=h3 rfl
   obtain⟨hp,hle⟩:=h2.1 rfl
   obtain⟨o,g1,g2⟩:=ihm (i+1) c (by omega) (by omega)
   refine⟨o,g1,?_⟩
   cases o with
   |ret r=>
    obtain⟨b',c'⟩:=r
    obtain⟨q1,c2,q2,q3⟩:=g2
    exact⟨q1,c2,q2,fun hh=>q3 ⟨fun j a b e f=>hh.1 j (by omega) b e f,by omega⟩⟩
   |go r=>
    obtain⟨q1,q2,q3⟩:=g2
    refine⟨by rw[q1];congr 1;omega,fun j a b e f=> ?_,by omega⟩
    by_cases hj:i=j
    ·subst hj;exact hp
    ·exact q2 j (by omega) b e f
  |false=>
   rw[iN (by simp)]
   refine⟨_,rfl,rfl,c,rfl,fun hh=> ?_⟩
   have:=h2.2 ⟨hh.1 i (zA _) hi' hi' hi,by omega⟩
   cases this
theorem P.YAL (w:List Data)(hw:ZN w)(holes:Bool):∀(d:Nat) (t:Ty) (v:Value) (count:Nat),d<=10->tOk w t->count<=60->
  ∃b c,uM w t v ((11-d:Nat):Int) holes (count:Int)=some (b,((c:Nat):Int))/\ZCl w holes d t v count b c
 |d,t,v,count,hd,ht,hc=>by
  have e1:i64.wrap ((count:Int)+1)=((count+1:Nat):Int):=by rw[ZC (by omega) (by omega)];omega
  have no:∀(h:¬(pv w holes d t v/\count+(1+v.wt)<=60)),∃b c,(some (false,((count+1:Nat):Int)):Option (Bool×Int))=some (b,((c:Nat):Int))/\ZCl w holes d t v count b c:=
   fun h=>⟨false,count+1,rfl,⟨fun h=>(by cases h),fun hh=>absurd hh h⟩,fun h=>by cases h⟩
  rw[uM,e1]
  by_cases h60:60<((count+1:Nat):Int)
  ·rw[iP h60];exact no fun h=>by omega
  rw[iN h60]
  match d,hd with
  |0,_=>
   rw[iP (by omega)]
   exact no fun h=>h.1.elim
  |d+1,hd=>
   rw[iN (by omega)]
   -- a value without kids
   have leaf:v.kids.length=0->v.wt=0:=by
    intro h
    rw[v.wt_eq,List.length_eq_zero_iff.1 h];rfl
   have yes:∀(p:Prop) [Decidable p],(p->pv w holes (d+1) t v/\v.wt=0)->(pv w holes (d+1) t v->p)->
     ∃b c,(some (decide p,((count+1:Nat):Int)):Option (Bool×Int))=some (b,((c:Nat):Int))/\ZCl w holes (d+1) t v count b c:=by
    intro p _ h1 h2
    refine⟨decide p,count+1,rfl,⟨fun h=> ?_,fun h=>by simpa using h2 h.1⟩,fun h=> ?_⟩
    ·have:=h1 (by simpa using h);exact⟨this.1,by omega⟩
    ·have:=h1 (by simpa using h);omega
   have ints:t.data= -1->¬(holes=true/\v.ctor= -2)->
     ∃b c,(if v.ctor= -1 then(F.f98 v.n 0 9)>>=fun r=>if r=true then some (decide (v.kids.length=0),((count+1:Nat):Int))else some (false,((count+1:Nat):Int))else some (false,((count+1:Nat):Int)))=some (b,((c:Nat):Int))/\ZCl w holes (d+1) t v count b c:=by
    intro h1 hno
    by_cases a1:v.ctor= -1
    ·rw[iP a1,P.YE]
     simp only[oE,oS]
     by_cases a2:0<=v.n/\v.n<=9
     ·rw[iP (ZF a2)]
      exact yes _ (fun h=>⟨.inr ⟨hno,.inl ⟨h1,a1,a2.1,a2.2,h⟩⟩,leaf h⟩) (fun h=>h.elim (fun h=>h.2.2.2) (fun h=>h.2.elim (fun h=>h.2.2.2.2) (fun h=>absurd h1 h.1)))
     ·rw[iN (by rw[ZD a2];simp)]
      exact no fun h=>h.1.elim (fun h=>hno ⟨h.1,h.2.1⟩) (fun h=>h.2.elim (fun h=>a2 ⟨h.2.2.1,h.2.2.2.1⟩) (fun h=>h.1 h1))
    ·rw[iN a1]
     exact no fun h=>h.1.elim (fun h=>hno ⟨h.1,h.2.1⟩) (fun h=>h.2.elim (fun h=>a1 h.2.1) (fun h=>h.1 h1))
   -- a value with a constructor
   have ctors:∀(L:List Ty->Int->Nat->Option (Lo (Bool×Int) Int)),(∀a z i,L a z i=if i<v.kids.length then v.kids[i]? >>=fun x=>a[i]? >>=fun y=>uM w y x (i64.wrap (((11- (d+1):Nat):Int)+1)) holes z>>=fun r=>if r.1=true then L a r.2 (i+1)else some (.ret (false,r.2))else some (.go z))->
     ¬(holes=true/\v.ctor= -2)->t.data≠-1->
     ∃b c,(if v.n=0 then(kX w t)>>=fun x=>(kV x v.ctor)>>=fun y=>if y=true then(kS w t v.ctor)>>=fun a=>if a.length=v.kids.length then(L a ((count+1:Nat):Int) 0)>>=fun o=>match o with| .ret r=>some r| .go s=>some (true,s)else some (false,((count+1:Nat):Int))else some (false,((count+1:Nat):Int))else some (false,((count+1:Nat):Int)))=some (b,((c:Nat):Int))/\ZCl w holes (d+1) t v count b c:=by
    intro L hL hno h1
    by_cases h2:v.n=0
    ·rw[iP h2,P.Yc w hw t ht]
     simp only[oE,oS]
     rw[P.YF]
     simp only[oS]
     by_cases h3:v.ctor∈ZP w t
     ·rw[iP (ZF h3),P.YV w hw t ht _ h3]
      simp only[oS]
      by_cases h4:(ZK w t v.ctor).length=v.kids.length
      ·rw[iP h4]
       obtain⟨o,g1,g2⟩:=P.YA5 w hw holes d hd v (ZK w t v.ctor) h4 (ZFn hw ht h3).2 (L (ZK w t v.ctor)) (hL _) (fun t x c ht hc=>P.YAL w hw holes d t x c (by omega) ht hc) _ 0 (count+1) rfl (by omega)
       rw[g1]
       simp only[oS]
       have hwt:=ZJ8 v
       cases o with
       |ret r=>
        obtain⟨b,c⟩:=r
        obtain⟨rfl,c',rfl,q3⟩:=g2
        refine⟨false,c',rfl,⟨fun h=>(by cases h),fun hh=>absurd ⟨?_,?_⟩ q3⟩,fun h=>by cases h⟩
        ·exact hh.1.elim (fun h=>absurd ⟨h.1,h.2.1⟩ hno) (fun h=>h.2.elim (fun h=>absurd h.1 h1) (fun h=>h.2.2.2.2))
        ·have:=hh.2;omega
       |go c=>
        obtain⟨rfl,q2,q3⟩:=g2
        exact⟨true,_,rfl,⟨fun _=>⟨.inr ⟨hno,.inr ⟨h1,h2,h3,h4.symm,q2⟩⟩,by omega⟩,fun _=>rfl⟩,fun _=>by omega⟩
      ·rw[iN h4]
       exact no fun h=>h.1.elim (fun h=>hno ⟨h.1,h.2.1⟩) (fun h=>h.2.elim (fun h=>h1 h.1) (fun h=>h4 h.2.2.2.1.symm))
     ·rw[iN (by rw[ZD h3];simp)]
      exact no fun h=>h.1.elim (fun h=>hno ⟨h.1,h.2.1⟩) (fun h=>h.2.elim (fun h=>h1 h.1) (fun h=>h3 h.2.2.1))
    ·rw[iN h2]
     exact no fun h=>h.1.elim (fun h=>hno ⟨h.1,h.2.1⟩) (fun h=>h.2.elim (fun h=>h1 h.1) (fun h=>h2 h.2.1))
   by_cases hh:holes=true
   ·rw[iP hh]
    by_cases h0:v.ctor= -2
    ·rw[iP h0]
     by_cases hn:v.n=0
     ·rw[iP hn]
      exact yes _ (fun h=>⟨.inl ⟨hh,h0,hn,h⟩,leaf h⟩) (fun h=>h.elim (fun h=>h.2.2.2) (fun h=>absurd ⟨hh,h0⟩ h.1))
     ·rw[iN hn]
      exact no fun h=>h.1.elim (fun h=>hn h.2.2.1) (fun h=>h.1 ⟨hh,h0⟩)
    rw[iN h0]
    have hno:¬(holes=true/\v.ctor= -2):=fun h=>h0 h.2
    by_cases h1:t.data= -1
    ·rw[iP h1];exact ints h1 hno
    ·rw[iN h1]
     exact ctors (fun a=>kR w v ((11- (d+1):Nat):Int) holes a) (fun a z i=>by
      show kR w v ((11- (d+1):Nat):Int) holes a z i=_
      rw[kR]) hno h1
   ·rw[iN hh]
    have hno:¬(holes=true/\v.ctor= -2):=fun h=>hh h.1
    by_cases h1:t.data= -1
    ·rw[iP h1];exact ints h1 hno
    ·rw[iN h1]
     exact ctors (fun a=>kQ w v ((11- (d+1):Nat):Int) holes a) (fun a z i=>by
      show kQ w v ((11- (d+1):Nat):Int) holes a z i=_
      rw[kQ]) hno h1
termination_by d=>d
def rok (K:Nat)(r:ZB):Prop:=r.f0.length<=2000/\(∀x,x∈r.f0->0<=x/\x<=255)/\0<=r.f1/\r.f1<=(K:Int)
variable {K:Nat}{r:ZB}
theorem rok.mono {L:Nat}(h:rok K r)(hl:K<=L):rok L r:=⟨h.1,h.2.1,h.2.2.1,by have:=h.2.2.2;omega⟩
theorem ZNq {a b:Int}(ha:0<=a)(hb:0<=b)(ha':a<4611686018427387904)(hb':b<4611686018427387904):0<=ZNr .i64 a b:=by
 unfold ZNr
 obtain⟨m,rfl⟩:=vW ha
 obtain⟨n,rfl⟩:=vW hb
 have hm:m<2^62:=by omega
 have hn:n<2^62:=by omega
 have h:(BitVec.ofInt IntKind.i64.bits (m:Int)^^^BitVec.ofInt IntKind.i64.bits (n:Int)).toNat<2^62:=by
  rw[BitVec.toNat_xor]
  refine zV ?_ ?_
  ·show(BitVec.ofInt 64 (m:Int)).toNat<2^62
   rw[BitVec.toNat_ofInt];omega
  ·show(BitVec.ofInt 64 (n:Int)).toNat<2^62
   rw[BitVec.toNat_ofInt];omega
 rw[ZC (by omega) (by omega)]
 exact Int.natCast_nonneg _
theorem ZE5 {xs:List α}{i:Int}(h0:0<=i)(h1:i<xs.length):∃x,at? xs i=some x/\x∈xs:=by
 have hi:i.toNat<xs.length:=by omega
 refine⟨xs[i.toNat],?_,gM hi⟩
 unfold at?
 rw[iP h0,gQ hi]
theorem P.YO (h:rok K r)(hK:K<=1099511627776)(n:Int):∃v r',kZ r n=some (v,r')/\rok (K+1) r'/\0<=v/\(1<=n->v<n)/\(n<1->v=0):=by
 obtain⟨h1,h2,h3,h4⟩:=h
 unfold kZ
 have e1:i64.wrap (r.f1+1)=r.f1+1:=ZC (by omega) (by omega)
 have e2:i64.wrap (r.f1+1-1)=r.f1:=by rw[ZC (by omega) (by omega)];omega
 have hr':rok (K+1) ⟨r.f0,r.f1+1⟩:=⟨h1,h2,by show 0<=r.f1+1;omega,by show r.f1+1<=((K+1:Nat):Int);omega⟩
 rw[e1,e2]
 by_cases hn:n<1
 ·rw[iP hn];exact⟨0,_,rfl,hr',by omega,by omega,fun _=>rfl⟩
 rw[iN hn]
 by_cases hl:r.f0.length=0
 ·rw[iP hl];exact⟨0,_,rfl,hr',by omega,by omega,fun _=>rfl⟩
 rw[iN hl]
 have tm:∀x:Int,0<=x->0<=x.tmod n/\x.tmod n<n:=fun x hx=>⟨uA n hx,vY x (by omega)⟩
 have tl:∀x:Int,0<=x->0<=x.tmod (r.f0.length:Int)/\x.tmod (r.f0.length:Int)<r.f0.length:=fun x hx=>⟨uA _ hx,vY x (by omega)⟩
 by_cases hk:r.f1<(r.f0.length:Int)
 ·rw[iP hk]
  obtain⟨x,hx,hm⟩:=ZE5 h3 hk
  have hb:=h2 x hm
  rw[hx]
  simp only[oE,oS]
  rw[iP (by omega),ZC (by omega) (by omega)]
  have:=tm x hb.1
  exact⟨_,_,rfl,hr',this.1,fun _=>this.2,fun h=>by omega⟩
 ·rw[iN hk,iP (by omega)]
  have e7:i64.wrap (r.f1*7)=r.f1*7:=ZC (by omega) (by omega)
  have e73:i64.wrap (r.f1*7+3)=r.f1*7+3:=ZC (by omega) (by omega)
  rw[e7,e73]
  have t1:=tl r.f1 h3
  have t2:=tl (r.f1*7+3) (by omega)
  obtain⟨x,hx,hm⟩:=ZE5 t1.1 t1.2
  obtain⟨y,hy,hm'⟩:=ZE5 t2.1 t2.2
  have hb:=h2 x hm
  have hb':=h2 y hm'
  have hq0:0<=r.f1.tdiv (r.f0.length:Int):=uB h3 (by omega)
  have hq1:r.f1.tdiv (r.f0.length:Int)<=r.f1:=vZ _ h3
  rw[hx,hy]
  simp only[oE,oS]
  rw[iP (by omega)]
  generalize r.f1.tdiv (r.f0.length:Int)=q at hq0 hq1 ⊢
  rw[ZC (n:=x) (by omega) (by omega),ZC (n:=y) (by omega) (by omega),ZC (n:=q) (by omega) (by omega),ZC (n:=x*131) (by omega) (by omega),ZC (n:=y*1117) (by omega) (by omega),
   ZC (n:=r.f1*29) (by omega) (by omega),ZC (n:=q*53) (by omega) (by omega),ZC (n:=x*131+y*1117) (by omega) (by omega),ZC (n:=x*131+y*1117+r.f1*29) (by omega) (by omega),
   ZC (n:=x*131+y*1117+r.f1*29+q*53) (by omega) (by omega)]
  have hz0:0<=x*131+y*1117+r.f1*29+q*53:=by omega
  have hz1:x*131+y*1117+r.f1*29+q*53<4611686018427387904:=by omega
  generalize x*131+y*1117+r.f1*29+q*53=z at hz0 hz1 ⊢
  have hd0:0<=z.tdiv 64:=uB hz0 (by omega)
  have hd1:z.tdiv 64<=z:=vZ _ hz0
  rw[ZC (n:=z.tdiv 64) (by omega) (by omega)]
  have:=tm _ (ZNq hz0 hd0 hz1 (by omega))
  exact⟨_,_,rfl,hr',this.1,fun _=>this.2,fun h=>by omega⟩
theorem P.num (h:rok K r)(hK:K<=1099511627776)(l:List Int)(hl:l≠[]):∃v r',kO r l=some (v,r')/\rok (K+1) r'/\v∈l:=by
 unfold kO
 obtain⟨v,r',e,h1,h2,h3,_⟩:=P.YO h hK (l.length:Int)
 have:0<l.length:=vJ.2 hl
 obtain⟨x,hx,hm⟩:=ZE5 h2 (h3 (by omega))
 rw[e]
 simp only[oE,oS]
 rw[hx]
 exact⟨x,r',rfl,h1,hm⟩
def W0 :List Data:=[⟨⟨#[76]⟩,[⟨⟨#[78,105,108]⟩,[],0⟩,⟨⟨#[67,111,110,115]⟩,[⟨-1,0⟩,⟨0,0⟩],0⟩]⟩]
theorem ZNS :uL ⟨#[76,61,78,105,108,124,67,111,110,115,40,73,44,76,41]⟩=some (W0,true):=E.f38_le 100 _ _ (by kernel_rfl)
theorem ZNR :uI W0=some [1,1,1,1]:=E.f53_le 100 _ _ (by kernel_rfl)
def W1 :List Data:=[⟨⟨#[66]⟩,[⟨⟨#[84,114,117]⟩,[],0⟩,⟨⟨#[70,108,115]⟩,[],0⟩]⟩,⟨⟨#[84]⟩,[⟨⟨#[76,101,97,102]⟩,[],0⟩,⟨⟨#[78,111,100,101]⟩,[⟨1,0⟩,⟨0,0⟩,⟨1,0⟩],0⟩]⟩]
theorem ZNQ :uL ⟨#[66,61,84,114,117,124,70,108,115,59,84,61,76,101,97,102,124,78,111,100,101,40,84,44,66,44,84,41]⟩=some (W1,true):=E.f38_le 100 _ _ (by kernel_rfl)
theorem ZNP :uI W1=some [1,1,1,1,1,1,1,1]:=E.f53_le 100 _ _ (by kernel_rfl)
def W2 :List Data:=[⟨⟨#[69]⟩,[⟨⟨#[78,117,109]⟩,[⟨-1,0⟩],1⟩,⟨⟨#[66,111,108]⟩,[⟨1,0⟩],2⟩,⟨⟨#[65,100,100]⟩,[⟨0,1⟩,⟨0,1⟩],1⟩,⟨⟨#[73,102]⟩,[⟨0,2⟩,⟨0,-1⟩,⟨0,-1⟩],0⟩]⟩,⟨⟨#[66]⟩,[⟨⟨#[84,114,117]⟩,[],0⟩,⟨⟨#[70,108,115]⟩,[],0⟩]⟩]
theorem ZNO :uL ⟨#[69,61,78,117,109,40,73,41,58,49,124,66,111,108,40,66,41,58,50,124,65,100,100,40,69,49,44,69,49,41,58,49,124,73,102,40,69,50,44,69,42,44,69,42,41,59,66,61,84,114,117,124,70,108,115]⟩=some (W2,true):=E.f38_le 100 _ _ (by kernel_rfl)
theorem ZNN :uI W2=some [2,2,2,0,1,1,1,1]:=E.f53_le 100 _ _ (by kernel_rfl)
def W3 :List Data:=[⟨⟨#[79]⟩,[⟨⟨#[78,111,110]⟩,[],0⟩,⟨⟨#[83,111,109]⟩,[⟨-1,0⟩],0⟩]⟩,⟨⟨#[80]⟩,[⟨⟨#[80,97,105,114]⟩,[⟨0,0⟩,⟨0,0⟩],0⟩]⟩]
theorem ZNM :uL ⟨#[79,61,78,111,110,124,83,111,109,40,73,41,59,80,61,80,97,105,114,40,79,44,79,41]⟩=some (W3,true):=E.f38_le 100 _ _ (by kernel_rfl)
theorem ZNL :uI W3=some [1,1,1,1,2,2,2,2]:=E.f53_le 100 _ _ (by kernel_rfl)
def W4 :List Data:=[⟨⟨#[86]⟩,[⟨⟨#[69,110,100]⟩,[],1⟩,⟨⟨#[83,111,109,101]⟩,[⟨-1,0⟩,⟨0,1⟩],2⟩,⟨⟨#[84,119,111]⟩,[⟨0,-1⟩],0⟩]⟩]
theorem ZNK :uL ⟨#[86,61,69,110,100,58,49,124,83,111,109,101,40,73,44,86,49,41,58,50,124,84,119,111,40,86,42,41]⟩=some (W4,true):=E.f38_le 100 _ _ (by kernel_rfl)
theorem ZNJ :uI W4=some [1,1,2,0]:=E.f53_le 100 _ _ (by kernel_rfl)
def W5 :List Data:=[⟨⟨#[78]⟩,[⟨⟨#[78,101,118,101,114]⟩,[⟨0,0⟩],0⟩]⟩,⟨⟨#[66]⟩,[⟨⟨#[84,114,117]⟩,[],0⟩,⟨⟨#[70,108,115]⟩,[],0⟩,⟨⟨#[77,97,121]⟩,[⟨0,0⟩],0⟩]⟩]
theorem ZNI :uL ⟨#[78,61,78,101,118,101,114,40,78,41,59,66,61,84,114,117,124,70,108,115,124,77,97,121,40,78,41]⟩=some (W5,true):=E.f38_le 100 _ _ (by kernel_rfl)
theorem ZNH :uI W5=some [0,0,0,0,1,1,1,1]:=E.f53_le 100 _ _ (by kernel_rfl)
def W6 :List Data:=[⟨⟨#[83]⟩,[⟨⟨#[82,101,100]⟩,[],0⟩,⟨⟨#[71,114,101,101,110]⟩,[],0⟩,⟨⟨#[66,108,117,101]⟩,[],0⟩,⟨⟨#[77,105,120]⟩,[⟨0,0⟩,⟨0,0⟩],0⟩]⟩]
theorem ZNG :uL ⟨#[83,61,82,101,100,124,71,114,101,101,110,124,66,108,117,101,124,77,105,120,40,83,44,83,41]⟩=some (W6,true):=E.f38_le 100 _ _ (by kernel_rfl)
theorem ZNF :uI W6=some [1,1,1,1]:=E.f53_le 100 _ _ (by kernel_rfl)
def ZFH :List ByteArray:=[⟨#[76,61,78,105,108,124,67,111,110,115,40,73,44,76,41]⟩,⟨#[66,61,84,114,117,124,70,108,115,59,84,61,76,101,97,102,124,78,111,100,101,40,84,44,66,44,84,41]⟩,⟨#[69,61,78,117,109,40,73,41,58,49,124,66,111,108,40,66,41,58,50,124,65,100,100,40,69,49,44,69,49,41,58,49,124,73,102,40,69,50,44,69,42,44,69,42,41,59,66,61,84,114,117,124,70,108,115]⟩,⟨#[79,61,78,111,110,124,83,111,109,40,73,41,59,80,61,80,97,105,114,40,79,44,79,41]⟩,⟨#[86,61,69,110,100,58,49,124,83,111,109,101,40,73,44,86,49,41,58,50,124,84,119,111,40,86,42,41]⟩,⟨#[78,61,78,101,118,101,114,40,78,41,59,66,61,84,114,117,124,70,108,115,124,77,97,121,40,78,41]⟩,⟨#[83,61,82,101,100,124,71,114,101,101,110,124,66,108,117,101,124,77,105,120,40,83,44,83,41]⟩,ByteArray.empty]
theorem P.YBR :F.f0=some ZFH:=rfl
def ZAr :List (List Data):=[W0,W1,W2,W3,W4,W5,W6]
theorem P.YBQ (h:rok K r)(hK:K<=1099511627776):∃w r',F.f39 r=some (w,r')/\rok (K+1) r'/\w∈ZAr:=by
 unfold F.f39
 rw[P.YBR]
 simp only[oE,oS]
 obtain⟨v,r',e,h1,h2,h3,_⟩:=P.YO h hK 7
 have e7:i64.wrap (((8:Nat):Int) -1)=7:=by rw[ZC (by omega) (by omega)];rfl
 have e8:ZFH.length=8:=rfl
 rw[e8,e7,e]
 simp only[oS]
 have h3:=h3 (by omega)
 have hv:v=0∨v=1∨v=2∨v=3∨v=4∨v=5∨v=6:=by omega
 rcases hv with rfl|rfl|rfl|rfl|rfl|rfl|rfl
 ·have:at? ZFH 0=some (⟨#[76,61,78,105,108,124,67,111,110,115,40,73,44,76,41]⟩:ByteArray):=rfl
  rw[this];simp only[oS]
  rw[ZNS]
  exact⟨W0,r',rfl,h1,by simp[ZAr]⟩
 ·have:at? ZFH 1=some (⟨#[66,61,84,114,117,124,70,108,115,59,84,61,76,101,97,102,124,78,111,100,101,40,84,44,66,44,84,41]⟩:ByteArray):=rfl
  rw[this];simp only[oS]
  rw[ZNQ]
  exact⟨W1,r',rfl,h1,by simp[ZAr]⟩
 ·have:at? ZFH 2=some (⟨#[69,61,78,117,109,40,73,41,58,49,124,66,111,108,40,66,41,58,50,124,65,100,100,40,69,49,44,69,49,41,58,49,124,73,102,40,69,50,44,69,42,44,69,42,41,59,66,61,84,114,117,124,70,108,115]⟩:ByteArray):=rfl
  rw[this];simp only[oS]
  rw[ZNO]
  exact⟨W2,r',rfl,h1,by simp[ZAr]⟩
 ·have:at? ZFH 3=some (⟨#[79,61,78,111,110,124,83,111,109,40,73,41,59,80,61,80,97,105,114,40,79,44,79,41]⟩:ByteArray):=rfl
  rw[this];simp only[oS]
  rw[ZNM]
  exact⟨W3,r',rfl,h1,by simp[ZAr]⟩
 ·have:at? ZFH 4=some (⟨#[86,61,69,110,100,58,49,124,83,111,109,101,40,73,44,86,49,41,58,50,124,84,119,111,40,86,42,41]⟩:ByteArray):=rfl
  rw[this];simp only[oS]
  rw[ZNK]
  exact⟨W4,r',rfl,h1,by simp[ZAr]⟩
 ·have:at? ZFH 5=some (⟨#[78,61,78,101,118,101,114,40,78,41,59,66,61,84,114,117,124,70,108,115,124,77,97,121,40,78,41]⟩:ByteArray):=rfl
  rw[this];simp only[oS]
  rw[ZNI]
  exact⟨W5,r',rfl,h1,by simp[ZAr]⟩
 ·have:at? ZFH 6=some (⟨#[83,61,82,101,100,124,71,114,101,101,110,124,66,108,117,101,124,77,105,120,40,83,44,83,41]⟩:ByteArray):=rfl
  rw[this];simp only[oS]
  rw[ZNG]
  exact⟨W6,r',rfl,h1,by simp[ZAr]⟩
def pk (f:Nat->Nat):Nat->Nat
 |0=>0
 |k+1=>pk f k+f k*1024^k
theorem ZFQ {f g:Nat->Nat}:∀(k:Nat),(∀i,i<k->f i=g i)->pk f k=pk g k
 |0,_=>rfl
 |k+1,h=>by rw[pk,pk,ZFQ k (fun i hi=>h i (by omega)),h k (by omega)]
theorem ZGB (f g:Nat->Nat):∀(k:Nat),pk (fun i=>f i+g i) k=pk f k+pk g k
 |0=>rfl
 |k+1=>by simp only[pk];rw[ZGB f g k,zG];omega
theorem ZKj (f:Nat->Nat)(j:Nat):∀(k:Nat),pk f (j+k)=pk f j+1024^j*pk (fun i=>f (j+i)) k
 |0=>by simp[pk]
 |k+1=>by
  show pk f (j+k)+f (j+k)*1024^ (j+k)=_
  rw[ZKj f j k,pk,zC,Nat.pow_add]
  have:f (j+k)*(1024^j*1024^k)=1024^j*(f (j+k)*1024^k):=by rw[Nat.mul_left_comm]
  omega
theorem ZOM {f:Nat->Nat}(h:∀i,f i<1024):∀(k:Nat),pk f k<1024^k
 |0=>by simp[pk]
 |k+1=>by
  have:=ZOM h k
  have h1:f k*1024^k<=1023*1024^k:=zD _ (by have:=h k;omega)
  rw[pk,zL];omega
variable {f:Nat->Nat}
theorem ZNa (h:∀i,f i<1024)(j k:Nat):pk f (j+k)/1024^j=pk (fun i=>f (j+i)) k:=by
 rw[ZKj,Nat.add_mul_div_left _ _ (yE (by omega)),zZ (ZOM h j),zH]
theorem ZNZ (h:∀i,f i<1024)(j k:Nat):pk f (j+k)%1024^j=pk f j:=by
 rw[ZKj,Nat.add_mul_mod_self_left,zY (ZOM h j)]
def frc {α:Type}(n:Nat)(f:Nat->α):α:=Nat.rec (motive:=fun _=>α) (f 0) (fun k _=>f (Nat.succ k)) n
theorem ZCa (n:Nat)(f:Nat->α):frc n f=f n:=by cases n<;>rfl
theorem ZSt {a b:Nat}(h:a≠b):Nat.beq a b=false:=by
 cases e:Nat.beq a b
 ·rfl
 ·exact absurd (Nat.eq_of_beq_eq_true e) h
def ZLa (l:Nat):Nat:=if((l%64)^^^ (l/192))%3=l/64%3 then 1 else 0
def ZOn (k:Nat):Nat->Nat:=Nat.rec (motive:=fun _=>Nat->Nat) (fun V=>V) (fun l ih V=>frc (V*1024+cond (Nat.beq (Nat.mod (Nat.xor (Nat.mod l 64) (Nat.div l 192)) 3) (Nat.mod (Nat.div l 64) 3)) 1 0) ih) k
theorem ZLA :∀(k V:Nat),ZOn k V=pk ZLa k+1024^k*V
 |0,V=>by show V=0+1*V;omega
 |k+1,V=>by
  have e:ZOn (k+1) V=ZOn k (V*1024+ZLa k):=by
   show frc _ (ZOn k)=_
   rw[ZCa]
   congr 2
   show cond (Nat.beq (((k%64)^^^ (k/192))%3) (k/64%3)) 1 0=ZLa k
   unfold ZLa
   by_cases h:((k%64)^^^ (k/192))%3=k/64%3
   ·rw[iP h,h];simp
   ·rw[iN h,(ZSt h)];rfl
  rw[e,ZLA k,pk,zL,zC]
  have:1024^k*(V*1024)=1024^k*1024*V:=by rw[zF,zK 1024 V]
  have:1024^k*ZLa k=ZLa k*1024^k:=zK _ _
  omega
def tb (G u:Nat):Nat:=if((64*G+u)^^^G)%3=0 then 1 else 0
theorem ZPn {G u:Nat}(hu:u<64):((64*G+u)^^^G)%3=((G^^^ (G/64))+(u^^^ (G%64)))%3:=by
 have h1:((64*G+u)^^^G)/64=G^^^ (G/64):=by
  have:=Nat.shiftRight_xor_distrib (a:=64*G+u) (b:=G) (i:=6)
  simp only[Nat.shiftRight_eq_div_pow]at this
  rw[show(64:Nat)=2^6 from rfl,this];congr 1;omega
 have h2:((64*G+u)^^^G)%64=u^^^ (G%64):=by
  have:=Nat.xor_mod_two_pow (a:=64*G+u) (b:=G) (n:=6)
  rw[show(64:Nat)=2^6 from rfl,this];congr 1;omega
 omega
def row (T G:Nat):Nat:=Nat.mod (Nat.div T (Nat.pow 1024 (Nat.mul 64 (Nat.add (Nat.mul 3 (Nat.mod G 64)) (Nat.mod (Nat.sub 3 (Nat.mod (Nat.xor G (Nat.div G 64)) 3)) 3))))) (Nat.pow 1024 64)
theorem ZLZ (l:Nat):ZLa l<1024:=by unfold ZLa;split<;>omega
theorem ZRe (G u:Nat):tb G u<=1:=by unfold tb;split<;>omega
@[irreducible] def TB :Nat:=pk ZLa 12288
theorem ZRK :TB=pk ZLa 12288:=by unfold TB;rfl
theorem ZKL (G:Nat):row TB G=pk (tb G) 64:=by
 show(TB/1024^ (64*(3*(G%64)+(3- (G^^^ (G/64))%3)%3)))%1024^64=_
 generalize hr:(3- (G^^^ (G/64))%3)%3=r
 have hr3:r<3:=by omega
 have hh:G%64<64:=zO _ (by omega)
 obtain⟨j,hj⟩:∃j,j=64*(3*(G%64)+r):=⟨_,rfl⟩
 rw[ZRK,←hj,show(12288:Nat)=j+(64+(12224-j)) by omega,ZNa ZLZ,ZNZ (fun i=>ZLZ _)]
 refine ZFQ _ fun u hu=> ?_
 unfold ZLa tb
 rw[ZPn hu]
 have e1:(j+u)%64=u:=by omega
 have e2:(j+u)/192=G%64:=by omega
 have e3:(j+u)/64%3=r:=by omega
 rw[e1,e2,e3]
 generalize(u^^^ (G%64))=a
 generalize hg:(G^^^ (G/64))=g at hr ⊢
 by_cases h:a%3=r
 ·rw[iP h,iP (by omega)]
 ·rw[iN h,iN (by omega)]
def cnt (m:Nat):Nat->Nat->Nat->Nat
 |0,_,_=>0
 |k+1,G,u=>tb G u+cnt m k (G+m) u
theorem ZFf (m:Nat):∀(k G u:Nat),cnt m (k+1) G u=cnt m k G u+tb (G+m*k) u
 |0,G,u=>by simp[cnt]
 |k+1,G,u=>by
  show tb G u+cnt m (k+1) (G+m) u=tb G u+cnt m k (G+m) u+_
  rw[ZFf m k,zC,zQ,show G+m+m*k=G+(m*k+m) by omega];omega
theorem ZNn (m:Nat):∀(k G u:Nat),cnt m k G u<=k
 |0,G,u=>by simp[cnt]
 |k+1,G,u=>by have:=ZNn m k (G+m) u;have:=ZRe G u;simp only[cnt];omega
def acc (T m k:Nat):Nat->Nat->Nat:=
 Nat.rec (motive:=fun _=>Nat->Nat->Nat) (fun _ V=>V) (fun _ ih G V=>frc (V+row T G) fun V'=>frc (G+m) fun G'=>ih G' V') k
theorem ZNo (m:Nat):∀(k G V:Nat),acc TB m k G V=V+pk (cnt m k G) 64
 |0,G,V=>by show V=V+pk (fun u=>0) 64;rfl
 |k+1,G,V=>by
  have e:acc TB m (k+1) G V=acc TB m k (G+m) (V+row TB G):=by
   show frc (V+row TB G) (fun V'=>frc (G+m) fun G'=>acc TB m k G' V')=_
   rw[ZCa,ZCa]
  rw[e,ZNo m k,ZKL,show cnt m (k+1) G=fun u=>tb G u+cnt m k (G+m) u from rfl,ZGB];omega
def okV (V:Nat):Bool:=Nat.beq (Nat.land (V+pk (fun _=>385) 64) (pk (fun _=>512) 64)) 0
def ZI8 (T m k:Nat):Nat->Nat->Nat->Bool:=
 Nat.rec (motive:=fun _=>Nat->Nat->Nat->Bool) (fun _ _ _=>true)
  (fun _ ih L H V=>cond (okV V) (frc (V+row T H-row T L) fun V'=>frc (L+m) fun L'=>frc (H+m) fun H'=>ih L' H' V') false) k
theorem ZIR {m Q:Nat}:∀(k G:Nat),ZI8 TB m k G (G+m*Q) (pk (cnt m Q G) 64)=true->∀i,i<k->okV (pk (cnt m Q (G+m*i)) 64)=true
 |0,G,h,i,hi=>by omega
 |k+1,G,h,i,hi=>by
  have h':(cond (okV (pk (cnt m Q G) 64)) (ZI8 TB m k (G+m) (G+m*Q+m) (pk (cnt m Q G) 64+row TB (G+m*Q) -row TB G)) false)=true:=by
   rw[←h]
   show _=cond _ (frc _ _) false
   rw[ZCa,ZCa,ZCa];rfl
  have h1:okV (pk (cnt m Q G) 64)=true:=by
   revert h';cases okV (pk (cnt m Q G) 64)<;>simp
  rw[h1,cond_true]at h'
  cases i with
  |zero=>simpa using h1
  |succ i=>
   have e:pk (cnt m Q G) 64+row TB (G+m*Q) -row TB G=pk (cnt m Q (G+m)) 64:=by
    rw[ZKL,ZKL,←ZGB,ZFQ (f:=fun u=>cnt m Q G u+tb (G+m*Q) u) (g:=fun u=>tb G u+cnt m Q (G+m) u) 64 (fun u _=>(ZFf m Q G u).symm),ZGB];omega
   rw[e,show G+m*Q+m=G+m+m*Q by omega]at h'
   have:=ZIR k (G+m) h' i (by omega)
   rwa[show G+m+m*i=G+m*(i+1) by rw[zC];omega]at this
theorem ZQH (hf:∀i,f i<=638)(h:okV (pk f 64)=true){u:Nat}(hu:u<64):f u<=126:=by
 have h0:(pk f 64+pk (fun _=>385) 64)&&& pk (fun _=>512) 64=0:=Nat.eq_of_beq_eq_true h
 rw[←ZGB]at h0
 have hb:=congrArg (fun x=>x.testBit (10*u+9)) h0
 simp only[Nat.testBit_and,Nat.zero_testBit]at hb
 have key:∀g:Nat->Nat,(∀i,g i<1024)->(pk g 64).testBit (10*u+9)=decide (512<=g u):=fun g hg=>by
  have e:=ZNa hg u (1+(63-u))
  rw[show u+(1+(63-u))=64 by omega]at e
  have e2:=ZNZ (f:=fun i=>g (u+i)) (fun i=>hg _) 1 (63-u)
  rw[←e]at e2
  have e3:pk (fun i=>g (u+i)) 1=g u:=by simp[pk]
  rw[e3,Nat.pow_one]at e2
  rw[Nat.testBit_eq_decide_div_mod_eq,Nat.pow_add,←Nat.div_div_eq_div_mul,Nat.pow_mul]
  rw[show(2:Nat)^10=1024 from rfl,show(2:Nat)^9=512 from rfl]
  generalize pk g 64/1024^u=z at e2
  have:=hg u
  congr 1
  exact propext ⟨fun _=>by omega,fun _=>by omega⟩
 rw[key _ (fun i=>by have:=hf i;omega),key _ (fun i=>by omega)]at hb
 simp at hb
 have:=hb
 omega
def ZLS (T m Q k:Nat):Bool:=Nat.rec (motive:=fun _=>Bool) true (fun c ih=>cond (frc (acc T m Q c 0) fun V=>frc (c+m*Q) fun H=>ZI8 T m (9001/m+1) c H V) ih false) k
theorem ZLR {m Q:Nat}:∀(k:Nat),ZLS TB m Q k=true->∀c,c<k->∀i,i<9001/m+1->okV (pk (cnt m Q (c+m*i)) 64)=true
 |0,h,c,hc=>by omega
 |k+1,h,c,hc=>by
  have h':cond (ZI8 TB m (9001/m+1) k (k+m*Q) (acc TB m Q k 0)) (ZLS TB m Q k) false=true:=by
   rw[←h]
   show _=cond (frc _ _) _ _
   rw[ZCa,ZCa];rfl
  rw[ZNo,zH]at h'
  have h1:ZI8 TB m (9001/m+1) k (k+m*Q) (pk (cnt m Q k) 64)=true:=by
   revert h';cases ZI8 TB m (9001/m+1) k (k+m*Q) (pk (cnt m Q k) 64)<;>simp
  rw[h1,cond_true]at h'
  by_cases hk:c=k
  ·subst hk;exact ZIR _ _ h1
  ·exact ZLR k h' c (by omega)
def ZRX (T:Nat):Bool:=(ZLS T 15 256 15&& ZLS T 44 256 44&& ZLS T 73 256 73&& ZLS T 102 256 102)&& (ZLS T 1 128 1&& ZLS T 59 128 59&& ZLS T 117 128 117&& ZLS T 175 128 175)
def ZM3 :Bool:=frc (ZOn 12288 0) ZRX
theorem ZOm :∀k,k=12288->ZOn k 0=TB:=by
 intro k hk
 rw[ZLA,Nat.mul_zero,zM,ZRK,hk]
theorem ZFk :ZM3=true:=by kernel_rfl
theorem ZRD (k:Nat)(hk:k=12288)(h:frc (ZOn k 0) ZRX=true):ZRX TB=true:=by
 rwa[ZCa,ZOm k hk]at h
variable {m:Nat}
theorem ZLQ {Q:Nat}(hm:(Q=256/\(m=15∨m=44∨m=73∨m=102))∨(Q=128/\(m=1∨m=59∨m=117∨m=175))){G u:Nat}(hG:G<=9000)(hu:u<64):cnt m Q G u<=126:=by
 have h:=ZRD 12288 rfl ZFk
 unfold ZRX at h
 simp only[uE]at h
 obtain⟨⟨⟨⟨a1,a2⟩,a3⟩,a4⟩,⟨⟨a5,a6⟩,a7⟩,a8⟩:=h
 have hc:ZLS TB m Q m=true:=by
  rcases hm with⟨rfl,rfl|rfl|rfl|rfl⟩|⟨rfl,rfl|rfl|rfl|rfl⟩
  ·exact a1
  ·exact a2
  ·exact a3
  ·exact a4
  ·exact a5
  ·exact a6
  ·exact a7
  ·exact a8
 have hm0:0<m:=by omega
 have hq:Q<=256:=by omega
 have:=ZLR m hc (G%m) (zO _ hm0) (G/m) (by have:=Nat.div_le_div_right (c:=m) (show G<=9001 by omega);omega)
 rw[Nat.mod_add_div]at this
 exact ZQH (fun i=>by have:=ZNn m Q G i;omega) this hu
def ZAP (f:Nat->Int):Nat->Int
 |0=>0
 |k+1=>ZAP f k+f k
theorem ZBf {f g:Nat->Int}:∀(k:Nat),(∀i,i<k->f i=g i)->ZAP f k=ZAP g k
 |0,_=>rfl
 |k+1,h=>by rw[ZAP,ZAP,ZBf k (fun i hi=>h i (by omega)),h k (by omega)]
theorem ZDg {f g:Nat->Int}:∀(k:Nat),(∀i,i<k->f i<=g i)->ZAP f k<=ZAP g k
 |0,_=>by simp[ZAP]
 |k+1,h=>by
  have:=ZDg k (fun i hi=>h i (Nat.lt_succ_of_lt hi))
  have:=h k (by omega)
  simp only[ZAP];omega
theorem ZBh (f g:Nat->Int):∀(k:Nat),ZAP (fun i=>f i+g i) k=ZAP f k+ZAP g k
 |0=>rfl
 |k+1=>by simp only[ZAP];rw[ZBh f g k];omega
theorem ZAL (c:Int):∀(k:Nat),ZAP (fun _=>c) k=c*k
 |0=>by simp[ZAP]
 |k+1=>by simp only[ZAP];rw[ZAL c k,Int.natCast_add,Int.mul_add];simp
theorem ZBg (f:Nat->Int)(a:Nat):∀(b:Nat),ZAP f (a+b)=ZAP f a+ZAP (fun i=>f (a+i)) b
 |0=>by simp[ZAP]
 |b+1=>by
  show ZAP f (a+b)+f (a+b)=_
  rw[ZBg f a b];simp only[ZAP];omega
theorem ZIP (f:Nat->Int)(n:Nat):∀(L:Nat),ZAP f (n*L)=ZAP (fun q=>ZAP (fun i=>f (n*q+i)) n) L
 |0=>by simp[ZAP]
 |L+1=>by rw[zC,zQ,ZBg,ZIP f n L];rfl
theorem ZFz (f:Nat->Nat->Int)(n:Nat):∀(L:Nat),ZAP (fun q=>ZAP (fun i=>f q i) n) L=ZAP (fun i=>ZAP (fun q=>f q i) L) n
 |0=>by
  have:∀n,ZAP (fun _=>0) n=0:=fun n=>by rw[ZAL];simp
  simp only[ZAP];exact(this n).symm
 |L+1=>by
  show ZAP (fun q=>ZAP (fun i=>f q i) n) L+ZAP (fun i=>f L i) n=ZAP (fun i=>ZAP (fun q=>f q i) L+f L i) n
  rw[ZFz f n L,ZBh]
def gP (p:Nat):Int:=if p=3 then -1 else if p<2 then 0 else 1
def gY (x:Nat):Int:=gP ((x^^^ (x/64))%24)
theorem ZO2 (p:Nat): -1<=gP p:=by unfold gP;split<;>(try split)<;>omega
theorem ZMi (p:Nat):gP p<=1:=by unfold gP;split<;>(try split)<;>omega
theorem ZSQ (x:Nat):(x^^^ (x/64))/8=(64*(x/512)+x%512/8)^^^ (x/512):=by
 have:=Nat.shiftRight_xor_distrib (a:=x) (b:=x/64) (i:=3)
 simp only[Nat.shiftRight_eq_div_pow]at this
 rw[show(8:Nat)=2^3 from rfl,this,show(2:Nat)^3=8 from rfl,show x/8=64*(x/512)+x%512/8 by omega,show x/64/8=x/512 by omega]
theorem ZQq (x:Nat):1-2*(tb (x/512) (x%512/8):Int)<=gY x:=by
 unfold tb gY
 rw[←ZSQ]
 generalize(x^^^ (x/64))=y
 by_cases h:y/8%3=0
 ·rw[iP h];have:=ZO2 (y%24);omega
 ·rw[iN h];unfold gP;rw[iN (by omega),iN (by omega)];simp
theorem ZKE {m G u:Nat}{f:Nat->Int}:∀(k:Nat),(∀q,1-2*(tb (G+m*q) u:Int)<=f q)->(k:Int) -2*(cnt m k G u:Int)<=ZAP f k
 |0,_=>by simp[ZAP,cnt]
 |k+1,h=>by
  have h1:=ZKE k h
  have h2:=h k
  rw[ZFf];simp only[ZAP];omega
theorem ZII (x:Nat):(x^^^ (x/64))%8=((x%512)^^^ (x%512/64))%8:=by
 have e:∀a b:Nat,(a^^^b)%8=(a%8)^^^ (b%8):=fun a b=>Nat.xor_mod_two_pow (a:=a) (b:=b) (n:=3)
 rw[e,e (x%512),show x%512%8=x%8 by omega,show x%512/64%8=x/64%8 by omega]
def gl (a:Nat):Int:=if((a^^^ (a/64))%8)=3 then -1 else if(a^^^ (a/64))%8<2 then 0 else 1
theorem ZMh (x:Nat):gl (x%512)<=gY x:=by
 unfold gl gY gP
 rw[←ZII]
 generalize(x^^^ (x/64))=y
 by_cases h:y%8=3
 ·rw[iP h];repeat' split
  all_goals omega
 rw[iN h]
 by_cases h2:y%8<2
 ·rw[iP h2];repeat' split
  all_goals omega
 ·rw[iN h2,iN (by omega),iN (by omega)];omega
def gl4 :Bool:=(xW 512).all fun a=>[128,384].all fun w=>decide (1<=gl a+gl ((a+w)%512)+gl ((a+2*w)%512)+gl ((a+3*w)%512))
theorem ZMf :gl4=true:=by kernel_rfl
theorem ZO1 (x w:Nat)(hw:w%256=128):1<=gY x+gY (x+w)+gY (x+2*w)+gY (x+3*w):=by
 have h:=ZMf
 simp only[gl4,xJ,decide_eq_true_eq]at h
 have:=h (x%512) (List.mem_range.2 (by omega)) (w%512) (by
  have:w%512=128∨w%512=384:=by omega
  rcases this with e|e<;>simp[e])
 have h0:=ZMh x
 have h1:=ZMh (x+w)
 have h2:=ZMh (x+2*w)
 have h3:=ZMh (x+3*w)
 rw[show(x+w)%512=(x%512+w%512)%512 by omega]at h1
 rw[show(x+2*w)%512=(x%512+2*(w%512))%512 by omega]at h2
 rw[show(x+3*w)%512=(x%512+3*(w%512))%512 by omega]at h3
 omega
def tEx :Bool:=(xW 256).all fun r=>r==0|| [128,64,32,16,8,4,6,5].any fun t=>t*r%256==128
theorem ZL2 :tEx=true:=by kernel_rfl
theorem ZSd {s:Nat}(hs:s%256≠0):∃t,4<=t/\t<=128/\t*s%256=128:=by
 have h:=ZL2
 simp only[tEx,xJ]at h
 have:=h (s%256) (List.mem_range.2 (by omega))
 simp only[uD,beq_iff_eq,vP]at this
 rcases this with h|⟨t,ht,e⟩
 ·exact absurd h hs
 ·refine⟨t,?_,?_,?_⟩
  ·simp at ht;omega
  ·simp at ht;omega
  ·rw[Nat.mul_mod]at e ⊢;rwa[Nat.mod_mod]at e
variable {x:Nat}
theorem ZLD {s t:Nat}(ht:4<=t)(e:t*s%256=128):4<=ZAP (fun q=>gY (x+s*q)) (4*t):=by
 have e4:4*t=t+(t+(t+t)):=by omega
 rw[e4,ZBg,ZBg,ZBg,←ZBh,←ZBh,←ZBh]
 refine Int.le_trans ?_ (ZDg (f:=fun _=>1) t fun i hi=> ?_)
 ·rw[ZAL];omega
 ·have:=ZO1 (x+s*i) (t*s) e
  have a1:x+s*(t+i)=x+s*i+t*s:=by rw[zC,zK s t];omega
  have a2:x+s*(t+(t+i))=x+s*i+2*(t*s):=by rw[zC,zC,zK s t];omega
  have a3:x+s*(t+(t+(t+i)))=x+s*i+3*(t*s):=by rw[zC,zC,zC,zK s t];omega
  rw[a1,a2,a3];omega
theorem ZDa (hm:m=15∨m=44∨m=73∨m=102)(hx:x<=4608000):4<=ZAP (fun q=>gY (x+512*m*q)) 256:=by
 have h:=ZKE (m:=m) (G:=x/512) (u:=x%512/8) (f:=fun q=>gY (x+512*m*q)) 256 (fun q=>by
  have:=ZQq (x+512*m*q)
  rw[zF]at this ⊢
  generalize m*q=z at this ⊢
  rwa[show(x+512*z)/512=x/512+z by omega,show(x+512*z)%512=x%512 by omega]at this)
 have:=ZLQ (Or.inl ⟨rfl,hm⟩) (G:=x/512) (u:=x%512/8) (by omega) (by omega)
 omega
theorem ZIO (f:Nat->Int):∀(k:Nat),ZAP f (2*k)=ZAP (fun j=>f (2*j)+f (2*j+1)) k
 |0=>rfl
 |k+1=>by
  show ZAP f (2*k)+f (2*k)+f (2*k+1)=_
  rw[ZIO f k];simp only[ZAP];omega
theorem ZQr (h:4<=(x^^^ (x/64))%8):gY x=1:=by
 unfold gY gP
 generalize(x^^^ (x/64))=y at h
 rw[iN (by omega),iN (by omega)]
def ZQt :Bool:=(xW 512).all fun a=>decide (4<=(a^^^ (a/64))%8)||decide (4<=(((a+256)%512)^^^ ((a+256)%512/64))%8)
theorem ZJi :ZQt=true:=by kernel_rfl
theorem ZDb (hm:m=1∨m=59∨m=117∨m=175)(hx:x+256*m<=4608000):4<=ZAP (fun q=>gY (x+256*m*q)) 256:=by
 have hf:=ZJi
 simp only[ZQt,xJ]at hf
 have hf:=hf (x%512) (List.mem_range.2 (by omega))
 simp only[uD,decide_eq_true_eq]at hf
 have key:∀(y:Nat),y<=4608000->128-2*(cnt m 128 (y/512) (y%512/8):Int)<=ZAP (fun j=>gY (y+512*(m*j))) 128:=fun y hy=>by
  have h:=ZKE (m:=m) (G:=y/512) (u:=y%512/8) (f:=fun q=>gY (y+512*(m*q))) 128 (fun q=>by
   have:=ZQq (y+512*(m*q))
   generalize m*q=z at this ⊢
   rwa[show(y+512*z)/512=y/512+z by omega,show(y+512*z)%512=y%512 by omega]at this)
  exact h
 have c126:∀(y:Nat),y<=4608000->cnt m 128 (y/512) (y%512/8)<=126:=fun y hy=>ZLQ (Or.inr ⟨rfl,hm⟩) (by omega) (by omega)
 rw[show(256:Nat)=2*128 from rfl,ZIO,ZBh]
 have e0:∀j,x+2*128*m*(2*j)=x+512*(m*j):=fun j=>by rw[show 2*128*m*(2*j)=512*(m*j) by rw[zF,Nat.mul_left_comm m 2 j,←zF]]
 have e1:∀j,x+2*128*m*(2*j+1)=(x+256*m)+512*(m*j):=fun j=>by
  have:=e0 j;rw[zC,zQ];omega
 simp only[e0,e1]
 have one:∀(y:Nat),4<=((y%512)^^^ (y%512/64))%8->ZAP (fun j=>gY (y+512*(m*j))) 128=128:=fun y hy=>by
  rw[ZBf (g:=fun _=>1) 128 fun j _=>ZQr (by rw[ZII,show(y+512*(m*j))%512=y%512 by omega];exact hy),ZAL];rfl
 rcases hf with hf|hf
 ·rw[one x hf]
  have:=key (x+256*m) hx
  have:=c126 (x+256*m) hx
  omega
 ·have e5:(x+256*m)%512=(x%512+256)%512:=by omega
  rw[one (x+256*m) (by rw[e5];exact hf)]
  have:=key x (by omega)
  have:=c126 x (by omega)
  omega
theorem ZSm {n q0:Nat}(h0:0<n)(hn:n<=2000)(hx:x<=376300)(hq:q0<=110000/n+1):∃L,L<=512/\∀x,x<=376300->4<=ZAP (fun q=>gY (x+(29*n+53)*(q0+q))) L:=by
 have e:∀x q,x+(29*n+53)*(q0+q)=(x+(29*n+53)*q0)+(29*n+53)*q:=fun x q=>by rw[zC];omega
 by_cases hs:(29*n+53)%256=0
 ·have hn8:n=7∨n=263∨n=519∨n=775∨n=1031∨n=1287∨n=1543∨n=1799:=by omega
  refine⟨256,by omega,fun x hx=> ?_⟩
  simp only[e]
  rcases hn8 with rfl|rfl|rfl|rfl|rfl|rfl|rfl|rfl
  ·exact ZDb (m:=1) (by omega) (by omega)
  ·exact ZDa (m:=15) (by omega) (by omega)
  ·exact ZDb (m:=59) (by omega) (by omega)
  ·exact ZDa (m:=44) (by omega) (by omega)
  ·exact ZDb (m:=117) (by omega) (by omega)
  ·exact ZDa (m:=73) (by omega) (by omega)
  ·exact ZDb (m:=175) (by omega) (by omega)
  ·exact ZDa (m:=102) (by omega) (by omega)
 ·obtain⟨t,ht,ht',e2⟩:=ZSd hs
  refine⟨4*t,by omega,fun x hx=> ?_⟩
  simp only[e]
  exact ZLD ht e2
def bnat (b:List Int)(i:Nat):Nat:=(b.getD i 0).toNat
def ZRM (b:List Int)(k:Nat):Nat:=bnat b (k%b.length)*131+bnat b ((k*7+3)%b.length)*1117+k*29+k/b.length*53
def pNat (b:List Int)(k:Nat):Nat:=if b.length=0 then 0 else if k<b.length then bnat b k%24 else((ZRM b k)^^^ (ZRM b k/64))%24
theorem ZLr {n:Nat}(hm:m<4611686018427387904)(hn:n<4611686018427387904):ZNr .i64 (m:Int) (n:Int)=((m^^^n:Nat):Int):=by
 have h2:m^^^n<2^62:=zV (by omega) (by omega)
 unfold ZNr
 have e:(BitVec.ofInt IntKind.i64.bits (m:Int)^^^BitVec.ofInt IntKind.i64.bits (n:Int)).toNat=m^^^n:=by
  rw[BitVec.toNat_xor]
  have e1:(BitVec.ofInt IntKind.i64.bits (m:Int)).toNat=m:=by
   show(BitVec.ofInt 64 (m:Int)).toNat=m
   rw[BitVec.toNat_ofInt];omega
  have e2:(BitVec.ofInt IntKind.i64.bits (n:Int)).toNat=n:=by
   show(BitVec.ofInt 64 (n:Int)).toNat=n
   rw[BitVec.toNat_ofInt];omega
  rw[e1,e2]
 rw[e,ZC (by omega) (by omega)]
variable {b:List Int}
theorem atN (hb:∀x,x∈b->0<=x/\x<=255){i:Nat}(hi:i<b.length):at? b (i:Int)=some (bnat b i:Int)/\bnat b i<=255:=by
 have hm:=hb _ (gM hi)
 have e:(bnat b i:Int)=b[i]:=by
  unfold bnat
  rw[yX,gQ hi]
  exact vV hm.1
 refine⟨?_,by omega⟩
 unfold at?
 rw[iP (by omega),Int.toNat_natCast,gQ hi,e]
theorem P.YBC (hb:∀x,x∈b->0<=x/\x<=255)(hl:b.length<=2000)(k:Nat)(hk:k<=1099511627776):
  kZ ⟨b,(k:Int)⟩ 24=some ((pNat b k:Int),⟨b,((k+1:Nat):Int)⟩):=by
 unfold kZ pNat
 have e1:i64.wrap ((k:Int)+1)=((k+1:Nat):Int):=by rw[ZC (by omega) (by omega)];omega
 have e2:i64.wrap (((k+1:Nat):Int) -1)=(k:Int):=by rw[ZC (by omega) (by omega)];omega
 simp only[e1,e2]
 rw[iN (by omega)]
 by_cases h0:b.length=0
 ·rw[iP h0,iP h0];rfl
 rw[iN h0,iN h0]
 by_cases hkl:k<b.length
 ·obtain⟨q1,q2⟩:=atN hb hkl
  rw[iP (by omega),iP hkl,q1]
  simp only[oE,oS]
  rw[iP (by omega),ZC (by omega) (by omega)]
  congr 2
 ·have t1:((k:Int)).tmod (b.length:Int)=((k%b.length:Nat):Int):=(Int.ofNat_tmod k b.length).symm
  have t2:((k:Int)*7+3).tmod (b.length:Int)=(((k*7+3)%b.length:Nat):Int):=by
   have:=(Int.ofNat_tmod (k*7+3) b.length).symm
   rw[←this];congr 1
  have t3:((k:Int)).tdiv (b.length:Int)=((k/b.length:Nat):Int):=(Int.ofNat_tdiv k b.length).symm
  have e7:i64.wrap ((k:Int)*7)=(k:Int)*7:=ZC (by omega) (by omega)
  have e73:i64.wrap ((k:Int)*7+3)=(k:Int)*7+3:=ZC (by omega) (by omega)
  rw[iN (by omega),iP (by omega),iN hkl,e7,e73,t1,t2,t3]
  obtain⟨q1,q2⟩:=atN hb (i:=k%b.length) (zO _ (by omega))
  obtain⟨q3,q4⟩:=atN hb (i:=(k*7+3)%b.length) (zO _ (by omega))
  rw[q1,q3]
  simp only[oE,oS]
  rw[iP (by omega)]
  unfold ZRM
  have hd:k/b.length<=k:=Nat.div_le_self _ _
  generalize bnat b (k%b.length)=x at*
  generalize bnat b ((k*7+3)%b.length)=y at*
  generalize k/b.length=q at*
  rw[ZC (n:=(x:Int)) (by omega) (by omega),ZC (n:=(y:Int)) (by omega) (by omega),ZC (n:=(q:Int)) (by omega) (by omega),ZC (n:=(x:Int)*131) (by omega) (by omega),ZC (n:=(y:Int)*1117) (by omega) (by omega),
   ZC (n:=(k:Int)*29) (by omega) (by omega),ZC (n:=(q:Int)*53) (by omega) (by omega),ZC (n:=(x:Int)*131+(y:Int)*1117) (by omega) (by omega),ZC (n:=(x:Int)*131+(y:Int)*1117+(k:Int)*29) (by omega) (by omega),
   ZC (n:=(x:Int)*131+(y:Int)*1117+(k:Int)*29+(q:Int)*53) (by omega) (by omega)]
  obtain⟨z,hz⟩:∃z:Nat,z=x*131+y*1117+k*29+q*53:=⟨_,rfl⟩
  have hzi:(x:Int)*131+(y:Int)*1117+(k:Int)*29+(q:Int)*53=(z:Int):=by omega
  rw[hzi,←hz]
  have e5:((z:Int)).tdiv 64=((z/64:Nat):Int):=(Int.ofNat_tdiv z 64).symm
  rw[e5,ZC (n:=((z/64:Nat):Int)) (by omega) (by omega),ZLr (by omega) (by omega)]
  congr 2
def ZB1 (b:List Int)(p d:Nat):Int:=ZAP (fun j=>gP (pNat b (p+j))) d
theorem ZBO (b:List Int)(p d e:Nat):ZB1 b p (d+e)=ZB1 b p d+ZB1 b (p+d) e:=by
 unfold ZB1
 rw[ZBg];congr 1
 exact ZBf _ fun i _=>by rw[zJ]
theorem ZAb (b:List Int)(p:Nat):ZB1 b p 1=gP (pNat b p):=by simp[ZB1,ZAP]
theorem ZBe (b:List Int)(p d:Nat):ZB1 b p (d+1)=gP (pNat b p)+ZB1 b (p+1) d:=by rw[zR d 1,ZBO,ZAb]
theorem ZLv (b:List Int)(p d:Nat):ZB1 b p d<=d:=by
 have:=ZDg (f:=fun j=>gP (pNat b (p+j))) (g:=fun _=>1) d fun i _=>ZMi _
 rw[ZAL]at this
 show ZAP _ _<=_;omega
theorem ZLw (b:List Int)(p d:Nat): -(d:Int)<=ZB1 b p d:=by
 have:=ZDg (f:=fun _=> -1) (g:=fun j=>gP (pNat b (p+j))) d fun i _=>ZO2 _
 rw[ZAL]at this
 show _<=ZAP _ _;omega
theorem ZMH (h0:0<b.length){q i:Nat}(hq:1<=q)(hi:i<b.length):
  gP (pNat b (b.length*q+i))=gY (bnat b i*131+bnat b ((i*7+3)%b.length)*1117+i*29+(29*b.length+53)*q):=by
 have h1:b.length*1<=b.length*q:=zI _ hq
 have e1:(b.length*q+i)%b.length=i:=by rw[yA,zY hi]
 have e2:(b.length*q+i)/b.length=q:=by rw[Nat.mul_add_div h0,zZ hi,zM]
 have e3:((b.length*q+i)*7+3)%b.length=(i*7+3)%b.length:=by
  rw[show(b.length*q+i)*7+3=b.length*(7*q)+(i*7+3) by rw[zG,zF,zK q 7];omega,yA]
 unfold pNat
 rw[iN (by omega),iN (by omega)]
 unfold gY ZRM
 rw[e1,e2,e3]
 have e4:(b.length*q+i)*29=i*29+29*b.length*q:=by rw[zG,zK _ 29,zF];omega
 have e5:(29*b.length+53)*q=29*b.length*q+53*q:=zG _ _ _
 rw[show bnat b i*131+bnat b ((i*7+3)%b.length)*1117+(b.length*q+i)*29+q*53=bnat b i*131+bnat b ((i*7+3)%b.length)*1117+i*29+(29*b.length+53)*q by omega]
theorem ZLx (hb:∀x,x∈b->0<=x/\x<=255)(hl:b.length<=2000)(h0:0<b.length){p:Nat}(hp:p<=110000):∃d,d<=1026000/\3<=ZB1 b p d:=by
 obtain⟨q0,hq0⟩:∃q0,q0=p/b.length+1:=⟨_,rfl⟩
 have hpd:=Nat.div_add_mod p b.length
 have hpm:=zO p h0
 have hd4:p/b.length<=110000/b.length:=Nat.div_le_div_right hp
 have hmul:b.length*q0=b.length*(p/b.length)+b.length:=by rw[hq0,zC,zQ]
 obtain⟨L,hL,hg⟩:=ZSm (n:=b.length) (x:=0) (q0:=q0) h0 hl (by omega) (by omega)
 have h1:4*(b.length:Int)<=ZB1 b (b.length*q0) (b.length*L):=by
  unfold ZB1
  rw[ZIP,ZFz]
  refine Int.le_trans ?_ (ZDg (f:=fun _=>4) b.length fun i hi=> ?_)
  ·rw[ZAL];omega
  ·have hx:bnat b i<=255:=(atN hb hi).2
   have hy:bnat b ((i*7+3)%b.length)<=255:=(atN hb (zO _ h0)).2
   have:=hg (bnat b i*131+bnat b ((i*7+3)%b.length)*1117+i*29) (by omega)
   refine Int.le_trans this (Int.le_of_eq (ZBf L fun q _=> ?_))
   show _=gP (pNat b (b.length*q0+(b.length*q+i)))
   rw[←zJ,←zC];exact(ZMH h0 (by have:=zB (p/b.length);rw[hq0];exact Nat.le_add_right_of_le (Nat.le_add_left 1 _)) hi).symm
 have hLn:b.length*L<=2000*512:=zT hl hL
 refine⟨b.length*q0-p+b.length*L,by omega,?_⟩
 rw[ZBO,show p+(b.length*q0-p)=b.length*q0 by omega]
 have:=ZLw b p (b.length*q0-p)
 omega
theorem P.YAn (hb:∀x,x∈b->0<=x/\x<=255)(hl:b.length<=2000)(k:Nat)(hk:k<=1099511627775)(l:List Int)(h:l≠[]):∃v,kO ⟨b,(k:Int)⟩ l=some (v,⟨b,((k+1:Nat):Int)⟩):=by
 obtain⟨v,r',e,_⟩:=P.num (K:=k) (r:=⟨b,(k:Int)⟩) ⟨hl,hb,by simp,by simp⟩ (by omega) l h
 have:r'=⟨b,((k+1:Nat):Int)⟩:=by
  have e1:i64.wrap ((k:Int)+1)=((k+1:Nat):Int):=by rw[ZC (by omega) (by omega)];omega
  unfold kO kZ at e
  simp only[e1]at e
  revert e
  repeat' split
  all_goals simp[Option.bind_eq_some_iff]
  all_goals first
   |(intro x h1 h2;exact h2.symm)
   |(intros;subst_vars;rfl)
 exact⟨v,by rw[e,this]⟩
def ZFl (code:List Int):Prop:=code.length<=maxLen/\∀x,x∈code->0<=x/\x<=255
variable {code:List Int}
theorem ZL6 (h:ZFl code)(hl:code.length<=2000):rok 0 ⟨code,0⟩:=⟨hl,h.2,vX 0,vX 0⟩
theorem ZN4 (h:ZFl code):rok 0 ⟨(code.drop 0).take (2000-0),0⟩:=⟨by simp;omega,fun x hx=>h.2 x (vI (vH hx)),vX 0,vX 0⟩
theorem ZDC (h:w∈ZAr):ZAD w:=by
 simp only[ZAr,xB,vN,or_false]at h
 rcases h with rfl|rfl|rfl|rfl|rfl|rfl|rfl<;>exact ZKH (by decide)
def tIx (w:List Data)(t:Ty):Prop:=t.data= -1∨(0<=t.data/\t.data<w.length/\0<=t.index/\t.index<=3)
theorem tIx.tOk (h:tIx w t):tOk w t:=h.imp id fun h=>⟨h.1,h.2.1⟩
def ZCB (T:List Int)(t:Ty):Int:=if t.data= -1 then 1 else T.getD (t.data*4+t.index).toNat 0
def ZB3 (T:List Int):Int->List Ty->Int
 |m,[]=>m+1
 |m,a::r=>if ZCB T a=0 then 0 else ZB3 T (if m<ZCB T a then ZCB T a else m) r
def ZCs (w:List Data)(T:List Int)(t:Ty)(c:Int):Int:=ZB3 T 0 (ZK w t c)
def ZR6 (i:Int)(c:Ctor):Bool:=decide (i=0)||decide (c.index=0)||decide (c.index=i)
def ZPo (w:List Data)(T:List Int):Bool:=decide (T.length=w.length*4)&& T.all (fun x=>decide (0<=x)&& decide (x<=2))&&
 (xW w.length).all fun d=>(xW 4).all fun i=>decide (T.getD (d*4+i) 0=0)||
  (xW (w.getD d Data.z).ctors.length).any fun k=>ZR6 i ((w.getD d Data.z).ctors.getD k Ctor.z)&& decide (ZCs w T ⟨d,i⟩ k=T.getD (d*4+i) 0)
theorem ZMp {i:Int}{c:Ctor}(h:ZR6 i c=true):ZMo i c:=by
 simp only[ZR6,uD,decide_eq_true_eq]at h
 rcases h with(h|h)|h
 ·exact .inl h
 ·exact .inr (.inl h)
 ·exact .inr (.inr h)
theorem ZKI {i:Int}:∀{k:Nat} {l:List Ctor} {j:Nat} (hj:j<l.length),ZMo i l[j]->((k+j:Nat):Int)∈ZFu i k l
 |k,c::r,0,hj,h=>by simp only[ZFu];rw[iP (ZF (show ZMo i c from h))];exact xR _ (by simp)
 |k,c::r,j+1,hj,h=>by
  simp only[ZFu]
  refine vG _ ?_
  have:=ZKI (k:=k+1) (l:=r) (j:=j) (by simpa using hj) h
  have e:k+1+j=k+(j+1):=by omega
  rwa[e]at this
structure TOk (w:List Data)(T:List Int):Prop where
 wok:ZN w
 len:T.length=w.length*4
 rng:∀k,0<=T.getD k 0/\T.getD k 0<=2
 has:∀t,tIx w t->t.data≠-1->ZCB T t≠0->∃c,c∈ZP w t/\ZCs w T t c=ZCB T t
variable {T:List Int}
theorem TOk.of (hw:ZN w)(h:ZPo w T=true):TOk w T:=by
 simp only[ZPo,uE,decide_eq_true_eq]at h
 obtain⟨⟨h1,h2⟩,h3⟩:=h
 refine⟨hw,h1,fun k=> ?_,fun t ht hn hd=> ?_⟩
 ·by_cases hk:k<T.length
  ·rw[yX,gQ hk]
   have:=xJ.1 h2 _ (gM hk)
   simpa using this
  ·rw[yX,List.getElem?_eq_none (by omega)];simp
 ·obtain⟨q1,q2,q3,q4⟩:=ht.resolve_left hn
  have a1:=xJ.1 h3 t.data.toNat (by simp;omega)
  have a2:=xJ.1 a1 t.index.toNat (by simp;omega)
  simp only[uD,decide_eq_true_eq]at a2
  have e:(t.data*4+t.index).toNat=t.data.toNat*4+t.index.toNat:=by omega
  have ed:ZCB T t=T.getD (t.data.toNat*4+t.index.toNat) 0:=by unfold ZCB;rw[iN hn,e]
  have a3:=a2.resolve_left (by rw[←ed];exact hd)
  obtain⟨k,hk,hkk⟩:=vP.1 a3
  simp only[uE,decide_eq_true_eq]at hkk
  have et:(⟨(t.data.toNat:Int),(t.index.toNat:Int)⟩:Ty)=t:=by
   obtain⟨d,i⟩:=t
   simp only at q1 q3 ⊢
   rw[vV q1,vV q3]
  rw[et]at hkk
  have hk':k<(ZX w t).ctors.length:=by simpa[ZX]using hk
  refine⟨(k:Int),?_,by rw[hkk.2,ed]⟩
  unfold ZP
  rw[iN hn]
  have hf:=ZMp hkk.1
  rw[vV q3]at hf
  have hg:(w.getD t.data.toNat Data.z).ctors.getD k Ctor.z=(ZX w t).ctors[k]:=by
   unfold ZX at hk' ⊢
   rw[yX,gQ hk'];rfl
  rw[hg]at hf
  have:=ZKI (k:=0) hk' hf
  rwa[zH]at this
theorem TOk.dep (h:TOk w T)(t:Ty):0<=ZCB T t/\ZCB T t<=2:=by
 unfold ZCB;split
 ·omega
 ·exact h.rng _
theorem P.YL (h:TOk w T)(ht:tIx w t):F.f47 T t=some (ZCB T t):=by
 unfold F.f47 F.f46 ZCB
 by_cases hn:t.data= -1
 ·rw[iP hn,iP hn]
 ·obtain⟨q1,q2,q3,q4⟩:=ht.resolve_left hn
  have hw:=h.wok.1
  rw[iN hn,iN hn,ZC (n:=t.data*4) (by omega) (by omega),ZC (by omega) (by omega)]
  simp only[oE,oS]
  have hl:(t.data*4+t.index).toNat<T.length:=by rw[h.len];omega
  unfold at?
  rw[iP (by omega),gQ hl,yX,gQ hl]
  rfl
theorem ZLf (hw:ZN w)(ht:tIx w t)(h:c∈ZP w t):∀a,a∈ZK w t c->tIx w a:=by
 have hc:=(Zq hw ht.tOk (ZU h).1).2 _ (ZBY h).2
 have hn:=(ZU h).1
 intro a ha
 obtain⟨b,hb,rfl⟩:=yR.1 ha
 obtain⟨j,hj,rfl⟩:=yW hb
 have:=hc.2.2.2.2 j (by omega) hj
 obtain⟨q1,q2,q3,q4⟩:=ht.resolve_left hn
 unfold ZC7
 rcases this with⟨p1,p2⟩|⟨p1,p2,p3,p4⟩
 ·rw[iN (by omega)];exact .inl p1
 ·split
  ·next e=>
   refine .inr ⟨p1,p2,?_,?_⟩
   ·show 0<=(if(Zc w t c).index=0 then t.index else(Zc w t c).index)
    split
    ·exact q3
    ·exact hc.2.2.1
   ·show(if(Zc w t c).index=0 then t.index else(Zc w t c).index)<=3
    split
    ·exact q4
    ·exact hc.2.2.2.1
  ·next e=>exact .inr ⟨p1,p2,by omega,p4⟩
theorem ZFV {w:List Data}{T:List Int}(h:TOk w T):∀(l:List Ty) (m:Int),0<=m->m<=2->0<=ZB3 T m l/\ZB3 T m l<=3/\(ZB3 T m l≠0->m+1<=ZB3 T m l/\∀a,a∈l->ZCB T a≠0/\ZCB T a+1<=ZB3 T m l)
 | [],m,h0,h2=>⟨by simp only[ZB3];omega,by simp only[ZB3];omega,fun _=>⟨by simp only[ZB3];omega,fun a ha=>by cases ha⟩⟩
 |a::r,m,h0,h2=>by
  have hd:=h.dep a
  simp only[ZB3]
  by_cases ha:ZCB T a=0
  ·rw[iP ha];exact⟨by omega,by omega,fun h=>absurd rfl h⟩
  ·rw[iN ha]
   have hm:∃m',(if m<ZCB T a then ZCB T a else m)=m'/\0<=m'/\m'<=2/\m<=m'/\ZCB T a<=m':=by
    split
    ·exact⟨_,rfl,by omega,by omega,by omega,by omega⟩
    ·exact⟨_,rfl,by omega,by omega,by omega,by omega⟩
   obtain⟨m',e,k0,k2,k3,k4⟩:=hm
   rw[e]
   obtain⟨i1,i2,i3⟩:=ZFV h r m' k0 k2
   refine⟨i1,i2,fun hne=> ?_⟩
   obtain⟨j1,j2⟩:=i3 hne
   refine⟨by omega,fun b hb=> ?_⟩
   rcases xB.1 hb with rfl|hb
   ·exact⟨ha,by omega⟩
   ·exact j2 b hb
def mR (n:Int):Lo Int Int:=if n=0 then .ret 0 else .go (n-1)
theorem P.Yq (h:TOk w T)(l:List Ty)(hl:∀a,a∈l->tIx w a):∀(n k:Nat) (m:Int),l.length-k=n->0<=m->m<=2->
  F.f48 T l m k=some (mR (ZB3 T m (l.drop k))):=by
 intro n
 induction n with
 |zero=>
  intro k m hn h0 h2
  rw[F.f48,iN (by omega),yG (by omega)]
  show some (Lo.go m)=some (mR (m+1))
  unfold mR
  rw[iN (by omega)];congr 2;omega
 |succ n ih=>
  intro k m hn h0 h2
  have hk:k<l.length:=by omega
  have hd:=h.dep l[k]
  rw[F.f48,iP hk,gQ hk]
  simp only[oE,oS]
  rw[P.YL h (hl _ (gM hk)),yF hk]
  simp only[oS,ZB3]
  by_cases ha:ZCB T l[k]=0
  ·rw[iP ha,iP ha];rfl
  ·rw[iN ha,iN ha]
   by_cases hm:m<ZCB T l[k]
   ·rw[iP hm,iP hm,ih _ _ (by omega) (by omega) (by omega)]
   ·rw[iN hm,iN hm,ih _ _ (by omega) (by omega) (by omega)]
theorem P.YAg (h:TOk w T)(ht:tIx w t)(hc:c∈ZP w t):F.f49 w T t c=some (ZCs w T t c):=by
 unfold F.f49
 rw[P.YD w h.wok t ht.tOk c hc]
 simp only[oE,oS]
 rw[P.Yq h _ (ZLf h.wok ht hc) _ 0 0 rfl (by omega) (by omega),yI]
 simp only[oS]
 have:=ZFV h (ZK w t c) 0 (by omega) (by omega)
 unfold ZCs
 unfold mR
 by_cases h0:ZB3 T 0 (ZK w t c)=0
 ·rw[iP h0,h0]
 ·rw[iN h0]
  show some (i64.wrap (ZB3 T 0 (ZK w t c) -1+1))=_
  rw[ZC (by omega) (by omega)];congr 1;omega
def ZC1 (w:List Data)(T:List Int)(t:Ty)(depth:Int)(c:Int):Bool:=decide (0<ZCs w T t c)&& (decide (ZCs w T t c<=depth)||decide (ZCs w T t c=ZCB T t))
theorem P.Yp (h:TOk w T)(ht:tIx w t)(r:ZB)(depth:Int)(l:List Int)(hl:∀c,c∈l->c∈ZP w t)(h8:l.length<=4):∀(n k:Nat) (out:List Int),l.length-k=n->out.length<=k->
  uS r w T t depth l out k=some (out++(l.drop k).filter (ZC1 w T t depth)):=by
 intro n
 induction n with
 |zero=>intro k out hn ho;rw[uS,iN (by omega),yG (by omega)];simp
 |succ n ih=>
  intro k out hn ho
  have hk:k<l.length:=by omega
  rw[uS,iP hk,gQ hk]
  simp only[oE,oS]
  rw[P.YAg h ht (hl _ (gM hk)),yF hk,P.YL h ht]
  simp only[oS]
  have yes:ZC1 w T t depth l[k]=true->uS r w T t depth l (out++[l[k]]) (k+1)=some (out++(l[k]::l.drop (k+1)).filter (ZC1 w T t depth)):=fun hf=>by
   rw[ih (k+1) _ (by omega) (by simp;omega),List.filter_cons_of_pos hf];simp
  have no:ZC1 w T t depth l[k]=false->uS r w T t depth l out (k+1)=some (out++(l[k]::l.drop (k+1)).filter (ZC1 w T t depth)):=fun hf=>by
   rw[ih (k+1) _ (by omega) (by omega),List.filter_cons_of_neg (by simp[hf])]
  by_cases h1:0<ZCs w T t l[k]
  ·rw[iP h1]
   by_cases h2:ZCs w T t l[k]<=depth
   ·rw[iP h2,iP (by omega)];exact yes (by simp[ZC1,h1,h2])
   ·rw[iN h2]
    by_cases h3:ZCs w T t l[k]=ZCB T t
    ·rw[iP h3,iP (by omega)];exact yes (by simp only[ZC1,h1,h3];simp[←h3,h1])
    ·rw[iN h3];exact no (by simp[ZC1,h2,h3])
  ·rw[iN h1];exact no (by simp[ZC1,h1])
theorem ZKJ (hw:ZN w)(ht:tOk w t):(ZP w t).length<=4:=by
 unfold ZP
 split
 ·simp
 ·next hn=>exact zU (ZIU _ _ _) (Zq hw ht hn).1
theorem ZPi (c n:Int)(ks:List Value):(⟨c,n,ks⟩:Value).wt=((ks.map fun k=>1+k.wt).sum):=by
 have:=ZJ8 ⟨c,n,ks⟩
 simpa using this
theorem P.YAz {w:List Data}{T:List Int}(h:TOk w T):∀(n:Nat) (t:Ty) (depth:Int) (K:Nat) (r:ZB),tIx w t->ZCB T t≠0->ZCB T t<=n->depth<=n->-1000000+n<=depth->n<=12->rok K r->K+4^n<=1099511627776->
  ∃v r',kN r w T t depth=some (v,r')/\rok (K+4^n) r'/\pv w false n t v/\v.wt+1<=4^n/\(t.data≠-1->∀a,a∈ZK w t v.ctor->ZCB T a≠0)
 |0,t,depth,K,r,ht,hd,hdn,_,_,_,_,_=>by have:=h.dep t;omega
 |n+1,t,depth,K,r,ht,hd,hdn,hde,hlo,h12,hr,hK=>by
  have p4:1<=4^n:=Nat.one_le_pow _ _ (by omega)
  have p4':4^ (n+1)=4*4^n:=by rw[zL];omega
  rw[kN]
  by_cases hn:t.data= -1
  ·rw[iP hn]
   obtain⟨v,r',e,h1,h2,h3,_⟩:=P.YO hr (by omega) 10
   have h3:=h3 (by omega)
   rw[e]
   refine⟨_,_,rfl,h1.mono (by omega),?_,?_,fun h=>absurd hn h⟩
   ·exact .inr ⟨by simp,.inl ⟨hn,rfl,h2,by show v<=9;omega,rfl⟩⟩
   ·rw[ZPi];simp;omega
  ·rw[iN hn,P.YG w h.wok t ht.tOk]
   simp only[oE,oS]
   rw[P.Yp h ht r depth _ (fun c hc=>hc) (ZKJ h.wok ht.tOk) _ 0 [] rfl (by simp),yI,yM]
   simp only[oS]
   obtain⟨c0,hc0,hm0⟩:=h.has t ht hn hd
   have hdt:=h.dep t
   have hf0:c0∈(ZP w t).filter (ZC1 w T t depth):=xY.2 ⟨hc0,by simp only[ZC1,hm0];simp;omega⟩
   have hpos:=List.length_pos_of_mem hf0
   obtain⟨v,r1,e,h1,h2,h3,_⟩:=P.YO hr (by omega) (((ZP w t).filter (ZC1 w T t depth)).length:Int)
   obtain⟨c,hcx,hcm⟩:=ZE5 h2 (h3 (by omega))
   rw[e];simp only[oS]
   rw[hcx];simp only[oS]
   obtain⟨hcl,hcf⟩:=xY.1 hcm
   simp only[ZC1,uE,uD,decide_eq_true_eq]at hcf
   rw[P.YD w h.wok t ht.tOk c hcl]
   simp only[oS]
   obtain⟨g1,g2,g3⟩:=ZFV h (ZK w t c) 0 (by omega) (by omega)
   have g3:=g3 (by unfold ZCs at hcf;omega)
   have hal:=(ZFn h.wok ht.tOk hcl).1
   have hax:=ZLf h.wok ht hcl
   have hmn:ZCs w T t c<=(n:Int)+1:=by rcases hcf.2 with q|q<;>omega
   have kid:∀a,a∈ZK w t c->∀K r,rok K r->K+4^n<=1099511627776->∃v r',kN r w T a (i64.wrap (depth-1))=some (v,r')/\rok (K+4^n) r'/\pv w false n a v/\v.wt+1<=4^n:=by
    intro a ha K r hr hK
    rw[ZC (by omega) (by omega)]
    obtain⟨q1,q2⟩:=g3.2 a ha
    obtain⟨v,r',e,k1,k2,k3,_⟩:=P.YAz h n a (depth-1) K r (hax a ha) q1 (by unfold ZCs at hmn;omega) (by omega) (by omega) (by omega) hr hK
    exact⟨v,r',e,k1,k2,k3⟩
   have loop:∀(m k:Nat) (z:List Int) (z33:Int) (out:List Value) (K:Nat),(ZK w t c).length-k=m->out.length=k->rok K ⟨z,z33⟩->K+m*4^n<=1099511627776->
     (∀i (hi:i<out.length) (hi':i<(ZK w t c).length),pv w false n (ZK w t c)[i] out[i])->((out.map fun k=>1+k.wt).sum)<=k*4^n->k<=(ZK w t c).length->
     ∃z' z33' out',F.f57 w T depth c (ZK w t c) z z33 out k=some (z',z33',out')/\rok (K+m*4^n) ⟨z',z33'⟩/\out'.length=(ZK w t c).length/\
      (∀i (hi:i<out'.length) (hi':i<(ZK w t c).length),pv w false n (ZK w t c)[i] out'[i])/\((out'.map fun k=>1+k.wt).sum)<=(ZK w t c).length*4^n:=by
    intro m
    induction m with
    |zero=>
     intro k z z33 out K hm ho hr hK hp hs hk
     rw[F.f57,iN (by omega)]
     have:k=(ZK w t c).length:=by omega
     subst this
     exact⟨z,z33,out,rfl,by simpa using hr,ho,hp,hs⟩
    |succ m ih=>
     intro k z z33 out K hm ho hr hK hp hs hkl
     have hk:k<(ZK w t c).length:=by omega
     rw[F.f57,iP hk,gQ hk]
     simp only[oE,oS]
     have e1:(m+1)*4^n=m*4^n+4^n:=by rw[yB]
     obtain⟨v,r',e,k1,k2,k3⟩:=kid _ (gM hk) K ⟨z,z33⟩ hr (by omega)
     rw[e];simp only[oS]
     rw[iP (by omega)]
     have e2:(k+1)*4^n=k*4^n+4^n:=by rw[yB]
     have key:=fun p1 p2=>ih (k+1) r'.f0 r'.f1 (out++[v]) (K+4^n) (by omega) (by simp[ho]) k1 (by omega) p1 p2 hk
     obtain⟨z',z33',out',q1,q2,q3⟩:=key (by
      intro i hi hi'
      by_cases hik:i<out.length
      ·rw[vF hik];exact hp i hik hi'
      ·have:i=k:=by simp at hi;omega
       subst this
       rw[xU (by omega)]
       simpa using k2) (by
      simp only[yS,List.sum_append,yJ,xO,xL,List.sum_nil];omega)
     exact⟨z',z33',out',q1,q2.mono (by omega),q3⟩
   have m3:(ZK w t c).length*4^n<=3*4^n:=zD _ hal
   obtain⟨z',z33',out',q1,q2,q3,q4,q5⟩:=loop _ 0 r1.f0 r1.f1 [] (K+1) rfl rfl h1 (by simp only[yC];omega) (fun i hi=>by simp at hi) (by simp) (by omega)
   rw[q1];simp only[oS]
   refine⟨_,_,rfl,q2.mono (by simp only[yC];omega),?_,?_,fun _ a ha=>(g3.2 a ha).1⟩
   ·refine .inr ⟨by simp,.inr ⟨hn,rfl,hcl,q3,fun i _ _ hi hi'=>q4 i hi' hi⟩⟩
   ·rw[ZPi];omega
theorem P.YBJ (h:TOk w T)(n:Nat)(t:Ty)(depth:Int)(K:Nat)(r:ZB)(a1:tIx w t)(a2:ZCB T t≠0)(a3:ZCB T t<=n)(a4:depth<=n)(a5: -1000000+n<=depth)(a6:n<=12)(a7:rok K r)(a8:K+4^n<=1099511627776):
  ∃v r',kN r w T t depth=some (v,r')/\rok (K+4^n) r'/\pv w false n t v/\v.wt+1<=4^n:=by
 obtain⟨v,r',e,k1,k2,k3,_⟩:=P.YAz h n t depth K r a1 a2 a3 a4 a5 a6 a7 a8
 exact⟨v,r',e,k1,k2,k3⟩
theorem ZLy (hw:w∈ZAr):ZN w/\1<=w.length/\w.length<=2/\ZAD w/\∃T,uI w=some T/\TOk w T:=by
 have hs:=ZDC hw
 have wok:F.f24 w=some true->ZN w:=fun h=>by rw[P.YM w hs]at h;exact ZD2.1 (Option.some.inj h)
 simp only[ZAr,xB,vN,or_false]at hw
 rcases hw with rfl|rfl|rfl|rfl|rfl|rfl|rfl
 ·have:=wok (E.f24_le 100 _ _ (by kernel_rfl));exact⟨this,by decide,by decide,hs,_,ZNR,TOk.of this (by decide)⟩
 ·have:=wok (E.f24_le 100 _ _ (by kernel_rfl));exact⟨this,by decide,by decide,hs,_,ZNP,TOk.of this (by decide)⟩
 ·have:=wok (E.f24_le 100 _ _ (by kernel_rfl));exact⟨this,by decide,by decide,hs,_,ZNN,TOk.of this (by decide)⟩
 ·have:=wok (E.f24_le 100 _ _ (by kernel_rfl));exact⟨this,by decide,by decide,hs,_,ZNL,TOk.of this (by decide)⟩
 ·have:=wok (E.f24_le 100 _ _ (by kernel_rfl));exact⟨this,by decide,by decide,hs,_,ZNJ,TOk.of this (by decide)⟩
 ·have:=wok (E.f24_le 100 _ _ (by kernel_rfl));exact⟨this,by decide,by decide,hs,_,ZNH,TOk.of this (by decide)⟩
 ·have:=wok (E.f24_le 100 _ _ (by kernel_rfl));exact⟨this,by decide,by decide,hs,_,ZNF,TOk.of this (by decide)⟩
theorem P.YBI (h:rok K r)(hK:K+300<=1099511627776):∃w t v r' T,F.f58 r=some (w,t,v,r')/\rok (K+300) r'/\w∈ZAr/\uI w=some T/\TOk w T/\tIx w t/\t.index<=2/\0<=t.index/\ZCB T t≠0/\pv w false 4 t v/\v.wt+1<=256/\(t.data= -1->t.index=0):=by
 unfold F.f58
 obtain⟨w,r1,e1,h1,hw⟩:=P.YBQ h (by omega)
 obtain⟨hwo,hl1,hl2,hs,T,hT,hTo⟩:=ZLy hw
 obtain⟨p,r2,e2,h2,p0,p1,_⟩:=P.YO h1 (by omega) (w.length:Int)
 obtain⟨i,r3,e3,h3,hi⟩:=P.num h2 (by omega) [0,0,1,2] (by simp)
 obtain⟨d,r4,e4,h4,hd⟩:=P.num h3 (by omega) [3,2,4,1] (by simp)
 have hi:0<=i/\i<=2:=by simp at hi;omega
 have hd:1<=d/\d<=4:=by simp at hd;omega
 have p1:=p1 (by omega)
 have ht:tIx w ⟨p,i⟩:=.inr ⟨p0,p1,hi.1,by show i<=3;omega⟩
 rw[e1];simp only[oE,oS]
 rw[hT];simp only[oS]
 rw[e2];simp only[oS]
 rw[e3];simp only[oS]
 rw[P.YL hTo ht,e4];simp only[oS]
 split
 ·obtain⟨v,r',e,k1,k2,k3⟩:=P.YBJ hTo 4 ⟨-1,0⟩ d _ r4 (.inl rfl) (by simp[ZCB]) (by simp[ZCB]) (by omega) (by omega) (by omega) h4 (by omega)
  rw[e]
  exact⟨w,⟨-1,0⟩,v,r',T,rfl,k1.mono (by omega),hw,hT,hTo,.inl rfl,by simp,by simp,by simp[ZCB],k2,k3,fun _=>rfl⟩
 ·next hne=>
  have:=hTo.dep ⟨p,i⟩
  obtain⟨v,r',e,k1,k2,k3⟩:=P.YBJ hTo 4 ⟨p,i⟩ d _ r4 ht hne (by omega) (by omega) (by omega) (by omega) h4 (by omega)
  rw[e]
  exact⟨w,⟨p,i⟩,v,r',T,rfl,k1.mono (by omega),hw,hT,hTo,ht,hi.2,hi.1,hne,k2,k3,fun hh=>by have:p= -1:=hh;omega⟩
theorem ZH0 {a:List Int}{L:Nat->Option (Lo Bool Unit)}(hl:a.length=b.length)(hL:∀i,L i=if i<a.length then a[i]? >>=fun x=>b[i]? >>=fun y=>if x=y then L (i+1)else some (.ret false)else some (.go ())):
  L 0=some (if dec (a=b)=true then .go ()else .ret false):=by
 rw[ZIw (n:=a.length) (r:=false) (Q:=fun i=>∀(h:i<a.length) (h':i<b.length),a[i]=b[i]) (L:=L)
  (fun k hk=>by rw[hL,iN (by omega)])
  (fun k hk hq=>by
   rw[hL,iP hk,gQ hk,gQ (show k<b.length by omega)]
   simp only[oE,oS]
   rw[iP (hq hk (by omega))])
  (fun k hk hq=>by
   rw[hL,iP hk,gQ hk,gQ (show k<b.length by omega)]
   simp only[oE,oS]
   rw[iN fun h=>hq fun _ _=>h]) _ 0 rfl]
 have:(∀j,0<=j->j<a.length->∀(h:j<a.length) (h':j<b.length),a[j]=b[j])↔a=b:=
  ⟨fun h=>vO hl fun i hi hi'=>h i (by omega) hi hi hi',fun e=>by subst e;exact fun _ _ _ _ _=>rfl⟩
 rw[ZL this]
theorem P.Yg (a b:List Int):F.f174 a b=some (dec (a=b)):=by
 unfold F.f174
 by_cases hl:a.length=b.length
 ·rw[iP hl,ZH0 hl (L:=F.f173 a b) (fun i=>by rw[F.f173])]
  by_cases h:a=b
  ·rw[iP (ZF h),ZF h];rfl
  ·rw[iN (by rw[ZD h];simp),ZD h];rfl
 ·rw[iN hl,ZD fun h=>hl (by rw[h])]
theorem P.Ym (a b:List Int):F.f242 a b=some (dec (a=b)):=by
 unfold F.f242
 by_cases hl:a.length=b.length
 ·rw[iP hl,ZH0 hl (L:=F.f241 a b) (fun i=>by rw[F.f241])]
  by_cases h:a=b
  ·rw[iP (ZF h),ZF h];rfl
  ·rw[iN (by rw[ZD h];simp),ZD h];rfl
 ·rw[iN hl,ZD fun h=>hl (by rw[h])]
noncomputable def ZES (l:List VarType)(n:Int):Int:=match ZGh (fun x=>x.var=n) 0 l with
 |some j=>(j:Int)
 |none=> -1
theorem P.YI (l:List VarType)(n:Int):F.f79 l n=some (ZES l n):=by
 unfold F.f79 ZES
 rw[ZLH (a:=l) (p:=fun x=>x.var=n) (L:=kH l n) (fun k hk=>by rw[kH,iN (by omega)])
  (fun k hk hp=>by rw[kH,iP hk,gQ hk];simp only[oE,oS];rw[iN hp])
  (fun k hk hp=>by rw[kH,iP hk,gQ hk];simp only[oE,oS];rw[iP hp]) _ 0 rfl,yI]
 cases ZGh (fun x=>x.var=n) 0 l<;>rfl
theorem ZB8 (l:List VarType)(n:Int):ZES l n= -1∨∃(j:Nat) (h:j<l.length),ZES l n=(j:Int)/\l[j].var=n/\∀i (hi:i<l.length),i<j->l[i].var≠n:=by
 unfold ZES
 cases h:ZGh (fun x:VarType=>x.var=n) 0 l with
 |none=>exact .inl rfl
 |some j=>
  obtain⟨_,h2,h3,h4⟩:=ZAi h
  exact .inr ⟨j,h2,rfl,h3,h4⟩
theorem ZEw (l:List VarType)(j:Nat)(hj:j<l.length):ZES l l[j].var=(j:Int)↔∀i (hi:i<l.length),i<j->l[i].var≠l[j].var:=by
 constructor
 ·intro h
  rcases ZB8 l l[j].var with q|⟨k,hk,q1,q2,q3⟩
  ·omega
  ·have:k=j:=by omega
   subst this;exact q3
 ·intro h
  unfold ZES
  cases hf:ZGh (fun x:VarType=>x.var=l[j].var) 0 l with
  |none=>exact absurd rfl (ZAj hf l[j] (gM hj))
  |some k=>
   obtain⟨_,h2,h3,h4⟩:=ZAi hf
   show(k:Int)=j
   have:¬k<j:=fun hlt=>h k h2 hlt h3
   have:¬j<k:=fun hlt=>h4 j hj (by omega) rfl
   omega
theorem P.YBY (v:Int):F.f113 v=some (dec (0<=v/\v<=5)):=by
 unfold F.f113;rw[P.YE];rfl
theorem ZE7 (hw:ZN w)(ht:Ze w t)(h:c∈ZP w t):∀a,a∈ZK w t c->Ze w a:=by
 have hc:=(Zq hw (ZBI ht.1) (ZU h).1).2 _ (ZBY h).2
 have hn:=(ZU h).1
 intro a ha
 obtain⟨b,hb,rfl⟩:=yR.1 ha
 obtain⟨j,hj,rfl⟩:=yW hb
 have:=hc.2.2.2.2 j (by omega) hj
 have ht2:=ht.2
 rcases ht.1 with q|⟨q1,q2,q3,q4⟩
 ·exact absurd q.1 hn
 unfold ZC7
 rcases this with⟨p1,p2⟩|⟨p1,p2,p3,p4⟩
 ·rw[iN (by omega)];exact⟨.inl ⟨p1,p2⟩,by omega⟩
 ·split
  ·next e=>
   have hx:0<=(if(Zc w t c).index=0 then t.index else(Zc w t c).index)/\(if(Zc w t c).index=0 then t.index else(Zc w t c).index)<=3:=by
    split
    ·exact⟨ht2,q4⟩
    ·exact⟨hc.2.2.1,hc.2.2.2.1⟩
   exact⟨.inr ⟨p1,p2,by show -1<=(if(Zc w t c).index=0 then t.index else(Zc w t c).index);omega,hx.2⟩,hx.1⟩
  ·next e=>exact⟨.inr ⟨p1,p2,p3,p4⟩,by omega⟩
def ZAo (w:List Data)(t:Ty)(p:Pattern):Prop:=
 (p.op=1/\p.var=0/\p.n=0/\p.m=0/\p.ctor=0)∨
 (p.op=2/\0<=p.var/\p.var<=5/\p.n=0/\p.m=0/\p.ctor=0)∨
 (p.op=3/\p.var=0/\p.ctor=0/\t.data= -1/\0<=p.n/\p.n<=p.m/\p.m<=9)∨
 (p.op=4/\p.var=0/\p.n=0/\p.m=0/\p.ctor∈ZP w t)∨
 (p.op=5/\p.var=0/\p.n=0/\p.m=0/\p.ctor=0)∨
 (p.op=6/\0<=p.var/\p.var<=5/\p.n=0/\p.m=0/\p.ctor=0)
noncomputable def ZG (w:List Data)(t:Ty)(p:Pattern):List Ty:=if p.op=4 then ZK w t p.ctor else if p.op=5 then[t,t]else if p.op=6 then[t]else[]
theorem P.YAl (w:List Data)(hw:ZN w)(t:Ty)(ht:tOk w t)(p:Pattern):F.f66 w t p=some (dec (ZAo w t p)):=by
 unfold F.f66
 rw[P.YG w hw t ht]
 simp only[oE,oS,P.Yr]
 have yes:ZAo w t p->some true=some (dec (ZAo w t p)):=fun h=>by rw[ZF h]
 have no:¬ZAo w t p->some false=some (dec (ZAo w t p)):=fun h=>by rw[ZD h]
 repeat' split
 all_goals first
  |(refine no fun h=> ?_;unfold ZAo at h;omega)
  |(refine yes ?_;unfold ZAo;omega)
  |skip
 ·rw[←Zv];congr 1;refine ZL ?_;unfold ZAo;omega
 ·congr 1;refine ZL ⟨fun h=>.inr (.inr (.inr (.inl ⟨by assumption,by assumption,by assumption,by assumption,h⟩))),fun h=> ?_⟩
  unfold ZAo at h
  rcases h with h|h|h|h|h|h
  ·omega
  ·omega
  ·omega
  ·exact h.2.2.2.2
  ·omega
  ·omega
theorem P.YJ (w:List Data)(hw:ZN w)(t:Ty)(ht:tOk w t)(p:Pattern)(h:ZAo w t p):F.f69 w t p=some (ZG w t p):=by
 unfold F.f69 ZG
 by_cases h4:p.op=4
 ·rw[iP h4,iP h4]
  have hc:p.ctor∈ZP w t:=by
   unfold ZAo at h
   rcases h with h|h|h|h|h|h
   ·omega
   ·omega
   ·omega
   ·exact h.2.2.2.2
   ·omega
   ·omega
  rw[P.YD w hw t ht _ hc];rfl
 ·rw[iN h4,iN h4]
  have k:F.f67 p.op=some (if p.op=5 then 2 else if p.op=6 then 1 else 0):=by
   unfold F.f67;split
   ·rfl
   ·split
    ·rfl
    ·rfl
  by_cases h5:p.op=5
  ·rw[iP h5]
   rw[iP h5]at k
   rw[uO,k]
   simp only[oE,oS]
   rw[iP (by omega),iP (by simp),iP (by omega),uO,k]
   simp only[oE,oS]
   rw[iP (by omega),iP (by simp),iP (by omega),uO,k]
   simp only[oE,oS]
   rw[iN (by omega)];simp
  ·rw[iN h5]
   rw[iN h5]at k
   by_cases h6:p.op=6
   ·rw[iP h6]
    rw[iP h6]at k
    rw[uO,k]
    simp only[oE,oS]
    rw[iP (by omega),iP (by simp),iP (by omega),uO,k]
    simp only[oE,oS]
    rw[iN (by omega)];simp
   ·rw[iN h6]
    rw[iN h6]at k
    rw[uO,k]
    simp only[oE,oS]
    rw[iN (by omega)];simp
variable {p:Pattern}
theorem ZA3 (hw:ZN w)(ht:Ze w t)(h:ZAo w t p):∀a,a∈ZG w t p->Ze w a:=by
 unfold ZG
 intro a ha
 split at ha
 ·next h4=>
  have hc:p.ctor∈ZP w t:=by
   unfold ZAo at h
   rcases h with h|h|h|h|h|h
   ·omega
   ·omega
   ·omega
   ·exact h.2.2.2.2
   ·omega
   ·omega
  exact ZE7 hw ht hc a ha
 ·split at ha
  ·simp at ha;subst ha;exact ht
  ·split at ha
   ·simp at ha;subst ha;exact ht
   ·cases ha
theorem P.YA9 (p:Pattern)(c n v:Bool)(k:Int):F.f112 p c n v k=some (dec ((c=true∨p.ctor=0)/\(n=true∨(p.n=0/\p.m=0))/\(v=true∨p.var=0)/\(p.kids.length:Int)=k)):=by
 unfold F.f112
 cases c<;>cases n<;>cases v<;>simp only[uC,if_true,if_false,false_or,true_or,true_and]
 all_goals(repeat' split)
 all_goals first
  |(rw[←Zv];done)
  |(rw[←Zv];congr 1;refine ZL ?_;omega)
  |(rw[ZD];omega)
theorem P.YAq (w:List Data)(hw:ZN w)(t:Ty)(ht:tOk w t)(p:Pattern):
  ∃ts,F.f122 w t p=some (ts,dec (ZAo w t p/\p.kids.length=(ZG w t p).length))/\(ZAo w t p->ts=ZG w t p):=by
 unfold F.f122
 simp only[P.YA9,P.YBY,P.Yc w hw t ht,P.YF,oE,oS,ZD2]
 by_cases h1:p.op=1
 ·rw[iP h1]
  have e:ZG w t p=[]:=by unfold ZG;rw[iN (by omega),iN (by omega),iN (by omega)]
  rw[e]
  refine⟨[],?_,fun _=>rfl⟩
  congr 2;refine ZL ?_;unfold ZAo;simp only[uC,false_or,yQ];omega
 rw[iN h1]
 by_cases h2:p.op=2
 ·rw[iP h2]
  have e:ZG w t p=[]:=by unfold ZG;rw[iN (by omega),iN (by omega),iN (by omega)]
  rw[e]
  refine⟨[],?_,fun _=>rfl⟩
  split
  ·next hh=>
   simp only[uC,false_or,true_or,true_and]at hh
   congr 2;refine ZL ?_;unfold ZAo;simp only[yQ,yO];omega
  ·next hh=>
   simp only[uC,false_or,true_or,true_and]at hh
   rw[ZD];unfold ZAo;simp only[yQ,yO];omega
 rw[iN h2]
 by_cases h3:p.op=3
 ·rw[iP h3]
  have e:ZG w t p=[]:=by unfold ZG;rw[iN (by omega),iN (by omega),iN (by omega)]
  rw[e]
  refine⟨[],?_,fun _=>rfl⟩
  simp only[uC,false_or,true_or,true_and,yQ]
  repeat' split
  all_goals first
   |(rw[←Zv];congr 2;refine ZL ?_;unfold ZAo;omega)
   |(rw[ZD];unfold ZAo;omega)
 rw[iN h3]
 by_cases h4:p.op=4
 ·rw[iP h4]
  have e:ZG w t p=ZK w t p.ctor:=by unfold ZG;rw[iP h4]
  rw[e]
  by_cases hc:p.ctor∈ZP w t
  ·rw[iP hc,P.YV w hw t ht _ hc]
   simp only[oS]
   refine⟨ZK w t p.ctor,?_,fun _=>rfl⟩
   congr 2;refine ZL ⟨fun h=>⟨.inr (.inr (.inr (.inl ⟨h4,?_,?_,?_,hc⟩))),?_⟩,fun h=> ?_⟩
   ·simp at h;exact h.2.1
   ·simp at h;exact h.1.1
   ·simp at h;exact h.1.2
   ·simp at h;omega
   ·obtain⟨h,hl⟩:=h
    unfold ZAo at h
    rcases h with h|h|h|h|h|h
    ·omega
    ·omega
    ·omega
    ·exact⟨.inl trivial,.inr ⟨h.2.2.1,h.2.2.2.1⟩,.inr h.2.1,by omega⟩
    ·omega
    ·omega
  ·rw[iN hc]
   have hn:¬ZAo w t p:=by
    intro h
    unfold ZAo at h
    rcases h with h|h|h|h|h|h
    ·omega
    ·omega
    ·omega
    ·exact hc h.2.2.2.2
    ·omega
    ·omega
   exact⟨[],by rw[ZD fun h=>hn h.1],fun h=>absurd h hn⟩
 rw[iN h4]
 by_cases h5:p.op=5
 ·rw[iP h5]
  have e:ZG w t p=[t,t]:=by unfold ZG;rw[iN (by omega),iP (by omega)]
  rw[e]
  refine⟨[t,t],?_,fun _=>rfl⟩
  congr 2;refine ZL ?_;unfold ZAo;simp only[uC,false_or,yQ,yO];omega
 rw[iN h5]
 by_cases h6:p.op=6
 ·rw[iP h6]
  have e:ZG w t p=[t]:=by unfold ZG;rw[iN (by omega),iN (by omega),iP (by omega)]
  rw[e]
  refine⟨[t],?_,fun _=>rfl⟩
  split
  ·next hh=>
   simp only[uC,false_or,true_or,true_and]at hh
   congr 2;refine ZL ?_;unfold ZAo;simp only[yQ,yO];omega
  ·next hh=>
   simp only[uC,false_or,true_or,true_and]at hh
   rw[ZD];unfold ZAo;simp only[yQ,yO];omega
 rw[iN h6]
 have hn:¬ZAo w t p:=by unfold ZAo;omega
 exact⟨[],by rw[ZD fun h=>hn h.1],fun h=>absurd h hn⟩
def Zj (w:List Data):Nat->Ty->Pattern->Prop
 |0,_,_=>False
 |d+1,t,p=>ZAo w t p/\p.kids.length=(ZG w t p).length/\∀i,0<=i->i<(ZG w t p).length->∀(h:i<(ZG w t p).length) (h':i<p.kids.length),Zj w d (ZG w t p)[i] p.kids[i]
theorem P.YK (w:List Data)(hw:ZN w):∀(d:Nat) (t:Ty) (p:Pattern),Ze w t->d<=10->kL w t p d=some (dec (Zj w d t p))
 |0,t,p,ht,hd=>by rw[kL,iP (by omega),ZD (by simp[Zj])]
 |d+1,t,p,ht,hd=>by
  rw[kL,iN (by omega),P.YAl w hw t (ZBI ht.1)]
  simp only[oE,oS]
  by_cases ho:ZAo w t p
  ·rw[iP (ZF ho),P.YJ w hw t (ZBI ht.1) p ho]
   simp only[oS]
   have hts:=ZA3 hw ht ho
   by_cases h4:p.kids.length=(ZG w t p).length
   ·rw[iP h4,ZIw (n:=(ZG w t p).length) (r:=false) (Q:=fun i=>∀(h:i<(ZG w t p).length) (h':i<p.kids.length),Zj w d (ZG w t p)[i] p.kids[i]) (L:=kK w p ((d+1:Nat):Int) (ZG w t p))
     (fun k hk=>by rw[kK,iN (by omega)])
     (fun k hk hq=>by
      have hk':k<p.kids.length:=by omega
      rw[kK,iP hk,gQ hk,gQ hk']
      simp only[oE,oS]
      rw[ZC (by omega) (by omega),show((d+1:Nat):Int) -1=(d:Int)from by omega,P.YK w hw d _ _ (hts _ (gM hk)) (by omega)]
      simp only[oS]
      rw[iP (ZF (hq hk hk'))])
     (fun k hk hq=>by
      have hk':k<p.kids.length:=by omega
      rw[kK,iP hk,gQ hk,gQ hk']
      simp only[oE,oS]
      rw[ZC (by omega) (by omega),show((d+1:Nat):Int) -1=(d:Int)from by omega,P.YK w hw d _ _ (hts _ (gM hk)) (by omega)]
      simp only[oS]
      rw[iN (by rw[ZD fun h=>hq fun _ _=>h];simp)]) _ 0 rfl]
    simp only[oS]
    by_cases hall:∀i,0<=i->i<(ZG w t p).length->∀(h:i<(ZG w t p).length) (h':i<p.kids.length),Zj w d (ZG w t p)[i] p.kids[i]
    ·rw[iP (ZF hall),ZF ⟨ho,h4,hall⟩]
    ·rw[iN (by rw[ZD hall];simp),ZD fun h=>hall h.2.2]
   ·rw[iN h4,ZD fun h=>h4 h.2.1]
  ·rw[iN (by rw[ZD ho];simp),ZD fun h=>ho h.1]
theorem P.YA7 (v:Pattern)(hv:v.wt<=1048576):∀(most:Nat),most<=60->∃c:Nat,F.f72 v most=some (c:Int)/\1<=c/\c<=1+v.wt/\(1+v.wt<=most->c=1+v.wt)/\(most<1+v.wt->most<c):=by
 induction v using Pattern.ind with
 |_ v ih=>
  intro most hm
  have hw:=v.wt_eq
  have key:∀(m i:Nat) (n:Nat),v.kids.length-i=m->1<=n->n+((v.kids.drop i).map fun k=>1+k.wt).sum<=1+v.wt->
    ∃c:Nat,kJ v most n i=some (c:Int)/\n<=c/\c<=n+((v.kids.drop i).map fun k=>1+k.wt).sum/\(n+((v.kids.drop i).map fun k=>1+k.wt).sum<=most->c=n+((v.kids.drop i).map fun k=>1+k.wt).sum)/\(most<n+((v.kids.drop i).map fun k=>1+k.wt).sum->most<c):=by
   intro m
   induction m with
   |zero=>
    intro i n hmi hn hb
    rw[kJ,iN (by omega),yG (by omega)]
    exact⟨n,rfl,by omega,by simp,by simp,by simp⟩
   |succ m ih2=>
    intro i n hmi hn hb
    have hi:i<v.kids.length:=by omega
    rw[yF hi]at hb ⊢
    simp only[yJ,xL]at hb ⊢
    rw[kJ,iP hi]
    by_cases hle:n<=most
    ·rw[iP (by omega),gQ hi]
     simp only[oE,oS]
     have hk:v.kids[i].wt<=1048576:=by omega
     obtain⟨c,h1,h2,h3,h4,h5⟩:=ih v.kids[i] (gM hi) hk (most-n) (by omega)
     rw[ZC (by omega) (by omega),show((most:Int) - (n:Int))=((most-n:Nat):Int)from by omega,h1]
     simp only[oS]
     rw[ZC (by omega) (by omega),show((n:Int)+(c:Int))=((n+c:Nat):Int)from by omega]
     obtain⟨c',g1,g2,g3,g4,g5⟩:=ih2 (i+1) (n+c) (by omega) (by omega) (by omega)
     refine⟨c',g1,by omega,by omega,fun h=> ?_,fun h=> ?_⟩
     ·have:=h4 (by omega)
      have:=g4 (by omega)
      omega
     ·by_cases hx:1+v.kids[i].wt<=most-n
      ·have:=h4 hx
       exact g5 (by omega)
      ·have:=h5 (by omega)
       omega
    ·rw[iN (by omega)]
     exact⟨n,rfl,by omega,by omega,fun h=>by omega,fun h=>by omega⟩
  have hs:((v.kids.drop 0).map fun k=>1+k.wt).sum=v.wt:=by
   rw[yI,hw]
   have:∀l:List Pattern,(l.map fun k=>1+k.wt).sum=wtL Pattern.wt l:=by
    intro l
    induction l with
    |nil=>rfl
    |cons a r ih=>simp[ih]
   exact this _
  obtain⟨c,h1,h2,h3,h4,h5⟩:=key _ 0 1 rfl (by omega) (by omega)
  rw[hs]at h3 h4 h5
  unfold F.f72
  have h1':kJ v most 1 0=some (c:Int):=h1
  rw[h1']
  exact⟨c,rfl,by omega,h3,h4,h5⟩
theorem ZIJ (v:Pattern):v.wt=((v.kids.drop 0).map fun k=>1+k.wt).sum:=by
 rw[yI,v.wt_eq]
 have:∀l:List Pattern,(l.map fun k=>1+k.wt).sum=wtL Pattern.wt l:=by
  intro l
  induction l with
  |nil=>rfl
  |cons a r ih=>simp[ih]
 exact(this _).symm
noncomputable def ZV (w:List Data):Nat->Ty->Pattern->List VarType
 |0,_,_=>[]
 |d+1,t,p=>(if p.op=2∨p.op=6 then[⟨p.var,t⟩]else[])++(((ZG w t p).zip p.kids).take (if p.op=5 then 1 else p.kids.length)).flatMap fun x=>ZV w d x.1 x.2
theorem ZGg {f:Ty×Pattern->List VarType}(hf:∀x,(f x).length<=1+x.2.wt):∀(ts:List Ty) (ks:List Pattern) (n:Nat),(((ts.zip ks).take n).flatMap f).length<=wtL Pattern.wt ks
 | [],ks,n=>by simp
 |t::ts,[],n=>by simp
 |t::ts,k::ks,0=>by simp
 |t::ts,k::ks,n+1=>by
  have h1:=ZGg hf ts ks n
  have h2:=hf (t,k)
  simp only[xN,vC,yU,yH,ZAq]at h1 h2 ⊢
  omega
theorem ZBT (w:List Data):∀(d:Nat) (t:Ty) (p:Pattern),(ZV w d t p).length<=1+p.wt
 |0,t,p=>by simp[ZV]
 |d+1,t,p=>by
  have:=ZGg (f:=fun x=>ZV w d x.1 x.2) (fun x=>ZBT w d x.1 x.2) (ZG w t p) p.kids (if p.op=5 then 1 else p.kids.length)
  rw[ZV,yH,p.wt_eq]
  have h1:(if p.op=2∨p.op=6 then[(⟨p.var,t⟩:VarType)]else[]).length<=1:=by split<;>simp
  omega
theorem ZDe {ts:List Ty}(hl:p.kids.length=ts.length)(h5:p.op≠5){f:Ty×Pattern->List VarType}{L:List VarType->Nat->Option (List VarType)}(hL:∀out i,L out i=if i<ts.length then(if i=0 then ts[i]? >>=fun x=>p.kids[i]? >>=fun y=>uK out w x y>>=fun v=>L v (i+1)else(if p.op=5 then some out else ts[i]? >>=fun x=>p.kids[i]? >>=fun y=>uK out w x y>>=fun v=>L v (i+1)))else some out)(hf:∀x:Ty×Pattern,(f x).length<=1+x.2.wt)(ih:∀i (h:i<ts.length) (h':i<p.kids.length) (out:List VarType),out.length+(1+p.kids[i].wt)<=67108864->uK out w ts[i] p.kids[i]=some (out++f (ts[i],p.kids[i]))):
  ∀(m i:Nat) (out:List VarType),ts.length-i=m->out.length+((p.kids.drop i).map fun k=>1+k.wt).sum<=67108864->L out i=some (out++((ts.zip p.kids).drop i).flatMap f):=by
 intro m
 induction m with
 |zero=>
  intro i out hm hb
  rw[hL,iN (by omega),yG (by simp;omega)];simp
 |succ m ihm=>
  intro i out hm hb
  have hi:i<ts.length:=by omega
  have hi':i<p.kids.length:=by omega
  rw[yF hi']at hb
  simp only[yJ,xL]at hb
  have e:(ts[i]? >>=fun x=>p.kids[i]? >>=fun y=>uK out w x y>>=fun v=>L v (i+1))=some (out++((ts.zip p.kids).drop i).flatMap f):=by
   rw[gQ hi,gQ hi']
   simp only[oE,oS]
   rw[ih i hi hi' out (by omega)]
   simp only[oS]
   have:=hf (ts[i],p.kids[i])
   simp only at this
   rw[ihm (i+1) _ (by omega) (by rw[yH];omega),yF (l:=ts.zip p.kids) (i:=i) (by simp;omega)]
   simp
  rw[hL,iP hi,iN h5,e]
  split<;>rfl
theorem Zy (h:ZAo w t p)(h5:p.op=5):ZG w t p=[t,t]:=by unfold ZG;rw[iN (by omega),iP h5]
theorem P.YA (w:List Data)(hw:ZN w):∀(d:Nat) (t:Ty) (p:Pattern) (out:List VarType),Ze w t->Zj w d t p->out.length+(1+p.wt)<=67108864->uK out w t p=some (out++ZV w d t p)
 |0,t,p,out,ht,hs,hb=>hs.elim
 |d+1,t,p,out,ht,hs,hb=>by
  obtain⟨ho,hl,hk⟩:=hs
  have hts:=ZA3 hw ht ho
  have hsum:=ZIJ p
  have ih:∀i (h:i<(ZG w t p).length) (h':i<p.kids.length) (out:List VarType),out.length+(1+p.kids[i].wt)<=67108864->uK out w (ZG w t p)[i] p.kids[i]=some (out++(fun x:Ty×Pattern=>ZV w d x.1 x.2) ((ZG w t p)[i],p.kids[i])):=
   fun i h h' out hb=>P.YA w hw d _ _ out (hts _ (gM h)) (hk i (by omega) h h h') hb
  have hf:∀x:Ty×Pattern,((fun x:Ty×Pattern=>ZV w d x.1 x.2) x).length<=1+x.2.wt:=fun x=>ZBT w d x.1 x.2
  have full:∀n,p.kids.length<=n->((ZG w t p).zip p.kids).take n=(ZG w t p).zip p.kids:=fun n hn=>yL (by simp;omega)
  rw[uK,P.YJ w hw t (ZBI ht.1) p ho]
  simp only[oE,oS]
  by_cases h2:p.op=2
  ·rw[iP h2,iP (by omega),ZDe (f:=fun x=>ZV w d x.1 x.2) (L:=F.f77 w p (ZG w t p)) hl (by omega) (fun out i=>by rw[F.f77]) hf ih _ 0 _ rfl (by simp at hsum ⊢;omega)]
   simp only[oS]
   rw[ZV,iP (.inl h2),iN (by omega),full _ (zA _)];simp
  ·rw[iN h2]
   by_cases h6:p.op=6
   ·rw[iP h6,iP (by omega),ZDe (f:=fun x=>ZV w d x.1 x.2) (L:=F.f75 w p (ZG w t p)) hl (by omega) (fun out i=>by rw[F.f75]) hf ih _ 0 _ rfl (by simp at hsum ⊢;omega)]
    simp only[oS]
    rw[ZV,iP (.inr h6),iN (by omega),full _ (zA _)];simp
   ·rw[iN h6]
    by_cases h5:p.op=5
    ·have et:=Zy ho h5
     rw[et]at hl
     have h0:0<p.kids.length:=by rw[hl];simp
     have h0':0<(ZG w t p).length:=by rw[et];simp
     have hw0:1+p.kids[0].wt<=p.wt:=by
      rw[hsum,yI]
      obtain⟨a,r,e⟩:=xF h0
      simp[e]
     have e0:=ih 0 h0' h0 out (by omega)
     rw[kI,iP h0',iP rfl,gQ h0',gQ h0]
     simp only[oE,oS]
     rw[e0]
     simp only[oS]
     rw[kI,iP (by rw[et];simp),iN (by omega),iP h5]
     simp only[oS]
     rw[ZV,iN (by omega),iP h5]
     have e1:((ZG w t p).zip p.kids).take 1=[((ZG w t p)[0],p.kids[0])]:=by
      obtain⟨a,r,e⟩:=xF h0
      obtain⟨b,r',e'⟩:=xF h0'
      simp[e,e']
     rw[e1];simp
    ·rw[ZDe (f:=fun x=>ZV w d x.1 x.2) (L:=kI w p (ZG w t p)) hl h5 (fun out i=>by rw[kI]) hf ih _ 0 _ rfl (by simp at hsum ⊢;omega)]
     simp only[oS]
     rw[ZV,iN (by omega),iN h5,full _ (zA _)];simp
def ZG5 (l:List VarType):Prop:=(l.map VarType.var).Nodup
def ZHK (a b:List VarType):Prop:=a.length=b.length/\∀x,x∈a->x∈b
theorem ZFU (l:List VarType):ZG5 l↔∀i j (hi:i<l.length) (hj:j<l.length),i<j->l[i].var≠l[j].var:=by
 unfold ZG5 List.Nodup
 rw[List.pairwise_map,List.pairwise_iff_getElem]
theorem ZEx {l:List VarType}{n:Int}(h:ZES l n= -1):∀x,x∈l->x.var≠n:=by
 unfold ZES at h
 cases hf:ZGh (fun x:VarType=>x.var=n) 0 l with
 |none=>exact ZAj hf
 |some j=>rw[hf]at h;simp only at h;omega
theorem ZPj {a b:VarType}(h:a.var=b.var)(h2:eq2 (a.type.data,a.type.index) (b.type.data,b.type.index)):a=b:=by
 obtain⟨v,d,i⟩:=a
 obtain⟨v',d',i'⟩:=b
 simp only[eq2]at h h2
 obtain⟨rfl,rfl⟩:=h2
 subst h;rfl
theorem P.Yf (l:List VarType):uQ l 0=some (if dec (ZG5 l)=true then .go ()else .ret false):=by
 rw[ZIw (n:=l.length) (r:=false) (Q:=fun j=>∀h:j<l.length,ZES l l[j].var=(j:Int)) (L:=uQ l) (fun k hk=>by rw[uQ,iN (by omega)])
  (fun k hk hq=>by
   rw[uQ,iP hk,gQ hk]
   simp only[oE,oS,P.YI]
   rw[iP (hq hk)])
  (fun k hk hq=>by
   rw[uQ,iP hk,gQ hk]
   simp only[oE,oS,P.YI]
   rw[iN fun h=>hq fun _=>h]) _ 0 rfl]
 congr 2
 rw[ZL]
 rw[ZFU]
 constructor
 ·intro h i j hi hj hij
  exact(ZEw l j hj).1 (h j (by omega) hj hj) i hi hij
 ·intro h j _ _ hj
  exact(ZEw l j hj).2 fun i hi hij=>h i j hi hj hij
theorem P.YAV (a b:List VarType)(hb:ZG5 b):F.f81 a b=some (dec (ZHK a b)):=by
 unfold F.f81
 have step:∀k (hk:k<a.length),uR a b k=if dec (a[k]∈b)=true then uR a b (k+1)else some (.ret false):=by
  intro k hk
  rw[uR,iP hk,gQ hk]
  simp only[oE,oS,P.YI]
  rcases ZB8 b a[k].var with h|⟨j,hj,h1,h2,h3⟩
  ·rw[iP (by omega),iN]
   rw[ZD fun hm=>ZEx h _ hm rfl];simp
  ·rw[iN (by omega),h1,ZCe,gQ hj]
   simp only[oS]
   by_cases he:eq2 (b[j].type.data,b[j].type.index) (a[k].type.data,a[k].type.index)
   ·rw[iP (ZF he),iP (ZF (by rw[←ZPj h2 he];exact gM hj))]
   ·rw[iN (by rw[ZD he];simp),iN]
    rw[ZD fun hm=> ?_];· simp
    obtain⟨i,hi,e⟩:=yW hm
    have hij:i=j:=by
     rw[ZFU]at hb
     rcases zX i j with hlt|heq|hlt
     ·exact absurd (by rw[e,h2]) (hb i j hi hj hlt)
     ·exact heq
     ·exact absurd (by rw[e,h2]) (hb j i hj hi hlt)
    subst hij
    exact he (by rw[e];exact⟨rfl,rfl⟩)
 rw[ZIw (n:=a.length) (r:=false) (Q:=fun j=>∀h:j<a.length,a[j]∈b) (L:=uR a b) (fun k hk=>by rw[uR,iN (by omega)])
  (fun k hk hq=>by rw[step k hk,iP (ZF (hq hk))])
  (fun k hk hq=>by rw[step k hk,iN (by rw[ZD fun h=>hq fun _=>h];simp)]) _ 0 rfl]
 simp only[oE,oS]
 by_cases h:∀j,0<=j->j<a.length->∀h:j<a.length,a[j]∈b
 ·rw[iP (ZF h),←Zv]
  have hx:∀x,x∈a->x∈b:=fun x hx=>by obtain⟨j,hj,e⟩:=yW hx;rw[←e];exact h j (by omega) hj hj
  show some (dec (a.length=b.length))=some (dec (ZHK a b))
  congr 1;exact ZL ⟨fun hl=>⟨hl,hx⟩,fun hs=>hs.1⟩
 ·rw[iN (by rw[ZD h];simp),ZD fun hs=>h fun j _ hj _=>hs.2 _ (gM hj)]
theorem ZNV {a b:VarType}:eq3 (a.var,a.type.data,a.type.index) (b.var,b.type.data,b.type.index)↔a=b:=by
 obtain⟨v,d,i⟩:=a
 obtain⟨v',d',i'⟩:=b
 simp[eq3]
theorem P.YB (l:List VarType)(n:VarType):F.f125 l n=some (dec (n∈l)):=by
 unfold F.f125 F.f124
 rw[ZLH (a:=l) (p:=fun x=>n=x) (L:=kE l n) (fun k hk=>by rw[kE,iN (by omega)])
  (fun k hk hp=>by
   rw[kE,iP hk,gQ hk]
   simp only[oE,oS]
   rw[iN (by rw[ZD fun h=>hp (ZNV.1 h)];simp)])
  (fun k hk hp=>by
   rw[kE,iP hk,gQ hk]
   simp only[oE,oS]
   rw[iP (ZF (ZNV.2 hp))]) _ 0 rfl,yI]
 cases h:ZGh (fun x:VarType=>n=x) 0 l with
 |none=>
  simp only[oE,oS]
  rw[ZD fun hm=>ZAj h _ hm rfl];simp
 |some j=>
  obtain⟨_,h2,h3,_⟩:=ZAi h
  simp only[oE,oS]
  rw[ZF (by rw[h3];exact gM h2)];simp
theorem P.YAG (a b:List VarType):kB a b=some (dec (ZHK a b)):=by
 unfold kB
 by_cases hl:a.length=b.length
 ·rw[iP hl]
  unfold F.f129 F.f128
  have one:∀q,F.f126 q b=some (!dec (q∈b)):=by
   intro q;unfold F.f126;rw[P.YB];rfl
  rw[ZLH (a:=a) (p:=fun x=>¬x∈b) (L:=kD a b) (fun k hk=>by rw[kD,iN (by omega)])
   (fun k hk hp=>by
    rw[kD,iP hk,gQ hk]
    simp only[oE,oS,one]
    rw[iN (by rw[ZF (vU hp)];simp)])
   (fun k hk hp=>by
    rw[kD,iP hk,gQ hk]
    simp only[oE,oS,one]
    rw[iP (by rw[ZD hp];simp)]) _ 0 rfl,yI]
  cases h:ZGh (fun x:VarType=>¬x∈b) 0 a with
  |none=>
   simp only[oE,oS]
   rw[ZF ⟨hl,fun x hx=>vU (ZAj h x hx)⟩];simp
  |some j=>
   obtain⟨_,h2,h3,_⟩:=ZAi h
   simp only[oE,oS]
   rw[ZD fun hs=>h3 (hs.2 _ (gM h2))];simp
 ·rw[iN hl,ZD fun h=>hl h.1]
def ZFv (w:List Data):Nat->Ty->Pattern->Prop
 |0,_,_=>False
 |d+1,t,p=>(∀i,0<=i->i<(ZG w t p).length->∀(h:i<(ZG w t p).length) (h':i<p.kids.length),ZFv w d (ZG w t p)[i] p.kids[i])/\
   if p.op=5 then(∀(h0:0<p.kids.length) (h1:1<p.kids.length),ZHK (ZV w d t p.kids[0]) (ZV w d t p.kids[1]))else ZG5 (ZV w (d+1) t p)
theorem ZDW {d:Nat}(ho:ZAo w t p)(h5:p.op=5)(h0:0<p.kids.length):ZV w (d+1) t p=ZV w d t p.kids[0]:=by
 have et:=Zy ho h5
 rw[ZV,iN (by omega),iP h5,et]
 obtain⟨a,r,e⟩:=xF h0
 simp[e]
theorem ZBk {w:List Data}:∀{d:Nat} {t:Ty} {p:Pattern},Zj w d t p->ZFv w d t p->ZG5 (ZV w d t p)
 |0,t,p,hs,hl=>hs.elim
 |d+1,t,p,hs,hl=>by
  obtain⟨ho,hlen,hk⟩:=hs
  obtain⟨h1,h2⟩:=hl
  by_cases h5:p.op=5
  ·have et:=Zy ho h5
   have h0:0<p.kids.length:=by rw[hlen,et];simp
   have h0':0<(ZG w t p).length:=by rw[et];simp
   rw[ZDW ho h5 h0]
   have e0:(ZG w t p)[0]=t:=by simp[et]
   have a:=hk 0 (zA _) h0' h0' h0
   have b:=h1 0 (zA _) h0' h0' h0
   rw[e0]at a b
   exact ZBk a b
  ·rw[iN h5]at h2;exact h2
theorem P.YT (w:List Data)(hw:ZN w):∀(d:Nat) (t:Ty) (p:Pattern),Ze w t->Zj w d t p->p.wt<=1048576->F.f83 w t p=some (dec (ZFv w d t p))
 |0,t,p,ht,hs,hb=>hs.elim
 |d+1,t,p,ht,hs,hb=>by
  have hs':=hs
  obtain⟨ho,hl,hk⟩:=hs
  have hts:=ZA3 hw ht ho
  have hsum:=p.wt_eq
  have hkw:∀k (h:k<p.kids.length),1+p.kids[k].wt<=p.wt:=fun k h=>by have:=ZAB Pattern.wt (gM h);omega
  have ih:∀k (h:k<(ZG w t p).length) (h':k<p.kids.length),F.f83 w (ZG w t p)[k] p.kids[k]=some (dec (ZFv w d (ZG w t p)[k] p.kids[k])):=
   fun k h h'=>P.YT w hw d _ _ (hts _ (gM h)) (hk k (by omega) h h h') (by have:=hkw k h';omega)
  rw[F.f83,P.YJ w hw t (ZBI ht.1) p ho]
  simp only[oE,oS]
  rw[ZIw (n:=(ZG w t p).length) (r:=false) (Q:=fun i=>∀(h:i<(ZG w t p).length) (h':i<p.kids.length),ZFv w d (ZG w t p)[i] p.kids[i]) (L:=kG w t p (ZG w t p))
   (fun k hk=>by rw[kG,iN (by omega)])
   (fun k hk hq=>by
    have hk':k<p.kids.length:=by omega
    rw[kG,iP hk,gQ hk,gQ hk']
    simp only[oE,oS]
    rw[ih k hk hk']
    simp only[oS]
    rw[iP (ZF (hq hk hk'))])
   (fun k hk hq=>by
    have hk':k<p.kids.length:=by omega
    rw[kG,iP hk,gQ hk,gQ hk']
    simp only[oE,oS]
    rw[ih k hk hk']
    simp only[oS]
    rw[iN (by rw[ZD fun h=>hq fun _ _=>h];simp)]) _ 0 rfl]
  simp only[oS]
  by_cases hall:∀i,0<=i->i<(ZG w t p).length->∀(h:i<(ZG w t p).length) (h':i<p.kids.length),ZFv w d (ZG w t p)[i] p.kids[i]
  ·rw[iP (ZF hall)]
   simp only
   by_cases h5:p.op=5
   ·have et:=Zy ho h5
    have h0:0<p.kids.length:=by rw[hl,et];simp
    have h1:1<p.kids.length:=by rw[hl,et];simp
    have h0':0<(ZG w t p).length:=by rw[et];simp
    have h1':1<(ZG w t p).length:=by rw[et];simp
    have e0:(ZG w t p)[0]=t:=by simp[et]
    have e1:(ZG w t p)[1]=t:=by simp[et]
    have a0:=hk 0 (zA _) h0' h0' h0
    have a1:=hk 1 (by omega) h1' h1' h1
    have b1:=hall 1 (by omega) h1' h1' h1
    rw[e0]at a0
    rw[e1]at a1 b1
    rw[iP h5,gQ h0,gQ h1]
    simp only[oS]
    rw[P.YA w hw d t _ [] ht a0 (by have:=hkw 0 h0;simp;omega),P.YA w hw d t _ [] ht a1 (by have:=hkw 1 h1;simp;omega)]
    simp only[oS,yM]
    rw[P.YAV _ _ (ZBk a1 b1)]
    simp only[oS]
    congr 1
    refine ZL ⟨fun h=>⟨hall,?_⟩,fun h=> ?_⟩
    ·rw[iP h5];exact fun _ _=>h
    ·have:=h.2;rw[iP h5]at this;exact this h0 h1
   ·rw[iN h5,P.YA w hw (d+1) t p [] ht hs' (by simp;omega)]
    simp only[oS,yM]
    rw[P.Yf]
    simp only[oS]
    by_cases hn:ZG5 (ZV w (d+1) t p)
    ·rw[iP (ZF hn),ZF ⟨hall,by rw[iN h5];exact hn⟩]
    ·rw[iN (by rw[ZD hn];simp),ZD fun h=>hn (by have:=h.2;rwa[iN h5]at this)]
  ·rw[iN (by rw[ZD hall];simp),ZD fun h=>hall h.1]
theorem ZIH {f:Ty×Pattern->List VarType}{x:VarType}:∀{ts:List Ty} {ks:List Pattern} {n:Nat},x∈(((ts.zip ks).take n).flatMap f)->∃i,∃(h:i<ts.length) (h':i<ks.length),x∈f (ts[i],ks[i])
 | [],ks,n,h=>by simp at h
 |t::ts,[],n,h=>by simp at h
 |t::ts,k::ks,0,h=>by simp at h
 |t::ts,k::ks,n+1,h=>by
  simp only[xN,vC,yU,yN]at h
  rcases h with h|h
  ·exact⟨0,by simp,by simp,by simpa using h⟩
  ·obtain⟨i,h1,h2,h3⟩:=ZIH h
   exact⟨i+1,by simpa using h1,by simpa using h2,by simpa using h3⟩
theorem ZDX {w:List Data}(hw:ZN w):∀{d:Nat} {t:Ty} {p:Pattern},Ze w t->Zj w d t p->∀x,x∈ZV w d t p->0<=x.var/\x.var<=5/\Ze w x.type
 |0,t,p,ht,hs=>hs.elim
 |d+1,t,p,ht,hs=>by
  obtain⟨ho,hl,hk⟩:=hs
  intro x hx
  rw[ZV,yN]at hx
  rcases hx with hx|hx
  ·split at hx
   ·next h=>
    simp at hx;subst hx
    unfold ZAo at ho
    refine⟨?_,?_,ht⟩<;>simp only<;>omega
   ·cases hx
  ·obtain⟨i,h,h',hm⟩:=ZIH hx
   exact ZDX hw (ZA3 hw ht ho _ (gM h)) (hk i (by omega) h h h') x hm
theorem ZSN {R:Type}{vs:List VarType}{r:R}{M:(Nat->Bool)->Nat->Option (Lo R Unit)}(hv:∀x,x∈vs->0<=x.var/\x.var<=5)
  (hM:∀s i,M s i=if i<vs.length then vs[i]? >>=fun x=>if 0<=x.var/\x.var.toNat<6 then(if s x.var.toNat=true then some (.ret r)else M (ZHC s x.var.toNat true) (i+1))else none else some (.go ())):
  ∀(m i:Nat) (s:Nat->Bool),vs.length-i=m->M s i=some (if dec (ZG5 (vs.drop i)/\∀x,x∈vs.drop i->s x.var.toNat=false)=true then .go ()else .ret r):=by
 intro m
 induction m with
 |zero=>
  intro i s hm
  rw[hM,iN (by omega),yG (by omega),iP (ZF ⟨by simp[ZG5],by simp⟩)]
 |succ m ih=>
  intro i s hm
  have hi:i<vs.length:=by omega
  have hr:=hv _ (gM hi)
  rw[hM,iP hi,gQ hi]
  simp only[oE,oS]
  rw[iP (by omega),yF hi]
  by_cases h:s vs[i].var.toNat=true
  ·rw[iP h,iN]
   rw[ZD fun hh=> ?_];· simp
   have:=hh.2 vs[i] (yV ..)
   rw[h]at this;cases this
  ·rw[iN h,ih (i+1) _ (by omega)]
   congr 2
   rw[ZL]
   have hs:s vs[i].var.toNat=false:=by simpa using h
   constructor
   ·rintro⟨h1,h2⟩
    refine⟨?_,fun x hx=> ?_⟩
    ·unfold ZG5 at h1 ⊢
     rw[yJ,xM]
     refine⟨fun hm=> ?_,h1⟩
     obtain⟨y,hy,e⟩:=yR.1 hm
     have:=h2 y hy
     rw[e]at this
     simp[ZHC]at this
    ·rcases xB.1 hx with rfl|hx
     ·exact hs
     ·have:=h2 x hx
      unfold ZHC at this
      split at this
      ·cases this
      ·exact this
   ·rintro⟨h1,h2⟩
    unfold ZG5 at h1 ⊢
    rw[yJ,xM]at h1
    refine⟨h1.2,fun x hx=> ?_⟩
    unfold ZHC
    have hx':=hv x (vI hx)
    rw[iN fun e=>h1.1 (yR.2 ⟨x,hx,by omega⟩)]
    exact h2 x (yP _ hx)
abbrev ZRS (w:List Data)(d:Nat)(ts:List Ty)(ks:List Pattern)(i:Nat):Prop:=∀j,i<=j->j<ts.length->∀(h:j<ts.length) (h':j<ks.length),Zj w d ts[j] ks[j]/\ZFv w d ts[j] ks[j]
def ZCS (w:List Data)(d:Nat)(t:Ty)(p:Pattern)(count:Nat)(vs:List VarType)(b:Bool)(c:Nat):Prop:=
 (b=true↔Zj w d t p/\ZFv w d t p/\count+(1+p.wt)<=60)/\(b=true->c=count+(1+p.wt)/\vs=ZV w d t p)
theorem P.YA6 (w:List Data)(d:Nat)(hd:d+1<=10)(p:Pattern)(hp:p.wt<=1048576)(ts:List Ty)(hl:ts.length=p.kids.length)(hts:∀a,a∈ts->Ze w a)(h5:p.op≠5)
  (L:Int->List VarType->Nat->Option (Lo ((List VarType)×Bool×Int) (Int×(List VarType))))
  (hL:∀z vars i,L z vars i=if i<p.kids.length then p.kids[i]? >>=fun x=>ts[i]? >>=fun y=>uJ w y x (i64.wrap (((11- (d+1):Nat):Int)+1)) z>>=fun r=>if r.2.1=true then(if p.op=5 then(if i=1 then kB vars r.1>>=fun b=>if b=true then L r.2.2 vars (i+1)else some (.ret ([],false,r.2.2))else(if vars.length+r.1.length<=67108864 then L r.2.2 (vars++r.1) (i+1)else none))else(if vars.length+r.1.length<=67108864 then L r.2.2 (vars++r.1) (i+1)else none))else some (.ret ([],false,r.2.2))else some (.go (z,vars)))
  (ih:∀(t:Ty) (x:Pattern) (count:Nat),Ze w t->x.wt<=1048576->count<=60->∃vs b c,uJ w t x ((11-d:Nat):Int) (count:Int)=some (vs,b,((c:Nat):Int))/\ZCS w d t x count vs b c):
  ∀(m i z:Nat) (vars:List VarType),p.kids.length-i=m->z<=60->vars.length+((p.kids.drop i).map fun k=>1+k.wt).sum<=67108864->∃o,L z vars i=some o/\
   match o with
   | .ret (vs,b,c)=>b=false/\∃c':Nat,c=(c':Int)/\¬(ZRS w d ts p.kids i/\z+((p.kids.drop i).map fun k=>1+k.wt).sum<=60)
   | .go (c,vs)=>c=((z+((p.kids.drop i).map fun k=>1+k.wt).sum:Nat):Int)/\vs=vars++((ts.zip p.kids).drop i).flatMap (fun x=>ZV w d x.1 x.2)/\ZRS w d ts p.kids i/\z+((p.kids.drop i).map fun k=>1+k.wt).sum<=60:=by
 intro m
 induction m with
 |zero=>
  intro i z vars hm hz hb
  rw[hL,iN (by omega)]
  refine⟨_,rfl,?_⟩
  rw[yG (by omega),yG (by simp;omega)]
  exact⟨by simp,by simp,fun j h1 h2=>by omega,by simpa using hz⟩
 |succ m ihm=>
  intro i z vars hm hz hb
  have hi:i<p.kids.length:=by omega
  have hi':i<ts.length:=by omega
  have hkw:=ZAB Pattern.wt (gM hi)
  have hpw:=p.wt_eq
  rw[yF hi]at hb ⊢
  simp only[yJ,xL]at hb ⊢
  rw[hL,iP hi,gQ hi,gQ hi']
  simp only[oE,oS]
  rw[ZC (by omega) (by omega),show(((11- (d+1):Nat):Int)+1)=((11-d:Nat):Int)from by omega]
  obtain⟨vs,b,c,h1,h2,h3⟩:=ih ts[i] p.kids[i] z (hts _ (gM hi')) (by omega) hz
  rw[h1]
  simp only[oS]
  cases b with
  |true=>
   rw[iP rfl,iN h5]
   obtain⟨hc,hv⟩:=h3 rfl
   obtain⟨hp1,hp2,hle⟩:=h2.1 rfl
   have hvl:=ZBT w d ts[i] p.kids[i]
   rw[←hv]at hvl
   rw[iP (by omega)]
   obtain⟨o,g1,g2⟩:=ihm (i+1) c (vars++vs) (by omega) (by omega) (by rw[yH];omega)
   refine⟨o,g1,?_⟩
   cases o with
   |ret r=>
    obtain⟨vs',b',c'⟩:=r
    obtain⟨q1,c2,q2,q3⟩:=g2
    exact⟨q1,c2,q2,fun hh=>q3 ⟨fun j a b e f=>hh.1 j (by omega) b e f,by omega⟩⟩
   |go r=>
    obtain⟨c2,vs2⟩:=r
    obtain⟨q1,q2,q3,q4⟩:=g2
    refine⟨by rw[q1];congr 1;omega,?_,fun j a b e f=> ?_,by omega⟩
    ·rw[q2,yF (l:=ts.zip p.kids) (i:=i) (by simp;omega),hv];simp
    ·by_cases hj:i=j
     ·subst hj;exact⟨hp1,hp2⟩
     ·exact q3 j (by omega) b e f
  |false=>
   rw[iN (by simp)]
   refine⟨_,rfl,rfl,c,rfl,fun hh=> ?_⟩
   have hk:=hh.1 i (zA _) hi' hi' hi
   have:=h2.2 ⟨hk.1,hk.2,by omega⟩
   cases this
theorem P.Yk (w:List Data)(hw:ZN w):∀(d:Nat) (t:Ty) (p:Pattern) (count:Nat),d<=10->Ze w t->p.wt<=1048576->count<=60->
  ∃vs b c,uJ w t p ((11-d:Nat):Int) (count:Int)=some (vs,b,((c:Nat):Int))/\ZCS w d t p count vs b c
 |d,t,p,count,hd,ht,hp,hc=>by
  have e1:i64.wrap ((count:Int)+1)=((count+1:Nat):Int):=by rw[ZC (by omega) (by omega)];omega
  have no:∀(h:¬(Zj w d t p/\ZFv w d t p/\count+(1+p.wt)<=60)) (c:Nat),∃vs b c',(some (([]:List VarType),false,(c:Int)):Option (List VarType×Bool×Int))=some (vs,b,((c':Nat):Int))/\ZCS w d t p count vs b c':=
   fun h c=>⟨[],false,c,rfl,⟨fun h=>(by cases h),fun hh=>absurd hh h⟩,fun h=>by cases h⟩
  rw[uJ,e1]
  by_cases h60:60<((count+1:Nat):Int)
  ·rw[iP h60];exact no (fun h=>by omega) _
  rw[iN h60]
  match d,hd with
  |0,_=>
   rw[iP (by omega)]
   exact no (fun h=>h.1.elim) _
  |d+1,hd=>
   rw[iN (by omega)]
   obtain⟨ts,h1,h2⟩:=P.YAq w hw t (ZBI ht.1) p
   rw[h1]
   simp only[oE,oS]
   by_cases hs:ZAo w t p/\p.kids.length=(ZG w t p).length
   ·rw[iP (ZF hs)]
    obtain⟨ho,hl⟩:=hs
    obtain rfl:=h2 ho
    have hts:=ZA3 hw ht ho
    have hwt:=ZIJ p
    have ihx:∀(t:Ty) (x:Pattern) (count:Nat),Ze w t->x.wt<=1048576->count<=60->∃vs b c,uJ w t x ((11-d:Nat):Int) (count:Int)=some (vs,b,((c:Nat):Int))/\ZCS w d t x count vs b c:=
     fun t x c ht hx hc=>P.Yk w hw d t x c (by omega) ht hx hc
    have shape_of:∀{i:Nat},ZRS w d (ZG w t p) p.kids 0->Zj w (d+1) t p:=fun h=>⟨ho,hl,fun i _ hi h1 h2=>(h i (by omega) hi h1 h2).1⟩
    by_cases h5:p.op=5
    ·rw[iN (by omega),iN (by omega)]
     have et:=Zy ho h5
     have h0:0<p.kids.length:=by rw[hl,et];simp
     have h1':1<p.kids.length:=by rw[hl,et];simp
     have hl2:p.kids.length=2:=by rw[hl,et];rfl
     have e0:(ZG w t p)[0]? =some t:=by rw[et];rfl
     have e1:(ZG w t p)[1]? =some t:=by rw[et];rfl
     have hsum:p.wt=(1+p.kids[0].wt)+(1+p.kids[1].wt):=by
      have e:p.kids=[p.kids[0],p.kids[1]]:=vO (by simp[hl2]) (fun i h1 h2=>by
       have:i=0∨i=1:=by omega
       rcases this with rfl|rfl<;>rfl)
      rw[hwt,yI]
      conv=>lhs;rw[e]
      simp
     have ed:i64.wrap (((11- (d+1):Nat):Int)+1)=((11-d:Nat):Int):=by rw[ZC (by omega) (by omega)];omega
     obtain⟨v0,b0,c0,a1,a2,a3⟩:=ihx t p.kids[0] (count+1) ht (by omega) (by omega)
     have kid0:Zj w (d+1) t p->ZFv w (d+1) t p->(Zj w d t p.kids[0]/\ZFv w d t p.kids[0])/\(Zj w d t p.kids[1]/\ZFv w d t p.kids[1])/\ZHK (ZV w d t p.kids[0]) (ZV w d t p.kids[1]):=by
      rintro⟨_,_,hk⟩ ⟨q1,q2⟩
      rw[iP h5]at q2
      have x0':0<(ZG w t p).length:=by rw[et];simp
      have x1':1<(ZG w t p).length:=by rw[et];simp
      have y0:(ZG w t p)[0]=t:=by simp[et]
      have y1:(ZG w t p)[1]=t:=by simp[et]
      have k0:=hk 0 (zA _) x0' x0' h0
      have k1:=hk 1 (by omega) x1' x1' h1'
      have l0:=q1 0 (zA _) x0' x0' h0
      have l1:=q1 1 (by omega) x1' x1' h1'
      rw[y0]at k0 l0
      rw[y1]at k1 l1
      exact⟨⟨k0,l0⟩,⟨k1,l1⟩,q2 h0 h1'⟩
     rw[uN,iP h0,gQ h0,e0]
     simp only[oE,oS]
     rw[ed,a1]
     simp only[oS]
     cases b0 with
     |false=>
      rw[iN (by simp)]
      simp only[oS]
      exact no (fun h=>by
       have:=a2.2 ⟨(kid0 h.1 h.2.1).1.1,(kid0 h.1 h.2.1).1.2,by omega⟩
       cases this) _
     |true=>
      obtain⟨hc0,rfl⟩:=a3 rfl
      obtain⟨s0,l0,z0⟩:=a2.1 rfl
      have hv0:=ZBT w d t p.kids[0]
      rw[iP rfl,iP h5,iN (by omega),iP (by simp;omega),uN,iP h1',gQ h1',e1]
      simp only[oE,oS]
      obtain⟨v1,b1,c1,g1,g2,g3⟩:=ihx t p.kids[1] c0 ht (by omega) (by omega)
      rw[ed,g1]
      simp only[oS]
      cases b1 with
      |false=>
       rw[iN (by simp)]
       simp only[oS]
       exact no (fun h=>by
        have:=g2.2 ⟨(kid0 h.1 h.2.1).2.1.1,(kid0 h.1 h.2.1).2.1.2,by omega⟩
        cases this) _
      |true=>
       obtain⟨hc1,rfl⟩:=g3 rfl
       obtain⟨s1,l1,z1⟩:=g2.1 rfl
       rw[iP rfl,iP h5,iP trivial,P.YAG]
       simp only[oS,yM]
       by_cases hsv:ZHK (ZV w d t p.kids[0]) (ZV w d t p.kids[1])
       ·rw[iP (ZF hsv),uN,iN (by omega)]
        simp only[oS]
        have kk:∀i,0<=i->i<(ZG w t p).length->∀(h:i<(ZG w t p).length) (h':i<p.kids.length),Zj w d (ZG w t p)[i] p.kids[i]/\ZFv w d (ZG w t p)[i] p.kids[i]:=by
         intro i _ _ h h'
         have ei:(ZG w t p)[i]=t:=by
          have:i=0∨i=1:=by omega
          rcases this with rfl|rfl<;>simp[et]
         rw[ei]
         have:i=0∨i=1:=by omega
         rcases this with rfl|rfl
         ·exact⟨s0,l0⟩
         ·exact⟨s1,l1⟩
        have sh:Zj w (d+1) t p:=⟨ho,hl,fun i a b c e=>(kk i a b c e).1⟩
        have li:ZFv w (d+1) t p:=⟨fun i a b c e=>(kk i a b c e).2,by rw[iP h5];exact fun _ _=>hsv⟩
        have hnd:=ZBk sh li
        have hvk:=ZDX hw ht sh
        rw[ZDW ho h5 h0]at hnd hvk
        rw[ZSN (vs:=ZV w d t p.kids[0]) (M:=kA ((c1:Int),ZV w d t p.kids[0])) (r:=([],false,(c1:Int))) (fun x hx=>⟨(hvk x hx).1,(hvk x hx).2.1⟩) (fun s i=>by rw[kA]) _ 0 _ rfl,yI,iP (ZF ⟨hnd,fun _ _=>rfl⟩)]
        exact⟨_,true,c1,rfl,⟨fun _=>⟨sh,li,by omega⟩,fun _=>rfl⟩,fun _=>⟨by omega,(ZDW ho h5 h0).symm⟩⟩
       ·rw[iN (by rw[ZD hsv];simp)]
        simp only[oS]
        exact no (fun h=>hsv (kid0 h.1 h.2.1).2.2) _
    ·have kidx:Zj w (d+1) t p->ZFv w (d+1) t p->ZRS w d (ZG w t p) p.kids 0:=fun a b i hi hlt h h'=>⟨a.2.2 i hi hlt h h',b.1 i hi hlt h h'⟩
     have fin:∀(v00:List VarType) (hv00:v00.length<=1) (hv:v00=if p.op=2∨p.op=6 then[(⟨p.var,t⟩:VarType)]else[])
       (L:Int->List VarType->Nat->Option (Lo ((List VarType)×Bool×Int) (Int×(List VarType))))
       (hL:∀z vars i,L z vars i=if i<p.kids.length then p.kids[i]? >>=fun x=>(ZG w t p)[i]? >>=fun y=>uJ w y x (i64.wrap (((11- (d+1):Nat):Int)+1)) z>>=fun r=>if r.2.1=true then(if p.op=5 then(if i=1 then kB vars r.1>>=fun b=>if b=true then L r.2.2 vars (i+1)else some (.ret ([],false,r.2.2))else(if vars.length+r.1.length<=67108864 then L r.2.2 (vars++r.1) (i+1)else none))else(if vars.length+r.1.length<=67108864 then L r.2.2 (vars++r.1) (i+1)else none))else some (.ret ([],false,r.2.2))else some (.go (z,vars)))
       (M:Int×List VarType->(Nat->Bool)->Nat->Option (Lo ((List VarType)×Bool×Int) Unit))
       (hM:∀q s i,M q s i=if i<q.2.length then q.2[i]? >>=fun x=>if 0<=x.var/\x.var.toNat<6 then(if s x.var.toNat=true then some (.ret ([],false,q.1))else M q (ZHC s x.var.toNat true) (i+1))else none else some (.go ())),
       ∃vs b c,((L ((count+1:Nat):Int) v00 0).bind fun o=>match o with
        | .ret r0=>some r0
        | .go s=>(M s (fun _=>false) 0).bind fun o=>match o with
         | .ret r0=>some r0
         | .go _=>some (s.2,true,s.1))=some (vs,b,((c:Nat):Int))/\ZCS w (d+1) t p count vs b c:=by
      intro v00 hv00 hv L hL M hM
      obtain⟨o,g1,g2⟩:=P.YA6 w d hd p hp (ZG w t p) hl.symm hts h5 L hL ihx _ 0 (count+1) v00 rfl (by omega) (by rw[←hwt];omega)
      rw[g1]
      simp only[oS]
      rw[←hwt]at g2
      cases o with
      |ret r=>
       obtain⟨vs,b,c⟩:=r
       obtain⟨rfl,c',rfl,q3⟩:=g2
       exact⟨vs,false,c',rfl,⟨fun h=>(by cases h),fun hh=>absurd ⟨kidx hh.1 hh.2.1,by have:=hh.2.2;omega⟩ q3⟩,fun h=>by cases h⟩
      |go s=>
       obtain⟨c,vs⟩:=s
       obtain⟨rfl,q2,q3,q4⟩:=g2
       have hvs:vs=ZV w (d+1) t p:=by
        rw[q2,ZV,hv,iN h5,yL (by simp;omega)];simp
       have sh:Zj w (d+1) t p:=⟨ho,hl,fun i a b c e=>(q3 i a b c e).1⟩
       have hvk:=ZDX hw ht sh
       rw[←hvs]at hvk
       dsimp only
       rw[ZSN (vs:=vs) (M:=M (((count+1+p.wt:Nat):Int),vs)) (r:=([],false,((count+1+p.wt:Nat):Int))) (fun x hx=>⟨(hvk x hx).1,(hvk x hx).2.1⟩) (fun s i=>by rw[hM]) _ 0 _ rfl,yI]
       simp only[oS]
       by_cases hn:ZG5 vs
       ·rw[iP (ZF ⟨hn,fun _ _=>by first|rfl|trivial⟩)]
        exact⟨vs,true,count+1+p.wt,rfl,⟨fun _=>⟨sh,⟨fun i a b c e=>(q3 i a b c e).2,by rw[iN h5,←hvs];exact hn⟩,by omega⟩,fun _=>rfl⟩,fun _=>⟨by omega,hvs⟩⟩
       ·rw[iN (by rw[ZD fun h=>hn h.1];simp)]
        exact no (fun h=>hn (by have:=h.2.1.2;rw[iN h5,←hvs]at this;exact this)) _
     by_cases h2:p.op=2
     ·rw[iP h2]
      exact fin [⟨p.var,t⟩] (by simp) (by rw[iP (.inl h2)]) (F.f137 w p ((11- (d+1):Nat):Int) (ZG w t p,dec (ZAo w t p/\p.kids.length=(ZG w t p).length))) (fun z vars i=>by rw[F.f137]) F.f133 (fun q s i=>by rw[F.f133])
     ·rw[iN h2]
      by_cases h6:p.op=6
      ·rw[iP h6]
       exact fin [⟨p.var,t⟩] (by simp) (by rw[iP (.inr h6)]) (F.f135 w p ((11- (d+1):Nat):Int) (ZG w t p,dec (ZAo w t p/\p.kids.length=(ZG w t p).length))) (fun z vars i=>by rw[F.f135]) F.f131 (fun q s i=>by rw[F.f131])
      ·rw[iN h6]
       exact fin [] (by simp) (by rw[iN (by omega)]) (uN w p ((11- (d+1):Nat):Int) (ZG w t p,dec (ZAo w t p/\p.kids.length=(ZG w t p).length))) (fun z vars i=>by rw[uN]) kA (fun q s i=>by rw[kA])
   ·rw[iN (by rw[ZD hs];simp)]
    exact no (fun h=>hs ⟨h.1.1,h.1.2.1⟩) _
termination_by d=>d
def ZBS (w:List Data)(t:Ty)(p:Pattern):Prop:=Zj w 10 t p/\ZFv w 10 t p/\1+p.wt<=60
theorem P.YAO (w:List Data)(hw:ZN w)(t:Ty)(ht:Ze w t)(p:Pattern)(hp:p.wt<=1048576):F.f85 w t p=some (dec (ZBS w t p)):=by
 unfold F.f85
 have e10:kL w t p 10=some (dec (Zj w 10 t p)):=P.YK w hw 10 t p ht (by omega)
 rw[e10]
 simp only[oE,oS]
 by_cases h1:Zj w 10 t p
 ·rw[iP (ZF h1)]
  obtain⟨c,g1,g2,g3,g4,g5⟩:=P.YA7 p hp 60 (by omega)
  have g1':F.f72 p 60=some (c:Int):=g1
  rw[g1']
  simp only[oS]
  by_cases hc:1+p.wt<=60
  ·rw[iP (by have:=g4 hc;omega),P.YT w hw 10 t p ht h1 hp]
   simp only[oS]
   congr 1;exact ZL ⟨fun h=>⟨h1,h,hc⟩,fun h=>h.2.1⟩
  ·rw[iN (by have:=g5 (by omega);omega),ZD fun h=>hc h.2.2]
 ·rw[iN (by rw[ZD h1];simp),ZD fun h=>h1 h.1]
theorem P.Yh (w:List Data)(hw:ZN w)(t:Ty)(ht:Ze w t)(p:Pattern)(hp:p.wt<=1048576):∃vs,F.f138 w t p=some (vs,dec (ZBS w t p))/\(ZBS w t p->vs=ZV w 10 t p):=by
 unfold F.f138
 obtain⟨vs,b,c,g1,g2,g3⟩:=P.Yk w hw 10 t p 0 (by omega) ht hp (by omega)
 have g1':uJ w t p 1 0=some (vs,b,(c:Int)):=g1
 rw[g1']
 simp only[oE,oS]
 have hb:b=dec (ZBS w t p):=by
  cases b with
  |true=>rw[ZF];obtain⟨a,b,c⟩:=g2.1 rfl;exact⟨a,b,by omega⟩
  |false=>rw[ZD];intro h;have:=g2.2 ⟨h.1,h.2.1,by have:=h.2.2;omega⟩;cases this
 subst hb
 exact⟨vs,rfl,fun h=>(g3 (ZF h)).2⟩
def gOk (g:Guard)(vs:List VarType):Prop:=(g.op=0/\g.var=0/\g.n=0)∨((g.op=1∨g.op=2)/\0<=g.n/\g.n<=9/\(⟨g.var,⟨-1,0⟩⟩:VarType)∈vs)
end Go.Vl
set_option maxRecDepth 100000
namespace Go.Vl
open Go Go.RowKit
open Go.IntKind (i64)
theorem P.YAY (g:Guard)(vs:List VarType):F.f139 g vs=some (dec (gOk g vs)):=by
 unfold F.f139
 simp only[P.YE,P.YB,oE,oS]
 by_cases h0:g.op=0
 ·rw[iP h0];congr 1;refine ZL ?_;unfold gOk eq3;simp only;omega
 ·rw[iN h0]
  by_cases h1:1<=g.op/\g.op<=2
  ·rw[iP (ZF h1)]
   by_cases h2:0<=g.n/\g.n<=9
   ·rw[iP (ZF h2)];congr 1
    refine ZL ⟨fun h=>.inr ⟨by omega,h2.1,h2.2,h⟩,fun h=> ?_⟩
    rcases h with h|h
    ·omega
    ·exact h.2.2.2
   ·rw[iN (by rw[ZD h2];simp),ZD]
    rintro(h|h)
    ·omega
    ·exact h2 ⟨h.2.1,h.2.2.1⟩
  ·rw[iN (by rw[ZD h1];simp),ZD]
   rintro(h|h)
   ·omega
   ·omega
theorem P.YAU (w:List Data)(g:Guard)(vs:List VarType)(hn:ZG5 vs)(ht:∀x,x∈vs->Ze w x.type):F.f197 g vs=some (dec (gOk g vs)):=by
 unfold F.f197
 have key:g.op=1∨g.op=2->(if g.n<0 then some false else if 9<g.n then some false else(F.f79 vs g.var)>>=fun v21=>if 0<=v21 then(at? vs v21)>>=fun x25=>some (decide (x25.type.data=(-1)))else some false)=some (dec (gOk g vs)):=by
  intro hop
  by_cases a1:g.n<0
  ·rw[iP a1,ZD];rintro(h|h)<;>omega
  rw[iN a1]
  by_cases a2:9<g.n
  ·rw[iP a2,ZD];rintro(h|h)<;>omega
  rw[iN a2,P.YI]
  simp only[oE,oS]
  rcases ZB8 vs g.var with h|⟨j,hj,h1,h2,h3⟩
  ·rw[iN (by omega),ZD]
   rintro(h'|h')
   ·omega
   ·exact ZEx h _ h'.2.2.2 rfl
  ·rw[iP (by omega),h1,ZCe,gQ hj]
   simp only[oS]
   rw[←Zv];congr 1
   refine ZL ⟨fun h=>.inr ⟨hop,by omega,by omega,?_⟩,fun h=> ?_⟩
   ·have hty:=ht _ (gM hj)
    have hi:vs[j].type.index=0:=by unfold Ze ZBt at hty;omega
    have:(⟨g.var,⟨-1,0⟩⟩:VarType)=vs[j]:=ZPj (by simp[h2]) ⟨by simp[h],by simp[hi]⟩
    rw[this];exact gM hj
   ·rcases h with h|h
    ·omega
    ·obtain⟨i,hi,e⟩:=yW h.2.2.2
     have hij:i=j:=by
      rw[ZFU]at hn
      rcases zX i j with hlt|heq|hlt
      ·exact absurd (by rw[e,h2]) (hn i j hi hj hlt)
      ·exact heq
      ·exact absurd (by rw[e,h2]) (hn j i hj hi hlt)
     subst hij
     rw[e]
 by_cases h0:g.op=0
 ·rw[iP h0]
  by_cases h1:g.var=0
  ·rw[iP h1,←Zv];congr 1;refine ZL ⟨fun h=>.inl ⟨h0,h1,h⟩,fun h=> ?_⟩
   rcases h with h|h
   ·exact h.2.2
   ·omega
  ·rw[iN h1,ZD];rintro(h|h)<;>omega
 ·rw[iN h0]
  by_cases h1:g.op=1
  ·rw[iP h1];exact key (.inl h1)
  ·rw[iN h1]
   by_cases h2:g.op=2
   ·rw[iP h2];exact key (.inr h2)
   ·rw[iN h2,ZD];rintro(h|h)<;>omega
def ZLU (w:List Data)(t:Ty)(c:Clause):Prop:=ZBS w t c.pat/\gOk c.guard (ZV w 10 t c.pat)
theorem P.YA2 (w:List Data)(hw:ZN w)(t:Ty)(ht:Ze w t)(c:Clause)(hp:c.pat.wt<=1048576):F.f198 w t c=some (dec (ZLU w t c)):=by
 unfold F.f198
 rw[P.YAO w hw t ht _ hp]
 simp only[oE,oS]
 by_cases h:ZBS w t c.pat
 ·rw[iP (ZF h),P.YA w hw 10 t c.pat [] ht h.1 (by simp;omega)]
  simp only[oS,yM]
  rw[P.YAU w _ _ (ZBk h.1 h.2.1) (fun x hx=>(ZDX hw ht h.1 x hx).2.2)]
  simp only[oS]
  congr 1;exact ZL ⟨fun g=>⟨h,g⟩,fun g=>g.2⟩
 ·rw[iN (by rw[ZD h];simp),ZD fun g=>h g.1]
theorem P.YAK (w:List Data)(hw:ZN w)(t:Ty)(ht:Ze w t)(c:Clause)(hp:c.pat.wt<=1048576):F.f140 w t c=some (dec (ZLU w t c)):=by
 unfold F.f140
 obtain⟨vs,h1,h2⟩:=P.Yh w hw t ht c.pat hp
 rw[h1]
 simp only[oE,oS]
 by_cases h:ZBS w t c.pat
 ·rw[iP (ZF h),P.YAY,h2 h]
  simp only[oS]
  congr 1;exact ZL ⟨fun g=>⟨h,g⟩,fun g=>g.2⟩
 ·rw[iN (by rw[ZD h];simp),ZD fun g=>h g.1]
def ZSO (v:Int):Nat->Pattern->Prop
 |0,_=>False
 |d+1,p=>(∃i,∃h:i<p.kids.length,ZSO v d p.kids[i])∨((p.op=2∨p.op=6)/\p.var=v)
theorem ZBu (a b c d e:Int):(⟨a,b,c,d,e,[]⟩:Pattern).wt=0:=by rw[Pattern.wt_eq];rfl
theorem ZPh (a b c d e:Int)(k:Pattern):(⟨a,b,c,d,e,[k]⟩:Pattern).wt=1+k.wt:=by rw[Pattern.wt_eq];simp
theorem ZPg (a b c d e:Int)(k l:Pattern):(⟨a,b,c,d,e,[k,l]⟩:Pattern).wt=2+k.wt+l.wt:=by rw[Pattern.wt_eq];simp;omega
theorem ZJ9 {α:Type}(f:α->Nat):∀(l:List α) (i:Nat) (h:i<l.length) (x:α),wtL f (l.set i x)+f l[i]=wtL f l+f x
 |a::l,0,h,x=>by simp;omega
 |a::l,i+1,h,x=>by
  have:=ZJ9 f l i (by simpa using h) x
  simp;omega
def hv (d:Nat)(p:Pattern):Prop:=∃v,ZSO v d p
variable {α:Type}
theorem ZDZ {l:List α}(h:l.length=2):l=[l[0]'(by omega),l[1]'(by omega)]:=by
 match l,h with
 | [x,y],_=>rfl
def ZNm (w:List Data)(t:Ty)(l:List Clause):Prop:=ZAc w t/\l.length<=8/\∀c,c∈l->ZLU w t c
theorem P.Ya (w:List Data)(hw:ZAD w)(t:Ty)(l:List Clause)(hp:∀c,c∈l->c.pat.wt<=1048576):F.f200 w t l=some (dec (ZNm w t l)):=by
 unfold F.f200
 rw[P.Yt w t hw]
 simp only[oE,oS]
 by_cases h1:ZAc w t
 ·rw[iP (ZF h1)]
  by_cases h2:8<l.length
  ·rw[iP h2,ZD fun h=>by have:=h.2.1;omega]
  ·rw[iN h2]
   have hl:∀k,k<=l.length->F.f199 w t l (l.length-k)=some (if dec (∀c,c∈l.drop (l.length-k)->ZLU w t c)=true then .go ()else .ret false):=by
    intro k
    induction k with
    |zero=>intro _;rw[F.f199,iN (by omega),iP (ZF fun c hc=>by simp at hc)]
    |succ k ih=>
     intro hk
     have hi:l.length- (k+1)<l.length:=by omega
     rw[F.f199,iP hi,gQ hi]
     simp only[oE,oS]
     rw[P.YA2 w h1.1 t h1.2 _ (hp _ (gM hi))]
     simp only[oS]
     have e1:l.length- (k+1)+1=l.length-k:=by omega
     have e2:l.drop (l.length- (k+1))=l[l.length- (k+1)]::l.drop (l.length-k):=by rw[yF hi,e1]
     by_cases hc:ZLU w t l[l.length- (k+1)]
     ·rw[iP (ZF hc),e1,ih (by omega),e2]
      rw[ZL (q:=∀c,c∈l[l.length- (k+1)]::l.drop (l.length-k)->ZLU w t c) ⟨fun h c hc'=>by
       rcases xB.1 hc' with rfl|hc'
       ·exact hc
       ·exact h c hc',fun h c hc'=>h c (yP _ hc')⟩]
     ·rw[iN (by rw[ZD hc];simp),e2,iN (by rw[ZD fun h=>hc (h _ (yV ..))];simp)]
   have:=hl l.length (zA _)
   rw[zE,yI]at this
   rw[this]
   simp only[oS]
   by_cases h3:∀c,c∈l->ZLU w t c
   ·rw[iP (ZF h3)];simp only;rw[ZF ⟨h1,by omega,h3⟩]
   ·rw[iN (by rw[ZD h3];simp)];simp only;rw[ZD fun h=>h3 h.2.2]
 ·rw[iN (by rw[ZD h1];simp),ZD fun h=>h1 h.1]
theorem P.Yd (w:List Data)(hw:ZAD w)(t:Ty)(l:List Clause)(hp:∀c,c∈l->c.pat.wt<=1048576):F.f145 w t l=some (dec (ZNm w t l)):=by
 unfold F.f145
 rw[P.Yz w t hw]
 simp only[oE,oS]
 by_cases h1:ZAc w t
 ·rw[iP (ZF h1)]
  by_cases h2:l.length<=8
  ·rw[iP h2]
   unfold F.f144 F.f143
   have one:∀c,c∈l->F.f141 c w t=some (dec (¬ZLU w t c)):=by
    intro c hc
    unfold F.f141
    rw[P.YAK w h1.1 t h1.2 c (hp c hc)]
    simp only[oE,oS]
    by_cases a:ZLU w t c
    ·rw[ZF a,ZD (by simp[a])];rfl
    ·rw[ZD a,ZF a];rfl
   rw[ZLH (a:=l) (p:=fun c=>¬ZLU w t c) (L:=F.f142 l w t) (fun k hk=>by rw[F.f142,iN (by omega)])
    (fun k hk hp=>by rw[F.f142,iP hk,gQ hk];simp only[oE,oS];rw[one _ (gM hk)];simp only[oS];rw[iN (by rw[ZD hp];simp)])
    (fun k hk hp=>by rw[F.f142,iP hk,gQ hk];simp only[oE,oS];rw[one _ (gM hk)];simp only[oS];rw[iP (ZF hp)]) _ 0 rfl,yI]
   cases hf:ZGh (fun c=>¬ZLU w t c) 0 l with
   |none=>
    have:=ZAj hf
    simp only[oE,oS]
    rw[ZF ⟨h1,h2,fun c hc=>vU fun h=>this c hc h⟩];rfl
   |some j=>
    obtain⟨_,h3,h4,_⟩:=ZAi hf
    simp only[oE,oS]
    rw[ZD fun h=>h4 (h.2.2 _ (gM h3))];simp
  ·rw[iN h2,ZD fun h=>h2 h.2.1]
 ·rw[iN (by rw[ZD h1];simp),ZD fun h=>h1 h.1]
theorem P.Yy {w:List Data}{d e:Nat}{as:List Ty}{depth x:Int}(hd:i64.wrap (depth-1)=(d:Int))
  (ih:∀a,a∈as->∀K r,rok K r->K+e<=1099511627776->∃p r',F.f59 r w a (d:Int)=some (p,r')/\rok (K+e) r'/\p.wt+1<=e):
  ∀(k K:Nat) (z:List Int) (z32:Int) (out:List Pattern),k<=as.length->rok K ⟨z,z32⟩->K+k*e<=1099511627776->out.length+k<=67108864->
   ∃z' z32' out',F.f60 w depth x as z z32 out (as.length-k)=some (z',z32',out')/\rok (K+k*e) ⟨z',z32'⟩/\wtL Pattern.wt out'<=wtL Pattern.wt out+k*e
 |0,K,z,z32,out,hk,hr,hK,ho=>by
  rw[F.f60,iN (by omega)]
  exact⟨z,z32,out,rfl,hr.mono (by omega),by omega⟩
 |k+1,K,z,z32,out,hk,hr,hK,ho=>by
  have hi:as.length- (k+1)<as.length:=by omega
  rw[zG,zN]at hK
  obtain⟨p,r1,e1,h1,h2⟩:=ih _ (gM hi) K ⟨z,z32⟩ hr (by omega)
  obtain⟨z',z32',out',f1,f2,f3⟩:=P.Yy hd ih k (K+e) r1.f0 r1.f1 (out++[p]) (by omega) h1 (by omega) (by simp;omega)
  rw[F.f60,iP hi,gQ hi]
  simp only[oE,oS]
  rw[hd,e1]
  simp only[oS]
  rw[iP (by omega)]
  have ei:as.length- (k+1)+1=as.length-k:=by omega
  rw[ei]
  refine⟨z',z32',out',f1,f2.mono (by rw[zG];omega),?_⟩
  have:wtL Pattern.wt (out++[p])=wtL Pattern.wt out+(1+p.wt):=by simp[wtL];omega
  rw[zG];omega
theorem P.YBH {w:List Data}(hw:ZN w):∀(d:Nat) (t:Ty) (K:Nat) (r:ZB),Ze w t->d<=12->rok K r->K+5^d<=1099511627776->
  ∃p r',F.f59 r w t (d:Int)=some (p,r')/\rok (K+5^d) r'/\p.wt+1<=5^d
 |0,t,K,r,ht,hd,hr,hK=>by
  rw[F.f59,iP (by omega)]
  exact⟨_,_,rfl,hr.mono (by omega),by rw[ZBu];simp⟩
 |1,t,K,r,ht,hd,hr,hK=>by
  rw[F.f59,iP (by omega)]
  exact⟨_,_,rfl,hr.mono (by omega),by rw[ZBu];simp⟩
 |d+2,t,K,r,ht,hd,hr,hK=>by
  have hpos:1<=5^d:=yE (show 0<5 by omega)
  have e25:5^ (d+2)=25*5^d:=by rw[zL,zL];omega
  have e7:5^ (d+1)=5*5^d:=by rw[zL];omega
  have hwr:i64.wrap (((d+2:Nat):Int) -1)=((d+1:Nat):Int):=by rw[ZC (by omega) (by omega)];omega
  have ih:=fun(a:Ty) (ha:Ze w a) (K:Nat) (r:ZB) hr hK=>P.YBH hw (d+1) a K r ha (by omega) hr hK
  rw[e25]at hK ⊢
  rw[e7]at ih
  generalize 5^d=q at hpos hK ih ⊢
  rw[F.f59,iN (by omega)]
  obtain⟨v1,r1,e1,h1,a1,b1,_⟩:=P.YO hr (by omega) 4
  rw[e1]
  simp only[oE,oS]
  split
  ·exact⟨_,_,rfl,h1.mono (by omega),by rw[ZBu];omega⟩
  obtain⟨v2,r2,e2,h2,a2,b2,_⟩:=P.YO h1 (by omega) 6
  rw[e2]
  simp only[oS]
  split
  ·rw[hwr]
   obtain⟨p1,r3,e3,h3,w3⟩:=ih t ht _ r2 h2 (by omega)
   obtain⟨p2,r4,e4,h4,w4⟩:=ih t ht _ r3 h3 (by omega)
   rw[e3]
   simp only[oS]
   rw[e4]
   exact⟨_,_,rfl,h4.mono (by omega),by rw[ZPg];show 2+p1.wt+p2.wt+1<=_;omega⟩
  ·split
   ·obtain⟨v3,r3,e3,h3,a3,b3,_⟩:=P.YO h2 (by omega) 10
    obtain⟨v4,r4,e4,h4,a4,b4,_⟩:=P.YO h3 (by omega) (i64.wrap (10-v3))
    obtain⟨v5,r5,e5,h5,a5,b5,_⟩:=P.YO h4 (by omega) 2
    rw[e3]
    simp only[oS]
    rw[e4]
    simp only[oS]
    rw[e5]
    exact⟨_,_,rfl,h5.mono (by omega),by rw[ZBu];omega⟩
   ·next hn=>
    rw[P.YG w hw t (ZBI ht.1)]
    simp only[oS]
    split
    ·exact⟨_,_,rfl,h2.mono (by omega),by rw[ZBu];omega⟩
    ·next hl=>
     obtain⟨v3,r3,e3,h3,a3,b3,_⟩:=P.YO h2 (by omega) ((ZP w t).length:Int)
     have b3:=b3 (by omega)
     obtain⟨c,hc,hm⟩:=ZE5 a3 b3
     rw[e3]
     simp only[oS]
     rw[hc]
     simp only[oS]
     rw[P.YD w hw t (ZBI ht.1) c hm]
     simp only[oS]
     have hal:(ZK w t c).length<=3:=by
      have:=(Zq hw (ZBI ht.1) (ZU hm).1).2 _ (ZBY hm).2
      unfold ZK;rw[yT];exact this.2.1
     have hmul:(ZK w t c).length*(5*q)<=3*(5*q):=zD _ hal
     obtain⟨z',z32',out',f1,f2,f3⟩:=P.Yy (x:=c) hwr (fun a ha K r hr hK=>ih a (ZE7 hw ht hm a ha) K r hr hK) (ZK w t c).length _ r3.f0 r3.f1 [] (zA _) h3 (by omega) (by simp;omega)
     rw[zE]at f1
     rw[f1]
     refine⟨_,_,rfl,f2.mono (by omega),?_⟩
     rw[Pattern.wt_eq]
     simp at f3
     show wtL Pattern.wt out'+1<=_
     omega
theorem P.YX {p:Pattern}{L:List Int->Int->List Pattern->Nat->Int->Option ((List Int)×Int×(List Pattern)×Int)}
  (hL:∀z z12 out i next,L z z12 out i next=if i<p.kids.length then
   (p.kids[i]?)>>=fun x=>
   (F.f61 (⟨z,z12⟩:ZB) x next)>>=fun v17=>
   if out.length+1<=67108864 then
    L v17.2.2.f0 v17.2.2.f1 (out++[v17.1]) (i+1) v17.2.1
   else none
  else
   some (z,z12,out,next))
  (ih:∀k,k∈p.kids->∀(n:Int) (K:Nat) (r:ZB),0<=n->n<=7->rok K r->K+3*(1+k.wt)<=1099511627776->k.wt<=1048576->
   ∃p' n' r',F.f61 r k n=some (p',n',r')/\rok (K+3*(1+k.wt)) r'/\0<=n'/\n'<=7/\p'.wt+1<=2*(1+k.wt)):
  ∀(k K:Nat) (z:List Int) (z12:Int) (out:List Pattern) (next:Int),k<=p.kids.length->rok K ⟨z,z12⟩->K+3*wtL Pattern.wt (p.kids.drop (p.kids.length-k))<=1099511627776->wtL Pattern.wt p.kids<=1048576->out.length+k<=67108864->0<=next->next<=7->
   ∃z' z12' out' next',L z z12 out (p.kids.length-k) next=some (z',z12',out',next')/\rok (K+3*wtL Pattern.wt (p.kids.drop (p.kids.length-k))) ⟨z',z12'⟩/\0<=next'/\next'<=7/\
    wtL Pattern.wt out'<=wtL Pattern.wt out+2*wtL Pattern.wt (p.kids.drop (p.kids.length-k))
 |0,K,z,z12,out,next,hk,hr,hK,hb,ho,n0,n7=>by
  rw[hL,iN (by omega)]
  exact⟨z,z12,out,next,rfl,hr.mono (by omega),n0,n7,by omega⟩
 |k+1,K,z,z12,out,next,hk,hr,hK,hb,ho,n0,n7=>by
  have hi:p.kids.length- (k+1)<p.kids.length:=by omega
  have ei:p.kids.length- (k+1)+1=p.kids.length-k:=by omega
  have hd:p.kids.drop (p.kids.length- (k+1))=p.kids[p.kids.length- (k+1)]::p.kids.drop (p.kids.length-k):=by rw[yF hi,ei]
  have hm:=ZAB Pattern.wt (gM hi)
  rw[hd,ZAq]at hK ⊢
  obtain⟨p',n',r1,e1,h1,q1,q2,q3⟩:=ih _ (gM hi) next K ⟨z,z12⟩ n0 n7 hr (by omega) (by omega)
  obtain⟨z',z12',out',next',f1,f2,f3,f4,f5⟩:=P.YX hL ih k _ r1.f0 r1.f1 (out++[p']) n' (by omega) h1 (by omega) hb (by simp;omega) q1 q2
  rw[hL,iP hi,gQ hi]
  simp only[oE,oS]
  rw[e1]
  simp only[oS]
  rw[iP (by omega),ei]
  refine⟨z',z12',out',next',f1,f2.mono (by omega),f3,f4,?_⟩
  have:wtL Pattern.wt (out++[p'])=wtL Pattern.wt out+(1+p'.wt):=by simp[wtL];omega
  omega
theorem P.YBW (p : Pattern) : ∀ (n : Int) (K : Nat) (r : ZB), 0 <= n -> n <= 7 -> rok K r -> K + 3 * (1 + p.wt) <= 1099511627776 -> p.wt <= 1048576 ->
   ∃p' n' r',F.f61 r p n=some (p',n',r')/\rok (K+3*(1+p.wt)) r'/\0<=n'/\n'<=7/\p'.wt+1<=2*(1+p.wt):=by
 induction p using Pattern.ind with
 |_ p ih=>
  intro n K r n0 n7 hr hK hb
  have hwt:=p.wt_eq
  have hlen:=ZBN Pattern.wt p.kids
  have same:p.wt+1<=2*(1+p.wt):=by omega
  rw[F.f61]
  split
  ·exact⟨_,_,_,rfl,hr.mono (by omega),n0,n7,same⟩
  split
  ·exact⟨_,_,_,rfl,hr.mono (by omega),n0,n7,same⟩
  split
  ·exact⟨_,_,_,rfl,hr.mono (by omega),n0,n7,same⟩
  have tail:∀(K':Nat) (z':List Int) (z12':Int) (out':List Pattern) (next':Int),rok K' ⟨z',z12'⟩->K'+1<=K+3*(1+p.wt)->0<=next'->next'<=7->wtL Pattern.wt out'<=2*p.wt->
    ∃p' n' r',(if next'<=5 then
     (F.f1 (⟨z',z12'⟩:ZB) 6).bind fun v24=>
     if v24.1=0 then
      some ((⟨6,0,0,0,next',[(⟨p.op,p.ctor,p.n,p.m,p.var,out'⟩:Pattern)]⟩:Pattern),i64.wrap (next'+1),v24.2)
     else
      some ((⟨p.op,p.ctor,p.n,p.m,p.var,out'⟩:Pattern),next',v24.2)
    else
     some ((⟨p.op,p.ctor,p.n,p.m,p.var,out'⟩:Pattern),next',(⟨z',z12'⟩:ZB)))=some (p',n',r')/\rok (K+3*(1+p.wt)) r'/\0<=n'/\n'<=7/\p'.wt+1<=2*(1+p.wt):=by
   intro K' z' z12' out' next' hr' hK' m0 m7 hout
   have hown:(⟨p.op,p.ctor,p.n,p.m,p.var,out'⟩:Pattern).wt=wtL Pattern.wt out':=by rw[Pattern.wt_eq]
   split
   ·obtain⟨v,r1,e1,h1,a1,b1,_⟩:=P.YO hr' (by omega) 6
    rw[e1]
    simp only[oS]
    have hwn:i64.wrap (next'+1)=next'+1:=ZC (by omega) (by omega)
    rw[hwn]
    split
    ·refine⟨_,_,_,rfl,h1.mono (by omega),by omega,by omega,?_⟩
     rw[ZPh,hown];omega
    ·refine⟨_,_,_,rfl,h1.mono (by omega),by omega,by omega,?_⟩
     rw[hown];omega
   ·refine⟨_,_,_,rfl,hr'.mono (by omega),m0,m7,?_⟩
    rw[hown];omega
  split
  ·obtain⟨v,r1,e1,h1,a1,b1,_⟩:=P.YO hr (by omega) 2
   rw[e1]
   simp only[oE,oS]
   have hwn:i64.wrap (n+1)=n+1:=ZC (by omega) (by omega)
   split
   ·rw[hwn]
    exact⟨_,_,_,rfl,h1.mono (by omega),by omega,by omega,by rw[ZBu];omega⟩
   ·obtain⟨z',z12',out',next',f1,f2,f3,f4,f5⟩:=P.YX (p:=p) (L:=F.f62 p n) (fun z z12 out i next=>by rw[F.f62]) ih p.kids.length _ r1.f0 r1.f1 [] n (zA _) h1 (by rw[zE,yI];omega) (by omega) (by simp;omega) n0 n7
    rw[zE]at f1;rw[zE,yI]at f2 f5
    rw[f1]
    simp only[oS]
    simp at f5
    exact tail _ z' z12' out' next' f2 (by omega) f3 f4 (by omega)
  ·obtain⟨z',z12',out',next',f1,f2,f3,f4,f5⟩:=P.YX (p:=p) (L:=F.f63 p n) (fun z z12 out i next=>by rw[F.f63]) ih p.kids.length _ r.f0 r.f1 [] n (zA _) hr (by rw[zE,yI];omega) (by omega) (by simp;omega) n0 n7
   rw[zE]at f1;rw[zE,yI]at f2 f5
   rw[f1]
   simp only[oE,oS]
   simp at f5
   exact tail _ z' z12' out' next' f2 (by omega) f3 f4 (by omega)
theorem ZRG (w:List Data)(t:Ty):ZBS w t ⟨1,0,0,0,0,[]⟩:=by
 have hp:ZG w t ⟨1,0,0,0,0,[]⟩=[]:=by simp[ZG]
 refine⟨⟨.inl ⟨rfl,rfl,rfl,rfl,rfl⟩,by rw[hp];rfl,fun i _ h=>by rw[hp]at h;simp at h⟩,⟨fun i _ h=>by rw[hp]at h;simp at h,?_⟩,by rw[ZBu];omega⟩
 rw[iN (by simp)]
 simp[ZG5,ZV]
variable {w:List Data}{t:Ty}{K:Nat}{r:ZB}
theorem P.YBP (hw:ZN w)(ht:Ze w t)(hr:rok K r)(hK:K+2600<=1099511627776):∃p r',F.f86 r w t=some (p,r')/\rok (K+2600) r'/\ZBS w t p:=by
 unfold F.f86
 obtain⟨v,r1,e1,h1,hv⟩:=P.num hr (by omega) [3,2,4,1] (by simp)
 obtain⟨d,rfl,hd⟩:∃d:Nat,v=(d:Int)/\d<=4:=by
  simp at hv
  exact⟨v.toNat,by omega,by omega⟩
 have h8:5^d<=625:=zU (Nat.pow_le_pow_right (n:=5) (by omega) hd) (by decide)
 obtain⟨p,r2,e2,h2,hp⟩:=P.YBH hw d t _ r1 ht (by omega) h1 (by omega)
 obtain⟨q,n,r3,e3,h3,_,_,hq⟩:=P.YBW p 0 _ r2 (by omega) (by omega) h2 (by omega) (by omega)
 rw[e1]
 simp only[oE,oS]
 rw[e2]
 simp only[oS]
 rw[e3]
 simp only[oS]
 rw[P.YAO w hw t ht q (by omega)]
 simp only[oS]
 by_cases h:ZBS w t q
 ·rw[iP (ZF h)]
  exact⟨_,_,rfl,h3.mono (by omega),h⟩
 ·rw[iN (by rw[ZD h];simp)]
  exact⟨_,_,rfl,h3.mono (by omega),ZRG w t⟩
theorem P.YBV (hw:ZN w)(ht:Ze w t)(hr:rok K r)(hK:K+20000<=1099511627776):∃p r',F.f86 r w t=some (p,r')/\rok (K+20000) r'/\ZBS w t p:=by
 obtain⟨p,r',e,h,hp⟩:=P.YBP hw ht hr (by omega)
 exact⟨p,r',e,h.mono (by omega),hp⟩
theorem P.YH (v:Pattern×ZB)(vs:List VarType):∀(k K:Nat) (z:List Int) (z4 z5 z6 z7:Int),k<=vs.length->rok K ⟨z,z4⟩->K+3*k<=1099511627776->
  ∃z' z4' z5' z6' z7',F.f87 v z z4 z5 z6 z7 vs (vs.length-k)=some (z',z4',z5',z6',z7')/\rok (K+3*k) ⟨z',z4'⟩
 |0,K,z,z4,z5,z6,z7,hk,hr,hK=>by
  rw[F.f87,iN (by omega)]
  exact⟨z,z4,z5,z6,z7,rfl,hr.mono (by omega)⟩
 |k+1,K,z,z4,z5,z6,z7,hk,hr,hK=>by
  have hi:vs.length- (k+1)<vs.length:=by omega
  have ei:vs.length- (k+1)+1=vs.length-k:=by omega
  rw[F.f87,iP hi,gQ hi]
  simp only[oE,oS]
  rw[ei]
  split
  ·obtain⟨v1,r1,e1,h1,_⟩:=P.YO hr (by omega) 2
   rw[e1]
   simp only[oS]
   split
   ·obtain⟨v2,r2,e2,h2,_⟩:=P.YO h1 (by omega) 2
    obtain⟨v3,r3,e3,h3,_⟩:=P.YO h2 (by omega) 10
    rw[e2]
    simp only[oS]
    rw[e3]
    simp only[oS]
    obtain⟨a,b,c,d,e,f1,f2⟩:=P.YH v vs k _ r3.f0 r3.f1 (i64.wrap (1+v2)) (vs[vs.length- (k+1)]).var v3 (by omega) h3 (by omega)
    exact⟨a,b,c,d,e,f1,f2.mono (by omega)⟩
   ·obtain⟨a,b,c,d,e,f1,f2⟩:=P.YH v vs k _ r1.f0 r1.f1 z5 z6 z7 (by omega) h1 (by omega)
    exact⟨a,b,c,d,e,f1,f2.mono (by omega)⟩
  ·obtain⟨a,b,c,d,e,f1,f2⟩:=P.YH v vs k _ z z4 z5 z6 z7 (by omega) hr (by omega)
   exact⟨a,b,c,d,e,f1,f2.mono (by omega)⟩
theorem P.YBG (hw:ZN w)(ht:Ze w t)(hr:rok K r)(hK:K+21000<=1099511627776):∃c r',F.f88 r w t=some (c,r')/\rok (K+21000) r'/\ZBS w t c.pat:=by
 unfold F.f88
 obtain⟨p,r1,e1,h1,hp⟩:=P.YBV hw ht hr (by omega)
 rw[e1]
 simp only[oE,oS]
 have hl:=ZBT w 10 t p
 have hb:=hp.2.2
 rw[P.YA w hw 10 t p [] ht hp.1 (by simp;omega)]
 simp only[oS,yM]
 obtain⟨a,b,c,d,e,f1,f2⟩:=P.YH (p,r1) (ZV w 10 t p) (ZV w 10 t p).length _ r1.f0 r1.f1 0 0 0 (zA _) h1 (by omega)
 rw[zE]at f1
 rw[f1]
 exact⟨_,_,rfl,f2.mono (by omega),hp⟩
theorem P.YAi (hr:rok K r)(hK:K+2<=1099511627776)(p:Pattern)(hp:p.wt<=1048576):∃p' r',F.f92 r p=some (p',r')/\rok (K+2) r'/\p'.wt<=p.wt+1:=by
 have hwt:=p.wt_eq
 have hlen:=ZBN Pattern.wt p.kids
 have own:∀(a b c d e:Int) (ks:List Pattern),(⟨a,b,c,d,e,ks⟩:Pattern).wt=wtL Pattern.wt ks:=fun a b c d e ks=>by rw[Pattern.wt_eq]
 unfold F.f92
 rw[iP (by omega)]
 obtain⟨v,r1,e1,h1,_⟩:=P.YO hr (by omega) 30
 rw[e1]
 simp only[oE,oS]
 split
 ·obtain⟨v2,r2,e2,h2,_⟩:=P.num h1 (by omega) [0,7,1,2,5] (by simp)
  rw[e2];exact⟨_,_,rfl,h2,by rw[own];omega⟩
 split
 ·obtain⟨v2,r2,e2,h2,_⟩:=P.num h1 (by omega) [6,-1,1] (by simp)
  rw[e2];exact⟨_,_,rfl,h2,by rw[own];omega⟩
 split
 ·obtain⟨v2,r2,e2,h2,_⟩:=P.num h1 (by omega) [9,-1,1] (by simp)
  rw[e2];exact⟨_,_,rfl,h2,by rw[own];omega⟩
 split
 ·rw[iP (by omega)]
  refine⟨_,_,rfl,h1.mono (by omega),?_⟩
  rw[own]
  have:wtL Pattern.wt (p.kids++[⟨2,0,0,0,0,[]⟩])=wtL Pattern.wt p.kids+(1+Pattern.wt ⟨2,0,0,0,0,[]⟩):=by simp[wtL];omega
  rw[this,ZBu];omega
 split
 ·split
  ·next h0=>
   rw[gQ h0]
   refine⟨_,_,rfl,h1.mono (by omega),?_⟩
   rw[own]
   have:=ZJ9 Pattern.wt p.kids 0 h0 ⟨2,0,0,0,0,[]⟩
   rw[ZBu]at this
   omega
  ·exact⟨_,_,rfl,h1.mono (by omega),by omega⟩
 split
 ·obtain⟨v2,r2,e2,h2,_⟩:=P.num h1 (by omega) [10,-1,5] (by simp)
  rw[e2];exact⟨_,_,rfl,h2,by rw[own];omega⟩
 ·exact⟨_,_,rfl,h1.mono (by omega),by omega⟩
def Tree.nodes :Tree->Nat
 |⟨_,_,_,_,branches,els⟩=>1+(branches.attach.map fun⟨b,_⟩=>Tree.nodes b.tree).sum+(els.attach.map fun⟨k,_⟩=>Tree.nodes k).sum
termination_by t=>SizeOf.sizeOf t
decreasing_by
 ·rename_i h
  have:=xZ h
  cases b
  simp at this ⊢
  omega
 ·rename_i h
  have:=xZ h
  simp
  omega
theorem P.YC (l:List Int)(h:l.length<=67108864):F.f156 l=some l:=by unfold F.f156;rw[iP h]
def ZKM :Nat->Tree->Prop
 |0,_=>False
 |n+1,x=>(0<=x.op/\x.op<=2/\x.els.length<=1/\x.branches.length<=10)/\(∀b,b∈x.branches->ZKM n b.tree)/\∀y,y∈x.els->ZKM n y
def right (x:Tree):Prop:=ZKM x.nodes x
theorem P.YN (a b:List Int):F.f247 a b=some (dec (a=b)):=by
 unfold F.f247
 by_cases hl:a.length=b.length
 ·rw[iP hl,ZH0 hl (L:=F.f246 a b) (fun i=>by rw[F.f246])]
  by_cases h:a=b
  ·rw[iP (ZF h),ZF h];rfl
  ·rw[iN (by rw[ZD h];simp),ZD h];rfl
 ·rw[iN hl,ZD fun h=>hl (by rw[h])]
def ZEJ (w:List Data):Nat->Ty->Pattern->Prop
 |0,_,_=>False
 |d+1,t,p=>ZAo w t p/\p.op≠5/\p.kids.length=(ZG w t p).length/\∀i (h:i<(ZG w t p).length) (h':i<p.kids.length),ZEJ w d (ZG w t p)[i] p.kids[i]
theorem ZDi {w:List Data}:∀{d:Nat} {t:Ty} {p:Pattern},ZEJ w d t p->ZEJ w (d+1) t p
 |0,_,_,h=>h.elim
 |d+1,t,p,⟨h1,h2,h3,h4⟩=>⟨h1,h2,h3,fun i h h'=>ZDi (h4 i h h')⟩
theorem ZKA :∀{a b:List Pattern},a.length=b.length->(∀i (h:i<a.length) (h':i<b.length),a[i].wt<=b[i].wt)->wtL Pattern.wt a<=wtL Pattern.wt b
 | [],[],_,_=>zA _
 | [],_::_,h,_=>by simp at h
 |_::_,[],h,_=>by simp at h
 |x::a,y::b,h,hh=>by
  have h0:=hh 0 (by simp) (by simp)
  have:=ZKA (a:=a) (b:=b) (by simpa using h) fun i hi hi'=>by have:=hh (i+1) (by simpa using hi) (by simpa using hi');simpa using this
  simp only[ZAq,xG]at h0 ⊢
  omega
theorem P.YBB (p:Pattern)(l:List (List Pattern)):∀(m i:Nat) (out:List Pattern),l.length-i=m->out.length+m<=67108864->F.f205 p l out i=some (out++(l.drop i).map fun x=>⟨p.op,p.ctor,p.n,p.m,p.var,x⟩)
 |0,i,out,hm,hb=>by rw[F.f205,iN (by omega),yG (by omega)];simp
 |m+1,i,out,hm,hb=>by
  have hi:i<l.length:=by omega
  rw[F.f205,iP hi,gQ hi]
  simp only[oE,oS]
  rw[iP (by omega),P.YBB p l m (i+1) _ (by omega) (by simp;omega),yF hi,yJ]
  simp[←List.map_drop]
theorem P.YBS {w:List Data}(hw:ZN w){t:Ty}(ht:Ze w t):∀(k K:Nat) (z:List Int) (z2:Int) (out:List Clause),k<=5->rok K ⟨z,z2⟩->K+k*21000<=1099511627776->out.length+k<=100->(∀c,c∈out->ZBS w t c.pat)->
  ∃z' z2' l,F.f89 w t z z2 out (k:Int)=some (z',z2',l)/\rok (K+k*21000) ⟨z',z2'⟩/\l.length=out.length+k/\∀c,c∈l->ZBS w t c.pat
 |0,K,z,z2,out,hk,hr,hK,ho,hp=>by
  rw[F.f89,iN (by omega)]
  exact⟨_,_,_,rfl,hr.mono (by omega),rfl,hp⟩
 |k+1,K,z,z2,out,hk,hr,hK,ho,hp=>by
  have hw1:i64.wrap (((k+1:Nat):Int) -1)=(k:Int):=by rw[ZC (by omega) (by omega)];omega
  obtain⟨c,r',e,h1,h2⟩:=P.YBG hw ht hr (by omega)
  rw[F.f89,iP (by omega),e,hw1]
  simp only[oE,oS]
  rw[iP (by omega)]
  obtain⟨z',z2',l,e2,q1,q2,q3⟩:=P.YBS hw ht k (K+21000) r'.f0 r'.f1 (out++[c]) (by omega) h1 (by omega) (by simp;omega) (fun x h=>by
   rcases yN.1 h with h|h
   ·exact hp x h
   ·rw[yY.1 h];exact h2)
  exact⟨z',z2',l,e2,q1.mono (by omega),by simp at q2;omega,q3⟩
theorem P.YBU (hw:ZN w)(ht:Ze w t)(hr:rok K r)(hK:K+106000<=1099511627776):∃l r',F.f90 r w t=some (l,r')/\rok (K+106000) r'/\l.length<=5/\∀c,c∈l->ZBS w t c.pat:=by
 unfold F.f90
 obtain⟨v,r1,e1,h1,hv⟩:=P.num hr (by omega) [3,2,4,5,1,0] (by simp)
 obtain⟨k,rfl,hk⟩:∃k:Nat,v=(k:Int)/\k<=5:=by
  simp at hv
  exact⟨v.toNat,by omega,by omega⟩
 obtain⟨z',z2',l,e2,q1,q2,q3⟩:=P.YBS hw ht k _ r1.f0 r1.f1 [] hk h1 (by omega) (by simp;omega) (by simp)
 rw[e1]
 simp only[oE,oS]
 rw[e2]
 exact⟨_,_,rfl,q1.mono (by omega),by simp at q2;simp only;omega,q3⟩
theorem P.Yv (v:Int×ZB):∀(k:Nat) (out:List Clause),out.length+k=9->(∀c,c∈out->c.pat.wt<=1000010)->∃l,F.f93 v out=some l/\l.length=9/\∀c,c∈l->c.pat.wt<=1000010
 |0,out,h,hp=>by rw[F.f93,iN (by omega)];exact⟨_,rfl,by omega,hp⟩
 |k+1,out,h,hp=>by
  rw[F.f93,iP (by omega),iP (by omega)]
  exact P.Yv v k (out++[⟨⟨1,0,0,0,0,[]⟩,⟨0,0,0⟩⟩]) (by simp;omega) (fun c hc=>by
   rcases yN.1 hc with hc|hc
   ·exact hp c hc
   ·rw[yY.1 hc];simp only;rw[ZBu];omega)
theorem P.YBF (hr:rok K r)(hK:K+5<=1099511627776)(l:List Clause)(hl:l.length<=8)(hp:∀c,c∈l->c.pat.wt<=1000000):∃l' r',F.f94 r l=some (l',r')/\rok (K+5) r'/\l'.length<=9/\∀c,c∈l'->c.pat.wt<=1000010:=by
 have hp':∀c,c∈l->c.pat.wt<=1000010:=fun c h=>by have:=hp c h;omega
 have setOk:∀x:Clause,x.pat.wt<=1000010->∀c,c∈l.set 0 x->c.pat.wt<=1000010:=fun x hx c hc=>by
  rcases List.mem_or_eq_of_mem_set hc with h|h
  ·exact hp' c h
  ·rw[h];exact hx
 unfold F.f94
 rw[iP (by omega)]
 obtain⟨v,r1,e1,h1,_⟩:=P.YO hr (by omega) 24
 rw[e1]
 simp only[oE,oS]
 split
 ·split
  ·next h0=>
   obtain⟨v2,r2,e2,h2,_⟩:=P.num h1 (by omega) [1,2,3,-1] (by simp)
   obtain⟨v3,r3,e3,h3,_⟩:=P.num h2 (by omega) [0,5,9] (by simp)
   obtain⟨v4,r4,e4,h4,_⟩:=P.num h3 (by omega) [3,10,-1] (by simp)
   rw[e2]
   simp only[oS]
   rw[e3]
   simp only[oS]
   rw[e4]
   simp only[oS]
   rw[gQ h0]
   exact⟨_,_,rfl,h4.mono (by omega),by simp;omega,setOk _ (by simpa using hp' _ (gM h0))⟩
  ·exact⟨_,_,rfl,h1.mono (by omega),by omega,hp'⟩
 split
 ·split
  ·next h0=>
   have hx:=hp _ (gM h0)
   obtain⟨p2,r2,e2,h2,w2⟩:=P.YAi h1 (by omega) l[0].pat (by omega)
   obtain⟨p3,r3,e3,h3,w3⟩:=P.YAi h2 (by omega) p2 (by omega)
   rw[gQ h0]
   simp only[oS]
   rw[e2]
   simp only[oS]
   rw[e3]
   exact⟨_,_,rfl,h3.mono (by omega),by simp;omega,setOk _ (by show p3.wt<=_;omega)⟩
  ·exact⟨_,_,rfl,h1.mono (by omega),by omega,hp'⟩
 split
 ·obtain⟨l',e2,q1,q2⟩:=P.Yv (v,r1) (9-l.length) l (by omega) hp'
  rw[e2]
  exact⟨_,_,rfl,h1.mono (by omega),by omega,q2⟩
 ·exact⟨_,_,rfl,h1.mono (by omega),by omega,hp'⟩
theorem P.YBO (hr:rok K r)(hK:K+107000<=1099511627776):∃w t l v r' T,F.f91 r=some (w,t,l,v,r')/\rok (K+107000) r'/\w∈ZAr/\F.f53 w=some T/\TOk w T/\Ze w t/\l.length<=5/\(∀c,c∈l->ZBS w t c.pat)/\pv w false 4 t v/\v.wt+1<=256:=by
 obtain⟨w,t,v,r1,T,e1,h1,hw,hT',hT,a1,a2,a3,_,hv,hvw,a4⟩:=P.YBI hr (by omega)
 have ht:Ze w t:=by
  refine⟨?_,a3⟩
  rcases a1 with q|⟨q1,q2,q3,q4⟩
  ·exact .inl ⟨q,a4 q⟩
  ·exact .inr ⟨q1,q2,by omega,q4⟩
 obtain⟨l,r2,e2,h2,l1,l2⟩:=P.YBU hT.wok ht h1 (by omega)
 unfold F.f91
 rw[e1]
 simp only[oE,oS]
 rw[e2]
 exact⟨w,t,l,v,r2,T,rfl,h2.mono (by omega),hw,hT',hT,ht,l1,l2,hv,hvw⟩
def ZAg :List Nat->Nat
 | []=>1
 |a::r=>a*ZAg r
def Pattern.alts :Pattern->Nat
 |⟨op,_,_,_,_,kids⟩=>if op=5 then(kids.map fun k=>Pattern.alts k).sum else ZAg (kids.map fun k=>Pattern.alts k)
theorem ZFq (p:Pattern):p.alts=if p.op=5 then(p.kids.map Pattern.alts).sum else ZAg (p.kids.map Pattern.alts):=by
 cases p;rw[Pattern.alts]
theorem ZOh (a b:Nat):min (min a 401+min b 401) 401=min (a+b) 401:=by omega
theorem ZOg (a b:Nat):min (min a 401*min b 401) 401=min (a*b) 401:=by
 by_cases ha:a<=401
 ·by_cases hb:b<=401
  ·rw[zP ha,zP hb]
  ·rw[zP ha,zS (by omega:401<=b)]
   rcases zW a with rfl|h
   ·simp
   ·have h1:1*401<=a*401:=zD _ h
    have h2:1*b<=a*b:=zD _ h
    omega
 ·rw[zS (by omega:401<=a)]
  rcases zW b with rfl|h
  ·simp
  ·have h0:1<=min b 401:=by omega
   have h1:401*1<=401*min b 401:=zI _ h0
   have h2:a*1<=a*b:=zI _ h
   omega
theorem P.YAt (p:Pattern):F.f146 p=some ((min p.alts 401:Nat):Int):=by
 induction p using Pattern.ind with
 |_ p ih=>
  have e:=ZFq p
  rw[F.f146]
  by_cases h5:p.op=5
  ·rw[iP h5]at e ⊢
   have key:∀(m i n:Nat),p.kids.length-i=m->F.f147 p i ((min n 401:Nat):Int)=some ((min (n+((p.kids.drop i).map Pattern.alts).sum) 401:Nat):Int):=by
    intro m
    induction m with
    |zero=>intro i n hm;rw[F.f147,iN (by omega),yG (by omega)];simp
    |succ m ihm=>
     intro i n hm
     have hi:i<p.kids.length:=by omega
     rw[F.f147,iP hi,gQ hi]
     simp only[oE,oS]
     rw[iP h5,ih _ (gM hi)]
     simp only[oS]
     have hw:i64.wrap (((min n 401:Nat):Int)+((min p.kids[i].alts 401:Nat):Int))=((min n 401+min p.kids[i].alts 401:Nat):Int):=by rw[ZC (by omega) (by omega)];omega
     have hr:(if 401<((min n 401+min p.kids[i].alts 401:Nat):Int)then 401 else((min n 401+min p.kids[i].alts 401:Nat):Int))=((min (n+p.kids[i].alts) 401:Nat):Int):=by
      rw[←ZOh];split<;>omega
     rw[hw,hr,ihm (i+1) _ (by omega),yF hi,yJ,xL,zJ]
   have k0:=key _ 0 0 rfl
   rw[yI,zH,←e]at k0
   rw[show F.f147 p 0 0=some ((min p.alts 401:Nat):Int)from k0]
   rfl
  ·rw[iN h5]at e ⊢
   have key:∀(m i n:Nat),p.kids.length-i=m->F.f148 p i ((min n 401:Nat):Int)=some ((min (n*ZAg ((p.kids.drop i).map Pattern.alts)) 401:Nat):Int):=by
    intro m
    induction m with
    |zero=>intro i n hm;rw[F.f148,iN (by omega),yG (by omega)];simp[ZAg]
    |succ m ihm=>
     intro i n hm
     have hi:i<p.kids.length:=by omega
     rw[F.f148,iP hi,gQ hi]
     simp only[oE,oS]
     rw[iN h5,ih _ (gM hi)]
     simp only[oS]
     have hb:min n 401*min p.kids[i].alts 401<=401*401:=zT (by omega) (by omega)
     have hw:i64.wrap (((min n 401:Nat):Int)*((min p.kids[i].alts 401:Nat):Int))=((min n 401*min p.kids[i].alts 401:Nat):Int):=by
      rw[←Int.natCast_mul,ZC (by omega) (by omega)]
     have hr:(if 401<((min n 401*min p.kids[i].alts 401:Nat):Int)then 401 else((min n 401*min p.kids[i].alts 401:Nat):Int))=((min (n*p.kids[i].alts) 401:Nat):Int):=by
      rw[←ZOg]
      generalize min n 401*min p.kids[i].alts 401=z
      split<;>omega
     rw[hw,hr,ihm (i+1) _ (by omega),yF hi,yJ,ZAg,zF]
   have k0:=key _ 0 1 rfl
   rw[yI,zN,←e]at k0
   rw[show F.f148 p 0 1=some ((min p.alts 401:Nat):Int)from k0]
   rfl
theorem ZCT :∀{l:List Nat},(∀x,x∈l->1<=x)->1<=ZAg l
 | [],_=>zA _
 |a::r,h=>by
  have h1:=h a (by simp)
  have h2:=ZCT (l:=r) fun x hx=>h x (yP _ hx)
  exact zT h1 h2
theorem ZFp {w:List Data}:∀{d:Nat} {t:Ty} {p:Pattern},Zj w d t p->1<=p.alts
 |0,_,_,h=>h.elim
 |d+1,t,p,⟨ho,hl,hk⟩=>by
  have hks:∀k,k∈p.kids->1<=k.alts:=fun k hm=>by
   obtain⟨i,hi,rfl⟩:=yW hm
   exact ZFp (hk i (zB _) (by omega) (by omega) hi)
  rw[ZFq]
  split
  ·next h5=>
   have e5:=Zy ho h5
   have h2:p.kids.length=2:=by rw[hl,e5];rfl
   have q0:=hks _ (gM (show 0<p.kids.length by omega))
   have e9:(([p.kids[0]'(by omega),p.kids[1]'(by omega)]:List Pattern).map Pattern.alts).sum=(p.kids[0]'(by omega)).alts+(p.kids[1]'(by omega)).alts:=by simp
   rw[←ZDZ h2]at e9
   omega
  ·exact ZCT fun x hx=>by
    obtain⟨k,hk2,rfl⟩:=yR.1 hx
    exact hks k hk2
theorem ZEj {l:List Nat}(h:∀x,x∈l->1<=x)(i:Nat):ZAg (l.take i)<=ZAg l:=by
 induction l generalizing i with
 |nil=>simp[ZAg]
 |cons a r ih=>
  have hr:∀x,x∈r->1<=x:=fun x hx=>h x (yP _ hx)
  cases i with
  |zero=>exact ZCT h
  |succ i=>exact zI _ (ih hr i)
theorem ZJM (l:List Nat)(a:Nat):ZAg (l++[a])=ZAg l*a:=by
 induction l with
 |nil=>simp[ZAg]
 |cons b r ih=>simp only[xI,ZAg,ih,zF]
theorem ZKg {l:List Nat}(h:∀x,x∈l->1<=x){a:Nat}(ha:a∈l):a<=ZAg l:=by
 induction l with
 |nil=>cases ha
 |cons b r ih=>
  have hr:∀x,x∈r->1<=x:=fun x hx=>h x (yP _ hx)
  have h1:=h b (by simp)
  have h2:=ZCT hr
  rcases xB.1 ha with rfl|ha
  ·have:=zI a h2;rw[zQ]at this;exact this
  ·have h3:=ih hr ha
   have h4:=zD (ZAg r) h1
   rw[zN]at h4
   exact zU h3 h4
theorem P.YAe (p:Pattern)(list:List Pattern)(i:Nat)(v:List Pattern)(i17:Nat)(q:Pattern)(hq:q.kids.length<=1048576):∀(m j:Nat) (more:List Pattern),v.length-j=m->more.length+m<=67108864->
  F.f150 p list i v i17 q more j=some (more++(v.drop j).map fun x=>⟨q.op,q.ctor,q.n,q.m,q.var,q.kids++[x]⟩)
 |0,j,more,hm,hb=>by rw[F.f150,iN (by omega),yG (by omega)];simp
 |m+1,j,more,hm,hb=>by
  have hj:j<v.length:=by omega
  rw[F.f150,iP hj,gQ hj]
  simp only[oE,oS]
  unfold F.f149
  rw[iP (by omega)]
  simp only[oS]
  rw[iP (by omega),iP (by omega),P.YAe p list i v i17 q hq m (j+1) _ (by omega) (by simp;omega),yF hj,yJ]
  simp
def Zh {β:Type}(op:Int)(path:List Int):Nat->List (List Int->List β)->List β
 |_,[]=>[]
 |i,f::r=>f (if op=4 then path++[(i:Int)]else path)++Zh op path (i+1) r
def Pattern.tst :Pattern->List Int->List Step
 |⟨op,ctor,n,m,_,kids⟩=>fun path=>(if op=3 then[(⟨1,path,-1,n,m,0,[],0⟩:Step)]else if op=4 then[⟨1,path,ctor,0,0,0,[],0⟩]else[])++Zh op path 0 (kids.map fun k=>Pattern.tst k)
def Pattern.bnd :Pattern->List Int->List PathBind
 |⟨op,_,_,_,var,kids⟩=>fun path=>(if op=2∨op=6 then[(⟨var,path⟩:PathBind)]else[])++Zh op path 0 (kids.map fun k=>Pattern.bnd k)
theorem ZEY (p:Pattern)(path:List Int):p.tst path=(if p.op=3 then[(⟨1,path,-1,p.n,p.m,0,[],0⟩:Step)]else if p.op=4 then[⟨1,path,p.ctor,0,0,0,[],0⟩]else[])++Zh p.op path 0 (p.kids.map Pattern.tst):=by
 cases p;rw[Pattern.tst]
theorem ZDK (p:Pattern)(path:List Int):p.bnd path=(if p.op=2∨p.op=6 then[(⟨p.var,path⟩:PathBind)]else[])++Zh p.op path 0 (p.kids.map Pattern.bnd):=by
 cases p;rw[Pattern.bnd]
theorem ZCt {β:Type}(op:Int)(g:Pattern->List Int->List β)(path:List Int):∀(l:List Pattern) (h:∀k,k∈l->∀path,(g k path).length<=1+k.wt) (i:Nat),(Zh op path i (l.map g)).length<=wtL Pattern.wt l
 | [],h,i=>by simp[Zh]
 |k::r,h,i=>by
  have h1:=h k (yV ..) (if op=4 then path++[(i:Int)]else path)
  have h2:=ZCt op g path r (fun k hk=>h k (yP _ hk)) (i+1)
  rw[yJ,Zh,yH,ZAq]
  omega
theorem ZDf (p:Pattern):∀path,(p.tst path).length<=1+p.wt:=by
 induction p using Pattern.ind with
 |_ p ih=>
  intro path
  have h1:=ZCt p.op Pattern.tst path p.kids ih 0
  rw[ZEY,yH,p.wt_eq]
  grind
theorem ZC3 (p:Pattern):∀path,(p.bnd path).length<=1+p.wt:=by
 induction p using Pattern.ind with
 |_ p ih=>
  intro path
  have h1:=ZCt p.op Pattern.bnd path p.kids ih 0
  rw[ZDK,yH,p.wt_eq]
  grind
theorem ZEb {p:Pattern}{path:List Int}{L:List Step->List PathBind->Nat->Option (List Step×List PathBind)}
  (hL:∀o b i,L o b i=if i<p.kids.length then(p.kids[i]?)>>=fun x=>if p.op=4 then(F.f156 path)>>=fun v=>if v.length+1<=67108864 then(F.f157 x (v++[(i:Int)]) o b)>>=fun v15=>L v15.1 v15.2 (i+1)else none
   else(F.f157 x path o b)>>=fun v18=>L v18.1 v18.2 (i+1)else some (o,b))
  (ih:∀k,k∈p.kids->∀(path:List Int) o b,path.length+k.wt<=67108863->o.length+(1+k.wt)<=67108864->b.length+(1+k.wt)<=67108864->F.f157 k path o b=some (o++k.tst path,b++k.bnd path)) (hp:path.length+p.wt<=67108863):
  ∀(m i:Nat) (o:List Step) (b:List PathBind),p.kids.length-i=m->o.length+wtL Pattern.wt (p.kids.drop i)<=67108864->b.length+wtL Pattern.wt (p.kids.drop i)<=67108864->
   L o b i=some (o++Zh p.op path i ((p.kids.drop i).map Pattern.tst),b++Zh p.op path i ((p.kids.drop i).map Pattern.bnd))
 |0,i,o,b,hm,h1,h2=>by rw[hL,iN (by omega),yG (by omega)];simp[Zh]
 |m+1,i,o,b,hm,h1,h2=>by
  have hi:i<p.kids.length:=by omega
  have hk:1+p.kids[i].wt<=p.wt:=by rw[p.wt_eq];exact ZAB Pattern.wt (gM hi)
  have ed:p.kids.drop i=p.kids[i]::p.kids.drop (i+1):=yF hi
  rw[ed,ZAq]at h1 h2
  have e:L o b i=(F.f157 p.kids[i] (if p.op=4 then path++[(i:Int)]else path) o b)>>=fun v15=>L v15.1 v15.2 (i+1):=by
   rw[hL,iP hi,gQ hi]
   simp only[oE,oS]
   by_cases h4:p.op=4
   ·rw[iP h4,iP h4,P.YC path (by omega)]
    grind
   ·rw[iN h4,iN h4]
  have hpl:(if p.op=4 then path++[(i:Int)]else path).length<=path.length+1:=by split<;>simp
  rw[e,ih _ (gM hi) _ o b (by omega) (by omega) (by omega)]
  simp only[oE,oS]
  have t1:=ZDf p.kids[i] (if p.op=4 then path++[(i:Int)]else path)
  have t2:=ZC3 p.kids[i] (if p.op=4 then path++[(i:Int)]else path)
  rw[ZEb hL ih hp m (i+1) _ _ (by omega) (by rw[yH];omega) (by rw[yH];omega),ed]
  simp only[yJ,Zh,yK]
theorem P.YAp (p:Pattern):∀(path:List Int) (o:List Step) (b:List PathBind),path.length+p.wt<=67108863->o.length+(1+p.wt)<=67108864->b.length+(1+p.wt)<=67108864->F.f157 p path o b=some (o++p.tst path,b++p.bnd path):=by
 induction p using Pattern.ind with
 |_ p ih=>
  intro path o b h1 h2 h3
  have hw:=p.wt_eq
  have key:=fun(L:List Step->List PathBind->Nat->Option (List Step×List PathBind)) hL o b q1 q2=>ZEb (p:=p) (path:=path) (L:=L) hL ih h1 _ 0 o b rfl q1 q2
  simp only[yI]at key
  rw[F.f157,P.YC path (by omega),ZEY,ZDK]
  simp only[oE,oS]
  by_cases c2:p.op=2
  ·rw[iP c2,iP (by omega),key (F.f158 p path) (fun o b i=>by rw[F.f158]) _ _ (by omega) (by simp;omega)]
   simp[c2]
  ·rw[iN c2]
   by_cases c6:p.op=6
   ·rw[iP c6,iP (by omega),key (F.f159 p path) (fun o b i=>by rw[F.f159]) _ _ (by omega) (by simp;omega)]
    simp[c6]
   ·rw[iN c6]
    by_cases c3:p.op=3
    ·rw[iP c3,iP (by omega),key (F.f160 p path) (fun o b i=>by rw[F.f160]) _ _ (by simp;omega) (by omega)]
     simp[c3]
    ·rw[iN c3]
     by_cases c4:p.op=4
     ·rw[iP c4,iP (by omega),key (F.f161 p path) (fun o b i=>by rw[F.f161]) _ _ (by simp;omega) (by omega)]
      simp[c4]
     ·rw[iN c4,key (F.f162 p path) (fun o b i=>by rw[F.f162]) _ _ (by omega) (by omega)]
      simp[c2,c3,c4,c6]
theorem ZDu (path:List Int)(i:Int)(h:path.length+1<=67108864):F.f208 path i=some (path++[i]):=by
 unfold F.f208
 grind
theorem ZIh {p:Pattern}{path:List Int}(c4:p.op=4)(ih:∀k,k∈p.kids->∀(path:List Int) o,path.length+k.wt<=67108863->o.length+(1+k.wt)<=67108864->F.f209 o k path=some (o++k.tst path))(hp:path.length+p.wt<=67108863):
  ∀(m i:Nat) (o:List Step),p.kids.length-i=m->o.length+wtL Pattern.wt (p.kids.drop i)<=67108864->F.f210 p path o i=some (o++Zh p.op path i ((p.kids.drop i).map Pattern.tst))
 |0,i,o,hm,h1=>by rw[F.f210,iN (by omega),yG (by omega)];simp[Zh]
 |m+1,i,o,hm,h1=>by
  have hi:i<p.kids.length:=by omega
  have hk:1+p.kids[i].wt<=p.wt:=by rw[p.wt_eq];exact ZAB Pattern.wt (gM hi)
  have ed:p.kids.drop i=p.kids[i]::p.kids.drop (i+1):=yF hi
  rw[ed,ZAq]at h1
  rw[F.f210,iP hi,gQ hi]
  simp only[oE,oS]
  rw[ZDu path i (by omega)]
  simp only[oS]
  rw[ih _ (gM hi) _ o (by simp;omega) (by omega)]
  simp only[oS]
  have t1:=ZDf p.kids[i] (path++[(i:Int)])
  rw[ZIh c4 ih hp m (i+1) _ (by omega) (by rw[yH];omega),ed]
  simp only[yJ,Zh,yK,iP c4]
theorem ZL5 {d:Nat}{p:Pattern}(h:ZEJ w (d+1) t p)(h4:p.op≠4)(h6:p.op≠6):p.kids=[]:=by
 obtain⟨_,h5,hl,_⟩:=h
 unfold ZG at hl
 grind
theorem P.YAy (w:List Data):∀(d:Nat) (t:Ty) (p:Pattern),ZEJ w d t p->∀(path:List Int) (o:List Step),path.length+p.wt<=67108863->o.length+(1+p.wt)<=67108864->F.f209 o p path=some (o++p.tst path)
 |0,_,_,h,_,_,_,_=>h.elim
 |d+1,t,p,hs,path,o,q1,q2=>by
  have nil:=ZL5 hs
  obtain⟨h1,h5,hl,hk⟩:=hs
  have hw:=p.wt_eq
  have ih:∀k,k∈p.kids->∀(path:List Int) o,path.length+k.wt<=67108863->o.length+(1+k.wt)<=67108864->F.f209 o k path=some (o++k.tst path):=fun k hk' path o r1 r2=>by
   obtain⟨i,hi,rfl⟩:=vB.1 hk'
   exact P.YAy w d _ _ (hk i (by omega) hi) path o r1 r2
  rw[F.f209,ZEY]
  by_cases c6:p.op=6
  ·have et:ZG w t p=[t]:=by unfold ZG;rw[iN (by omega),iN (by omega),iP c6]
   rw[et]at hl
   obtain⟨k,ek⟩:=List.length_eq_one_iff.1 hl
   have hwk:p.wt=1+k.wt:=by rw[hw,ek];simp[wtL]
   rw[iP c6,ek]
   simp only[List.getElem?_cons_zero,oE,oS]
   rw[ih k (by simp[ek]) path o (by omega) (by omega)]
   simp[c6,Zh]
  ·rw[iN c6]
   by_cases c3:p.op=3
   ·rw[iP c3,iP (by omega),iP (by omega),nil (by omega) c6]
    simp[c3,Zh]
   ·rw[iN c3]
    by_cases c4:p.op=4
    ·have key:=ZIh c4 ih q1 _ 0 (o++[(⟨1,path,p.ctor,0,0,0,[],0⟩:Step)]) rfl (by rw[yI];simp;omega)
     grind
    ·rw[iN c4,nil c4 c6]
     simp[c3,c4,Zh]
theorem ZIi {p:Pattern}{path:List Int}{L:List PathBind->Nat->Option (List PathBind)}
  (hL:∀o i,L o i=if i<p.kids.length then if p.op=4 then(F.f208 path (i:Int))>>=fun v=>(p.kids[i]?)>>=fun x=>(F.f211 o x v)>>=fun v15=>L v15 (i+1)
   else(p.kids[i]?)>>=fun x18=>(F.f211 o x18 path)>>=fun v20=>L v20 (i+1)else some o)
  (ih:∀k,k∈p.kids->∀(path:List Int) o,path.length+k.wt<=67108863->o.length+(1+k.wt)<=67108864->F.f211 o k path=some (o++k.bnd path)) (hp:path.length+p.wt<=67108863):
  ∀(m i:Nat) (o:List PathBind),p.kids.length-i=m->o.length+wtL Pattern.wt (p.kids.drop i)<=67108864->L o i=some (o++Zh p.op path i ((p.kids.drop i).map Pattern.bnd))
 |0,i,o,hm,h1=>by rw[hL,iN (by omega),yG (by omega)];simp[Zh]
 |m+1,i,o,hm,h1=>by
  have hi:i<p.kids.length:=by omega
  have hk:1+p.kids[i].wt<=p.wt:=by rw[p.wt_eq];exact ZAB Pattern.wt (gM hi)
  have ed:p.kids.drop i=p.kids[i]::p.kids.drop (i+1):=yF hi
  rw[ed,ZAq]at h1
  have e:L o i=(F.f211 o p.kids[i] (if p.op=4 then path++[(i:Int)]else path))>>=fun v15=>L v15 (i+1):=by
   rw[hL,iP hi,gQ hi]
   by_cases h4:p.op=4
   ·rw[iP h4,iP h4,ZDu path i (by omega)]
    grind
   ·grind
  have hpl:(if p.op=4 then path++[(i:Int)]else path).length<=path.length+1:=by split<;>simp
  rw[e,ih _ (gM hi) _ o (by omega) (by omega)]
  simp only[oE,oS]
  have t2:=ZC3 p.kids[i] (if p.op=4 then path++[(i:Int)]else path)
  rw[ZIi hL ih hp m (i+1) _ (by omega) (by rw[yH];omega),ed]
  simp only[yJ,Zh,yK]
theorem P.YBM (p:Pattern):∀(path:List Int) (o:List PathBind),path.length+p.wt<=67108863->o.length+(1+p.wt)<=67108864->F.f211 o p path=some (o++p.bnd path):=by
 induction p using Pattern.ind with
 |_ p ih=>
  intro path o h1 h2
  have hw:=p.wt_eq
  have key:=fun(L:List PathBind->Nat->Option (List PathBind)) hL o q1=>ZIi (p:=p) (path:=path) (L:=L) hL ih h1 _ 0 o rfl q1
  simp only[yI]at key
  rw[F.f211,ZDK]
  by_cases c2:p.op=2
  ·rw[iP c2,iP (by omega),iP (by omega),key (F.f214 p path) (fun o i=>by rw[F.f214]) _ (by simp;omega)]
   simp[c2]
  ·rw[iN c2]
   by_cases c6:p.op=6
   ·rw[iP c6,iP (by omega),iP (by omega),key (F.f212 p path) (fun o i=>by rw[F.f212]) _ (by simp;omega)]
    simp[c6]
   ·rw[iN c6,key (F.f213 p path) (fun o i=>by rw[F.f213]) _ (by omega)]
    simp[c2,c6]
theorem ZEr {w:List Data}{d:Nat}(op:Int)(path:List Int):∀(ts:List Ty) (ks:List Pattern) (j:Nat),ts.length=ks.length->(∀i (h:i<ts.length) (h':i<ks.length),∀path,(ks[i].bnd path).map PathBind.var=(ZV w d ts[i] ks[i]).map VarType.var)->
  (Zh op path j (ks.map Pattern.bnd)).map PathBind.var=((ts.zip ks).flatMap fun x=>ZV w d x.1 x.2).map VarType.var
 | [],[],j,_,_=>rfl
 | [],_::_,_,h,_=>by simp at h
 |_::_,[],_,h,_=>by simp at h
 |t::ts,k::ks,j,hl,h=>by
  have h0:=h 0 (by simp) (by simp) (if op=4 then path++[(j:Int)]else path)
  have h1:=ZEr op path ts ks (j+1) (by simpa using hl) fun i hi hi' path=>by have:=h (i+1) (by simpa using hi) (by simpa using hi') path;simpa using this
  rw[yJ,Zh,yS,h1,xN,yU,yS]
  congr 1
theorem ZIr (w:List Data):∀(d:Nat) (t:Ty) (q:Pattern),ZEJ w d t q->∀path,(q.bnd path).map PathBind.var=(ZV w d t q).map VarType.var
 |0,_,_,h,_=>h.elim
 |d+1,t,q,⟨h1,h5,hl,hk⟩,path=>by
  rw[ZDK,ZV,iN h5,yL (by simp;omega),yS,yS,ZEr (w:=w) (d:=d) q.op path (ZG w t q) q.kids 0 hl.symm fun i hi hi' path=>ZIr w d _ _ (hk i hi hi') path]
  grind
def ZAv (list v:List Pattern):List Pattern:=list.flatMap fun q=>v.map fun x=>⟨q.op,q.ctor,q.n,q.m,q.var,q.kids++[x]⟩
def Pattern.splits :Pattern->List Pattern
 |⟨op,ctor,n,m,var,kids⟩=>if op=5 then(kids.map fun k=>Pattern.splits k).flatten else(kids.map fun k=>Pattern.splits k).foldl ZAv [⟨op,ctor,n,m,var,[]⟩]
theorem ZCJ (p:Pattern):p.splits=if p.op=5 then(p.kids.map Pattern.splits).flatten else(p.kids.map Pattern.splits).foldl ZAv [⟨p.op,p.ctor,p.n,p.m,p.var,[]⟩]:=by
 cases p;rw[Pattern.splits]
theorem ZE9 (list v:List Pattern):(ZAv list v).length=list.length*v.length:=by
 unfold ZAv
 induction list with
 |nil=>simp
 |cons q r ih=>rw[yU,yH,ih,yT,yO,zG,zN,zR]
theorem ZGe :∀(vs:List (List Pattern)) (list:List Pattern),(vs.foldl ZAv list).length=list.length*ZAg (vs.map vT)
 | [],list=>by simp[ZAg]
 |v::vs,list=>by rw[xA,ZGe vs,ZE9,yJ,ZAg,zF]
theorem ZAM (p:Pattern):p.splits.length=p.alts:=by
 induction p using Pattern.ind with
 |_ p ih=>
  have e:(p.kids.map Pattern.splits).map vT=p.kids.map Pattern.alts:=by simp_all
  rw[ZCJ,ZFq]
  by_cases h5:p.op=5
  ·grind
  ·rw[iN h5,iN h5,ZGe,e];simp
theorem ZGd {G:Nat->Pattern->Prop}{p:Pattern}:∀(vs:List (List Pattern)) (i:Nat) (list:List Pattern) (hv:∀k (h:k<vs.length) x,x∈vs[k]->G (i+k) x)
  (hl:∀q,q∈list->q=⟨p.op,p.ctor,p.n,p.m,p.var,q.kids⟩/\q.kids.length=i/\∀k (h:k<q.kids.length),G k q.kids[k]) (q:Pattern) (hq:q∈vs.foldl ZAv list),
  q=⟨p.op,p.ctor,p.n,p.m,p.var,q.kids⟩/\q.kids.length=i+vs.length/\∀k (h:k<q.kids.length),G k q.kids[k]
 | [],i,list,hv,hl,q,hq=>hl q hq
 |v::vs,i,list,hv,hl,q,hq=>by
  rw[xA]at hq
  have:=ZGd vs (i+1) (ZAv list v) (fun k h x hx=>by have:=hv (k+1) (by simpa using h) x (by simpa using hx);rw[show i+(k+1)=i+1+k by omega]at this;exact this) (fun q hq=>by
   obtain⟨q0,h0,hq⟩:=xH.1 hq
   obtain⟨x,hx,rfl⟩:=yR.1 hq
   obtain⟨e1,e2,e3⟩:=hl q0 h0
   have f1:q0.op=p.op:=by rw[e1]
   have f2:q0.ctor=p.ctor:=by rw[e1]
   have f3:q0.n=p.n:=by rw[e1]
   have f4:q0.m=p.m:=by rw[e1]
   have f5:q0.var=p.var:=by rw[e1]
   refine⟨?_,by simp[e2],fun k hk=> ?_⟩
   ·show(⟨q0.op,q0.ctor,q0.n,q0.m,q0.var,q0.kids++[x]⟩:Pattern)=⟨p.op,p.ctor,p.n,p.m,p.var,q0.kids++[x]⟩
    rw[f1,f2,f3,f4,f5]
   ·by_cases hk':k<q0.kids.length
    ·grind
    ·have:k=i:=by simp at hk;omega
     subst this
     show G k (q0.kids++[x])[k]
     rw[xU (by omega)]
     have:=hv 0 (by simp) x (by simpa using hx)
     simpa[e2]using this) q hq
  grind
theorem P.YAM (p:Pattern)(list:List Pattern)(i:Nat)(v:List Pattern)(hq:∀q,q∈list->q.kids.length<=1048576)(hb:list.length*v.length<=60000000)(hll:list.length<=1048576):
  ∀(m k:Nat) (more:List Pattern),list.length-k=m->k<=list.length->more.length=k*v.length->F.f151 p list i v more k=some (more++ZAv (list.drop k) v)
 |0,k,more,hm,hk,ho=>by
  rw[F.f151,iN (by omega),yG (by omega)]
  simp[ZAv]
 |m+1,k,more,hm,hk,ho=>by
  have hkl:k<list.length:=by omega
  have hmul:(k+1)*v.length<=list.length*v.length:=zD _ hkl
  rw[zG,zN]at hmul
  rw[F.f151,iP hkl,gQ hkl]
  simp only[oE,oS]
  rw[P.YAe p list i v k list[k] (hq _ (gM hkl)) _ 0 more rfl (by omega)]
  simp only[oS]
  rw[iP (by omega),P.YAM p list i v hq hb hll m (k+1) _ (by omega) (by omega) (by rw[yH,yT,yI,ho,zG,zN]),yF hkl,yI]
  simp only[ZAv,yU,yK]
theorem P.YAS {w:List Data}:∀(d:Nat) (t:Ty) (p:Pattern),Zj w d t p->p.wt<=1048576->p.alts<=400->F.f152 p=some p.splits
 |0,_,_,h,_,_=>h.elim
 |d+1,t,p,⟨ho,hl,hk⟩,hw,ha=>by
  have hwk:∀i (h:i<p.kids.length),1+p.kids[i].wt<=p.wt:=fun i h=>by rw[p.wt_eq];exact ZAB Pattern.wt (gM h)
  have hkl:p.kids.length<=p.wt:=by rw[p.wt_eq];exact ZBN Pattern.wt p.kids
  have hsh:∀i (h:i<p.kids.length),∃u,Zj w d u p.kids[i]:=fun i h=>⟨_,hk i (zB _) (by omega) (by omega) h⟩
  have hpos:∀x,x∈p.kids.map Pattern.alts->1<=x:=fun x hx=>by
   obtain⟨k,hk2,rfl⟩:=yR.1 hx
   obtain⟨i,hi,rfl⟩:=yW hk2
   obtain⟨u,hu⟩:=hsh i hi
   exact ZFp hu
  have e:=ZFq p
  rw[F.f152,ZCJ]
  by_cases h5:p.op=5
  ·rw[iP h5]at e ⊢
   rw[iP h5]
   have e5:=Zy ho h5
   have h2:p.kids.length=2:=by rw[hl,e5];rfl
   have e2:p.kids=[p.kids[0]'(by omega),p.kids[1]'(by omega)]:=ZDZ h2
   have es:p.alts=(p.kids[0]'(by omega)).alts+(p.kids[1]'(by omega)).alts:=by grind
   obtain⟨u0,s0⟩:=hsh 0 (by omega)
   obtain⟨u1,s1⟩:=hsh 1 (by omega)
   have w0:=hwk 0 (by omega)
   have w1:=hwk 1 (by omega)
   have ea:=P.YAS d u0 _ s0 (by omega) (by omega)
   have eb:=P.YAS d u1 _ s1 (by omega) (by omega)
   have la:=ZAM (p.kids[0]'(by omega))
   have lb:=ZAM (p.kids[1]'(by omega))
   have es2:(p.kids.map Pattern.splits).flatten=(p.kids[0]'(by omega)).splits++(p.kids[1]'(by omega)).splits:=by grind
   rw[gQ (by omega),gQ (by omega)]
   simp only[oE,oS]
   grind
  ·rw[iN h5]at e ⊢
   rw[iN h5]
   have key:∀(m i:Nat) (list:List Pattern),p.kids.length-i=m->i<=p.kids.length->list.length=ZAg ((p.kids.map Pattern.alts).take i)->(∀q,q∈list->q.kids.length=i)->
     F.f153 p list i=some (((p.kids.map Pattern.splits).drop i).foldl ZAv list):=by
    intro m
    induction m with
    |zero=>
     intro i list hm hi hlen hq
     rw[F.f153,iN (by omega),yG (by simp;omega)]
     rfl
    |succ m ihm=>
     intro i list hm hi hlen hq
     have hik:i<p.kids.length:=by omega
     obtain⟨u,hu⟩:=hsh i hik
     have hm1:p.kids[i].alts<=ZAg (p.kids.map Pattern.alts):=ZKg hpos (yR.2 ⟨_,gM hik,rfl⟩)
     have hm2:=ZEj hpos i
     have hwi:=hwk i hik
     have ev:=P.YAS d u _ hu (by omega) (by omega)
     have lv:=ZAM p.kids[i]
     have hts:(p.kids.map Pattern.alts).take (i+1)=(p.kids.map Pattern.alts).take i++[p.kids[i].alts]:=by
      rw[xE (by simpa using hik)];simp
     have hprod:list.length*p.kids[i].splits.length=ZAg ((p.kids.map Pattern.alts).take (i+1)):=by rw[hts,ZJM,hlen,lv]
     have hm3:=ZEj hpos (i+1)
     have el:=P.YAM p list i p.kids[i].splits (fun q h=>by rw[hq q h];omega) (by rw[hprod];omega) (by omega) _ 0 [] rfl (zB _) (by simp)
     rw[yM,yI]at el
     rw[F.f153,iP hik,gQ hik]
     simp only[oE,oS]
     rw[ev]
     simp only[oS]
     rw[el]
     simp only[oS]
     rw[iP (by omega),ihm (i+1) _ (by omega) (by omega) (by rw[ZE9,hprod]) fun q h=>by
      obtain⟨q0,h0,h⟩:=xH.1 h
      obtain⟨x,_,rfl⟩:=yR.1 h
      simp[hq q0 h0]]
     rw[yF (show i<(p.kids.map Pattern.splits).length by simpa using hik),xA,xV]
   have k0:=key _ 0 [⟨p.op,p.ctor,p.n,p.m,p.var,[]⟩] rfl (zB _) (by simp[ZAg]) (fun q h=>by rw[yY.1 h];rfl)
   grind
theorem ZIG {f:Ty×Pattern->List VarType}:∀(ts:List Ty) (qs ks:List Pattern),qs.length=ts.length->ks.length=ts.length->(∀i (h:i<ts.length) (h1:i<qs.length) (h2:i<ks.length),((f (ts[i],qs[i])).map VarType.var).Perm ((f (ts[i],ks[i])).map VarType.var))->
  (((ts.zip qs).flatMap f).map VarType.var).Perm (((ts.zip ks).flatMap f).map VarType.var)
 | [],_,_,_,_,_=>by simp
 |t::ts,[],_,h,_,_=>by simp at h
 |t::ts,_::_,[],_,h,_=>by simp at h
 |t::ts,q::qs,k::ks,h1,h2,h=>by
  have h0:=h 0 (by simp) (by simp) (by simp)
  have hr:=ZIG ts qs ks (by simpa using h1) (by simpa using h2) fun i a b c=>by have:=h (i+1) (by simpa using a) (by simpa using b) (by simpa using c);simpa using this
  rw[xN,xN,yU,yU,yS,yS]
  grind
theorem ZJA {a b:List VarType}(ha:ZG5 a)(h:ZHK a b):(a.map VarType.var).Perm (b.map VarType.var):=by
 obtain⟨hl,hs⟩:=h
 have sub:∀l l':List VarType,l.length=l'.length->l.Nodup->(∀x,x∈l->x∈l')->l.Perm l':=by
  intro l
  induction l with
  |nil=>intro l' h _ _;rw[xS (l:=l') (by simpa using h.symm)]
  |cons x r ih=>
   intro l' h hn hs
   obtain⟨s,t,rfl⟩:=vK (hs x (yV ..))
   rw[xM]at hn
   refine((ih (s++t) (by simp at h ⊢;omega) hn.2 fun y hy=> ?_).cons x).trans vM.symm
   grind
 have hn:a.Nodup:=by
  unfold ZG5 at ha
  exact List.Pairwise.of_map VarType.var (fun a b h e=>h (congrArg _ e)) ha
 grind
theorem ZNU {f g:Ty×Pattern->List VarType}:∀(ts:List Ty) (ks:List Pattern),ks.length=ts.length->(∀i (h:i<ts.length) (h2:i<ks.length),f (ts[i],ks[i])=g (ts[i],ks[i]))->(ts.zip ks).flatMap f=(ts.zip ks).flatMap g
 | [],_,_,_=>by simp
 |t::ts,[],h,_=>by simp at h
 |t::ts,k::ks,h2,h=>by
  have h0:=h 0 (by simp) (by simp)
  have hr:=ZNU ts ks (by simpa using h2) fun i a c=>by have:=h (i+1) (by simpa using a) (by simpa using c);simpa using this
  simp_all
theorem ZCr {w:List Data}:∀(d:Nat) (t:Ty) (q:Pattern),ZEJ w d t q->ZV w (d+1) t q=ZV w d t q
 |0,_,_,h=>h.elim
 |d+1,t,q,⟨h1,h5,hl,hk⟩=>by
  rw[ZV,ZV,iN h5,yL (by simp;omega)]
  congr 1
  exact ZNU _ _ hl fun i h h2=>ZCr d _ _ (hk i h h2)
theorem ZBQ {w:List Data}:∀(d:Nat) (t:Ty) (p:Pattern),Zj w d t p->ZFv w d t p->∀q,q∈p.splits->ZEJ w d t q/\((ZV w d t q).map VarType.var).Perm ((ZV w d t p).map VarType.var)/\q.wt<=p.wt
 |0,_,_,h,_,_,_=>h.elim
 |d+1,t,p,⟨ho,hl,hk⟩,⟨hlk,hlin⟩,q,hq=>by
  have hwk:∀i (h:i<p.kids.length),1+p.kids[i].wt<=p.wt:=fun i h=>by rw[p.wt_eq];exact ZAB Pattern.wt (gM h)
  have ih:∀i (h:i<(ZG w t p).length) (h':i<p.kids.length) q,q∈p.kids[i].splits->ZEJ w d (ZG w t p)[i] q/\((ZV w d (ZG w t p)[i] q).map VarType.var).Perm ((ZV w d (ZG w t p)[i] p.kids[i]).map VarType.var)/\q.wt<=p.kids[i].wt:=
   fun i h h' q hq=>ZBQ d _ _ (hk i (zB _) h h h') (hlk i (zB _) h h h') q hq
  rw[ZCJ]at hq
  by_cases h5:p.op=5
  ·rw[iP h5]at hq hlin
   have et:=Zy ho h5
   have h2:p.kids.length=2:=by rw[hl,et];rfl
   have ev:=ZDW (d:=d) ho h5 (by omega)
   have es2:(p.kids.map Pattern.splits).flatten=(p.kids[0]'(by omega)).splits++(p.kids[1]'(by omega)).splits:=by
    have e9:(([p.kids[0]'(by omega),p.kids[1]'(by omega)]:List Pattern).map Pattern.splits).flatten=(p.kids[0]'(by omega)).splits++(p.kids[1]'(by omega)).splits:=by simp
    rw[←ZDZ h2]at e9;exact e9
   rw[es2]at hq
   have hall:∀x,x∈ZG w t p->x=t:=by rw[et];simp
   have t0:∀i (h:i<(ZG w t p).length),(ZG w t p)[i]=t:=fun i h=>hall _ (gM h)
   have i0:=ih 0 (by omega) (by omega)
   have i1:=ih 1 (by omega) (by omega)
   have s0:=hk 0 (zB _) (by omega) (by omega) (by omega)
   have l0:=hlk 0 (zB _) (by omega) (by omega) (by omega)
   have s1:=hk 1 (zB _) (by omega) (by omega) (by omega)
   have l1:=hlk 1 (zB _) (by omega) (by omega) (by omega)
   rw[t0]at i0 i1 s0 l0 s1 l1
   have w0:=hwk 0 (by omega)
   have w1:=hwk 1 (by omega)
   rcases yN.1 hq with hq|hq
   ·obtain⟨a1,a2,a3⟩:=i0 q hq
    exact⟨ZDi a1,by rw[ZCr d t q a1,ev];exact a2,by omega⟩
   ·obtain⟨a1,a2,a3⟩:=i1 q hq
    refine⟨ZDi a1,?_,by omega⟩
    rw[ZCr d t q a1,ev]
    exact a2.trans (ZJA (ZBk s0 l0) (hlin (by omega) (by omega))).symm
  ·rw[iN h5]at hq
   obtain⟨e1,e2,e3⟩:=ZGd (G:=fun k x=>∀h:k<p.kids.length,x∈p.kids[k].splits) (p:=p) _ 0 _ (fun k h x hx h'=>by
    have e:(0+k)=k:=zH k
    simp only[xV]at hx
    simpa only[e]using hx) (fun q hq=>by rw[yY.1 hq];exact⟨rfl,rfl,fun k h=>absurd h (by simp)⟩) q hq
   rw[yT,zH]at e2
   have eo:q.op=p.op:=by rw[e1]
   have ec:q.ctor=p.ctor:=by rw[e1]
   have en:q.n=p.n:=by rw[e1]
   have em:q.m=p.m:=by rw[e1]
   have ew:q.var=p.var:=by rw[e1]
   have ety:ZG w t q=ZG w t p:=by unfold ZG;rw[eo,ec]
   have eow:ZAo w t q:=by unfold ZAo at ho ⊢;rw[eo,ec,en,em,ew];exact ho
   have ihq:∀i (h:i<(ZG w t p).length) (h1:i<q.kids.length) (h':i<p.kids.length),ZEJ w d (ZG w t p)[i] q.kids[i]/\((ZV w d (ZG w t p)[i] q.kids[i]).map VarType.var).Perm ((ZV w d (ZG w t p)[i] p.kids[i]).map VarType.var)/\q.kids[i].wt<=p.kids[i].wt:=
    fun i h h1 h'=>ih i h h' _ (e3 i h1 h')
   refine⟨⟨eow,by omega,by rw[ety];omega,fun i h h'=> ?_⟩,?_,?_⟩
   ·grind
   ·have vp:ZV w (d+1) t p=(if p.op=2∨p.op=6 then[⟨p.var,t⟩]else[])++((ZG w t p).zip p.kids).flatMap fun x=>ZV w d x.1 x.2:=by
     rw[ZV,iN h5,yL (by rw[vQ];omega)]
    have vq:ZV w (d+1) t q=(if p.op=2∨p.op=6 then[⟨p.var,t⟩]else[])++((ZG w t p).zip q.kids).flatMap fun x=>ZV w d x.1 x.2:=by
     rw[ZV,iN (show ¬q.op=5 by omega),yL (by rw[vQ];omega),ety,eo,ew]
    rw[vp,vq,yS,yS]
    exact(ZIG _ _ _ (by omega) hl fun i h h1 h2=>(ihq i h h1 h2).2.1).append_left _
   ·rw[q.wt_eq,p.wt_eq]
    exact ZKA (by omega) fun i h h'=>(ihq i (by omega) h h').2.2
theorem ZF1 {d:Nat}{p:Pattern}(h1:Zj w d t p)(h2:ZFv w d t p){q:Pattern}(hq:q∈p.splits)(path:List Int):((q.bnd path).map PathBind.var).Nodup:=by
 obtain⟨s1,s2,_⟩:=ZBQ d t p h1 h2 q hq
 rw[ZIr w d t q s1 path]
 exact s2.nodup_iff.2 (ZBk h1 h2)
/-! The reference cuts a pattern's choices off at 401. -/
theorem ZBH (n:Nat)(a b:List α):((a.take n)++b).take n=(a++b).take n:=by
 rw[xC,xC,vD,Nat.min_self]
 grind
theorem P.YAv {lists:List (List Pattern)}{i:Nat}(hi:i<lists.length){out:List (List Pattern)}{k:Nat}(hk:k<out.length)(hR:out[k].length<=1048576)(hx:lists[i].length<=401):
  ∀(m j:Nat) (next:List (List Pattern)),lists[i].length-j=m->next.length<=401->F.f201 lists out i k next j=some ((next++(lists[i].drop j).map fun x=>out[k]++[x]).take 401)
 |m,j,next,hm,hn=>by
  rw[F.f201,gQ hi]
  simp only[oE,oS]
  by_cases hj:j<lists[i].length
  ·rw[iP hj]
   by_cases h4:next.length<=400
   ·rw[iP h4,gQ hk]
    simp only[oS]
    rw[iP (by omega),gQ hj]
    simp only[oS]
    rw[iP (by omega),iP (by omega),iP (by omega)]
    match m,hm with
    |0,hm=>omega
    |m+1,hm=>
     rw[P.YAv hi hk hR hx m (j+1) _ (by omega) (by simp;omega),yF hj,yJ,yK]
     rfl
   ·grind
  ·rw[iN hj,yG (by omega),xO,xT,yL (by omega)]
def addT (out:List (List Pattern))(v:List Pattern):List (List Pattern):=out.flatMap fun x=>v.map fun y=>x++[y]
theorem P.YAw {lists:List (List Pattern)}{i:Nat}(hi:i<lists.length){out:List (List Pattern)}(ho:out.length<=401)(hR:∀x,x∈out->x.length<=1048576)(hx:lists[i].length<=401):
  ∀(m k:Nat) (next:List (List Pattern)),out.length-k=m->next.length<=401->F.f202 lists out i next k=some ((next++addT (out.drop k) lists[i]).take 401)
 |m,k,next,hm,hn=>by
  rw[F.f202]
  by_cases hk:k<out.length
  ·rw[iP hk]
   by_cases h4:next.length<=400
   ·rw[iP h4,P.YAv hi hk (hR _ (gM hk)) hx _ 0 next rfl hn]
    simp only[oE,oS]
    rw[iP (by omega)]
    match m,hm with
    |0,hm=>omega
    |m+1,hm=>
     rw[P.YAw hi ho hR hx m (k+1) _ (by omega) (by rw[xD];omega),ZBH,yI,yF hk]
     simp only[addT,yU,yK]
   ·grind
  ·rw[iN hk,yG (by omega)]
   simp only[addT,List.flatMap_nil,xT]
   rw[yL (by omega)]
theorem ZFy {β:Type}{f:α->List β}(hf:∀x,f x≠[])(n:Nat):∀l:List α,((l.take n).flatMap f).take n=(l.flatMap f).take n:=by
 have key:∀(l:List α) (n m:Nat),m<=n->((l.take n).flatMap f).take m=(l.flatMap f).take m:=by
  intro l
  induction l with
  |nil=>intro n m _;simp
  |cons x r ih=>
   intro n m hm
   cases n with
   |zero=>grind
   |succ n=>
    rw[vC,yU,yU,xC,xC,ih n (m- (f x).length) (by have:=vJ.2 (hf x);omega)]
 grind
theorem ZEc {α β γ:Type}(g:α->β->γ)(n:Nat)(v:List β):∀(l:List α) (m:Nat),m<=n->(l.flatMap fun x=>(v.take n).map (g x)).take m=(l.flatMap fun x=>v.map (g x)).take m
 | [],m,_=>by simp
 |x::r,m,hm=>by
  rw[yU,yU,xC,xC,yT,yT,xD,←vR,←vR,vD,zP hm]
  by_cases h:v.length<=n
  ·rw[zS h,ZEc g n v r _ (by omega)]
  ·rw[show m-min n v.length=0 by omega,show m-v.length=0 by omega]
   simp
theorem ZLh {v:List Pattern}(hv:v≠[])(out:List (List Pattern)):(addT (out.take 401) (v.take 401)).take 401=(addT out v).take 401:=by
 unfold addT
 rw[ZEc (fun(x:List Pattern) y=>x++[y]) 401 v _ 401 (zA _),ZFy (fun x h=>hv (List.map_eq_nil_iff.1 h))]
theorem P.YAx {Ls:List (List Pattern)}(hb:Ls.length<=1048576)(hne:∀L,L∈Ls->L≠[]):
  ∀(m i:Nat) (out:List (List Pattern)),Ls.length-i=m->(∀x,x∈out->x.length=i)->i<=Ls.length->F.f203 (Ls.map fun L=>L.take 401) (out.take 401) i=some (((Ls.drop i).foldl addT out).take 401)
 |m,i,out,hm,hR,hi=>by
  rw[F.f203]
  by_cases h:i<Ls.length
  ·have h':i<(Ls.map fun L=>L.take 401).length:=by simpa using h
   have ei:(Ls.map fun L=>L.take 401)[i]=Ls[i].take 401:=xV ..
   rw[iP h',P.YAw h' (by rw[xD];omega) (fun x hx=>by rw[hR x (vH hx)];omega) (by rw[ei,xD];omega) _ 0 [] rfl (by simp)]
   simp only[oE,oS,yM,yI]
   rw[iP (by omega),ei,ZLh (hne _ (gM h))]
   match m,hm with
   |0,hm=>omega
   |m+1,hm=>
    rw[P.YAx hb hne m (i+1) _ (by omega) (fun x hx=>by
     obtain⟨y,hy,hx⟩:=xH.1 hx
     obtain⟨z,_,rfl⟩:=yR.1 hx
     simp[hR y hy]) (by omega),yF h,xA]
  ·grind
theorem ZEv (mk:List Pattern->Pattern)(hmk:∀q,mk q=⟨(mk q).op,(mk q).ctor,(mk q).n,(mk q).m,(mk q).var,q⟩)(hmk2:∀a b,(⟨(mk a).op,(mk a).ctor,(mk a).n,(mk a).m,(mk a).var,b⟩:Pattern)=mk b)(hk:∀a,(mk a).kids=a):
  ∀(Ls:List (List Pattern)) (out:List (List Pattern)),Ls.foldl ZAv (out.map mk)=(Ls.foldl addT out).map mk
 | [],out=>rfl
 |L::Ls,out=>by
  have e:ZAv (out.map mk) L=(addT out L).map mk:=by
   unfold ZAv addT
   rw[List.flatMap_map,List.map_flatMap]
   refine congrArg (fun f=>out.flatMap f) (funext fun x=> ?_)
   simp_all
  rw[xA,xA,e,ZEv mk hmk hmk2 hk Ls]
theorem P.YAN (p:Pattern)(h:∀i (h:i<p.kids.length),F.f206 p.kids[i]=some (p.kids[i].splits.take 401))(hk:p.kids.length<=67108863):
  ∀(m i:Nat) (out:List (List Pattern)),p.kids.length-i=m->out.length=i->F.f207 p out i=some (out++(p.kids.drop i).map fun k=>k.splits.take 401)
 |0,i,out,hm,ho=>by rw[F.f207,iN (by omega),yG (by omega)];simp
 |m+1,i,out,hm,ho=>by
  have hi':i<p.kids.length:=by omega
  rw[F.f207,iP hi',gQ hi']
  simp only[oE,oS]
  rw[h i hi']
  simp only[oS]
  rw[iP (by omega),P.YAN p h hk m (i+1) _ (by omega) (by simp[ho]),yF hi',yJ,yK]
  rfl
theorem P.Yx (w:List Data):∀(d:Nat) (t:Ty) (p:Pattern),Zj w d t p->p.wt<=1048576->F.f206 p=some (p.splits.take 401)
 |0,_,_,h,_=>h.elim
 |d+1,t,p,⟨h1,h2,h3⟩,hw=>by
  have hwk:∀i (h:i<p.kids.length),1+p.kids[i].wt<=p.wt:=fun i h=>by rw[p.wt_eq];exact ZAB Pattern.wt (gM h)
  have hkl:p.kids.length<=p.wt:=by rw[p.wt_eq];exact ZBN Pattern.wt p.kids
  have hsh:∀i (h:i<p.kids.length),∃u,Zj w d u p.kids[i]:=fun i h=>⟨_,h3 i (zB _) (by omega) (by omega) h⟩
  have ih:∀i (h':i<p.kids.length),F.f206 p.kids[i]=some (p.kids[i].splits.take 401):=fun i h'=>by
   obtain⟨u,hu⟩:=hsh i h'
   exact P.Yx w d _ _ hu (by have:=hwk i h';omega)
  rw[F.f206,ZCJ]
  by_cases h5:p.op=5
  ·have ht:ZG w t p=[t,t]:=Zy h1 h5
   have k2:p.kids.length=2:=by rw[h2,ht];rfl
   have es2:(p.kids.map Pattern.splits).flatten=(p.kids[0]'(by omega)).splits++(p.kids[1]'(by omega)).splits:=by
    have e9:(([p.kids[0]'(by omega),p.kids[1]'(by omega)]:List Pattern).map Pattern.splits).flatten=(p.kids[0]'(by omega)).splits++(p.kids[1]'(by omega)).splits:=by simp
    rw[←ZDZ k2]at e9;exact e9
   rw[iP h5,iP h5,es2,gQ (by omega),gQ (by omega)]
   simp only[oE,oS]
   rw[ih 0 (by omega),ih 1 (by omega)]
   simp only[oS]
   generalize(p.kids[0]'(by omega)).splits=a
   generalize(p.kids[1]'(by omega)).splits=b
   have e:((a.take 401)++(b.take 401)).take 401=(a++b).take 401:=by
    rw[ZBH,xC,xC,vD]
    grind
   have l1:(a.take 401).length<=401:=by rw[xD];omega
   have l2:(b.take 401).length<=401:=by rw[xD];omega
   rw[iP (by omega)]
   by_cases hc:401<(a.take 401++b.take 401).length
   ·grind
   ·have e2:(a.take 401++b.take 401).take 401=a.take 401++b.take 401:=yL (by omega)
    rw[iN hc,←e,e2]
  ·have key:=P.YAN p ih (by omega) _ 0 [] rfl rfl
   rw[yI,yM]at key
   have hne:∀L,L∈p.kids.map Pattern.splits->L≠[]:=fun L hL hn=>by
    obtain⟨k,hk,rfl⟩:=yR.1 hL
    obtain⟨i,hi,rfl⟩:=vB.1 hk
    obtain⟨u,hu⟩:=hsh i hi
    have l1:=ZAM p.kids[i]
    have l2:=ZFp hu
    grind
   have t1:=P.YAx (Ls:=p.kids.map Pattern.splits) (by simp;omega) hne _ 0 [[]] rfl (by simp) (zB _)
   rw[vS,yI]at t1
   rw[iN h5,iN h5,key]
   simp only[oE,oS]
   unfold F.f204
   rw[show F.f203 (p.kids.map fun k=>k.splits.take 401) [[]] 0=some (((p.kids.map Pattern.splits).foldl addT [[]]).take 401)from t1]
   simp only[oE,oS]
   rw[P.YBB p _ _ 0 [] rfl (by rw[xD,yQ];omega),yI,yM]
   have e:=ZEv (fun ks=>⟨p.op,p.ctor,p.n,p.m,p.var,ks⟩) (fun q=>rfl) (fun a b=>rfl) (fun a=>rfl) (p.kids.map Pattern.splits) [[]]
   simp_all
/-! The code of clauses. -/
theorem ZDV {α:Type}{f:α->α}{L:List α->Nat->Option (List α)}{n:Nat}(hL:∀out k,out.length=n->L out k=if h:k<out.length then L (out.set k (f out[k])) (k+1)else some out):
  ∀(m k:Nat) (out:List α),out.length=n->out.length-k=m->k<=out.length->L out k=some (out.take k++(out.drop k).map f)
 |0,k,out,hn,hm,hk=>by
  rw[hL out k hn,dif_neg (by omega),yG (by omega),yL (by omega)]
  simp
 |m+1,k,out,hn,hm,hk=>by
  have hk':k<out.length:=by omega
  rw[hL out k hn,dif_pos hk',ZDV hL m (k+1) _ (by simpa using hn) (by simp;omega) (by simp;omega)]
  have e1:(out.set k (f out[k])).take (k+1)=out.take k++[f out[k]]:=by
   rw[xE (by simpa using hk'),List.take_set_of_le (zA _)]
   simp
  have e2:(out.set k (f out[k])).drop (k+1)=out.drop (k+1):=List.drop_set_of_lt (by omega)
  rw[e1,e2,yF hk',yJ]
  simp
def ZNv (i:Nat)(q:Pattern)(e:Int):Step:=⟨2,[],0,0,0,(i:Int),sortI (fun x=>x.var) (q.bnd []),e⟩
def toS (e:Int)(s:Step):Step:=⟨s.op,s.path,s.ctor,s.n,s.m,s.clause,s.binds,e⟩
def ZZ (g:Nat->Int)(i:Nat):Nat->List Pattern->List Step
 |_,[]=>[]
 |n,q::r=>((q.tst []).map (toS ((n+(q.tst []).length+1:Nat):Int))++[ZNv i q (g (n+(q.tst []).length+1))])++ZZ g i (n+(q.tst []).length+1) r
theorem ZAZ (g g':Nat->Int)(i:Nat):∀(qs:List Pattern) (n:Nat),(ZZ g i n qs).length=(ZZ g' i n qs).length
 | [],n=>rfl
 |q::r,n=>by simp only[ZZ,yH,ZAZ g g' i r];simp
theorem ZGS {β:Type}{R:β->Prop}(op:Int)(g:Pattern->List Int->List β)(path:List Int):∀(l:List Pattern) (h:∀k,k∈l->∀path s,s∈g k path->R s) (i:Nat) (s:β),s∈Zh op path i (l.map g)->R s
 | [],h,i,s,hs=>by simp[Zh]at hs
 |k::r,h,i,s,hs=>by
  rw[yJ,Zh,yN]at hs
  rcases hs with hs|hs
  ·grind
  ·exact ZGS op g path r (fun k hk=>h k (yP _ hk)) (i+1) s hs
theorem ZPm (p:Pattern):∀path s,s∈p.tst path->s.op=1:=by
 induction p using Pattern.ind with
 |_ p ih=>
  intro path s hs
  rw[ZEY,yN]at hs
  rcases hs with hs|hs
  ·grind
  ·exact ZGS p.op Pattern.tst path p.kids ih 0 s hs
theorem P.YAB (v4:List (List Pattern)×Bool)(out:List Step)(i:Nat)(x:List Pattern)(hx:∀q,q∈x->q.wt<=900/\((q.bnd []).map PathBind.var).Nodup)(hxl:x.length<=1000):
  ∀(m j:Nat) (o:List Step),x.length-j=m->o.length+m*1000<=67108000->F.f165 v4 out i x o j=some (o++ZZ (fun _=>0) i o.length (x.drop j))
 |0,j,o,hm,hb=>by
  rw[F.f165,iN (by omega),yG (by omega)]
  simp[ZZ]
 |m+1,j,o,hm,hb=>by
  have hj:j<x.length:=by omega
  obtain⟨w1,n1⟩:=hx _ (gM hj)
  have t1:=ZDf x[j] []
  have b1:=ZC3 x[j] []
  rw[F.f165,iP hj,gQ hj]
  simp only[oE,oS]
  rw[P.YAp x[j] [] o [] (by simp;omega) (by omega) (by simp;omega)]
  simp only[oS,yM]
  unfold F.f163
  rw[iP ⟨n1,by omega⟩]
  simp only[oS]
  have hl:(o++x[j].tst []).length=o.length+(x[j].tst []).length:=yH
  have key:=ZDV (f:=toS ((o.length+(x[j].tst []).length+1:Nat):Int)) (n:=o.length+(x[j].tst []).length) (L:=fun a k=>F.f164 v4 out i x j (sortI (fun x=>x.var) (x[j].bnd [])) a k)
   (fun a k ha=>by
    show F.f164 v4 out i x j _ a k=_
    rw[F.f164]
    by_cases hk:k<a.length
    ·rw[iP hk,dif_pos hk,iP (by omega),gQ hk]
     simp only[oE,oS]
     rw[ha]
     rfl
    ·rw[iN hk,dif_neg hk]) _ o.length (o++x[j].tst []) hl rfl (by omega)
  rw[key,vA,xP]
  simp only[oS]
  rw[iP (by simp;omega),iP (by omega),P.YAB v4 out i x hx hxl m (j+1) _ (by omega) (by simp;omega),yF hj]
  have el:(o++(x[j].tst []).map (toS ((o.length+(x[j].tst []).length+1:Nat):Int))++[(⟨2,[],0,0,0,(i:Int),sortI (fun x=>x.var) (x[j].bnd []),0⟩:Step)]).length=o.length+(x[j].tst []).length+1:=by simp;omega
  rw[el,ZZ]
  simp only[ZNv,yK]
theorem ZEn {α:Type}:∀l l':List α,l.Nodup->l'.Nodup->(∀x,x∈l↔x∈l')->l.Perm l'
 | [],l',_,_,h=>by
  cases l' with
  |nil=>exact .refl _
  |cons a r=>exact absurd ((h a).2 (yV ..)) (by simp)
 |x::r,l',hn,hn',h=>by
  obtain⟨s,t,rfl⟩:=vK ((h x).1 (yV ..))
  rw[xM]at hn
  have hp:(s++x::t).Perm (x::(s++t)):=vM
  have hn2:=hp.nodup_iff.1 hn'
  rw[xM]at hn2
  refine((ZEn r (s++t) hn.2 hn2.2 fun y=> ?_).cons x).trans hp.symm
  grind
def ZD8 (l:List PathBind)(n m:Nat):List PathBind:=(List.range' n m).flatMap fun(k:Nat)=>l.filter fun b=>decide (b.var=(k:Int))
variable {l:List PathBind}
theorem ZGv {n m:Nat}{x:PathBind}:x∈ZD8 l n m↔x∈l/\(n:Int)<=x.var/\x.var<(n+m:Nat):=by
 unfold ZD8
 simp only[xH,xY,decide_eq_true_eq,List.mem_range'_1]
 constructor
 ·grind
 ·rintro⟨hx,h1,h2⟩
  exact⟨x.var.toNat,by omega,hx,by omega⟩
theorem ZMq (h:(l.map PathBind.var).Nodup)(n:Int):(l.filter fun b=>decide (b.var=n)).Pairwise fun x y=>x.var<y.var:=by
 induction l with
 |nil=>simp
 |cons b r ih=>
  rw[yJ,xM]at h
  by_cases e:b.var=n
  all_goals simp_all
theorem ZFm {l:List PathBind}(h:(l.map PathBind.var).Nodup):∀m n,(ZD8 l n m).Pairwise fun x y=>x.var<y.var
 |0,n=>by simp[ZD8]
 |m+1,n=>by
  have ih:=ZFm h m (n+1)
  have e:ZD8 l n (m+1)=(l.filter fun b=>decide (b.var=(n:Int)))++ZD8 l (n+1) m:=by
   unfold ZD8;rw[vL,yU]
  rw[e,List.pairwise_append]
  refine⟨ZMq h _,ih,fun a ha b hb=> ?_⟩
  have h1:=(xY.1 ha).2
  have h2:=(ZGv.1 hb).2.1
  grind
theorem ZJt (h:(l.map PathBind.var).Nodup)(hv:∀b,b∈l->0<=b.var/\b.var<=5):ZD8 l 0 6=sortI (fun x=>x.var) l:=by
 have nd:∀l:List PathBind,l.Pairwise (fun x y=>x.var<y.var)->l.Nodup:=fun l h=>h.imp fun{a b} hab e=>by subst e;omega
 refine ZHd (key:=fun x=>x.var) _ _ (ZEn _ _ (nd _ (ZFm h 6 0)) (nd _ (ZDT l h)) fun x=> ?_) (ZFm h 6 0) (ZDT l h)
 rw[ZGv,ZCK]
 grind
theorem P.YBT (list:List PathBind)(n:Nat)(hp:∀b,b∈list->b.path.length<=67108864):∀(m i:Nat) (out:List PathBind),list.length-i=m->out.length+m<=67108864->F.f215 list n out i=some (out++(list.drop i).filter fun b=>decide (b.var=(n:Int)))
 |0,i,out,hm,hb=>by rw[F.f215,iN (by omega),yG (by omega)];simp
 |m+1,i,out,hm,hb=>by
  have hi:i<list.length:=by omega
  rw[F.f215,iP hi,gQ hi,yF hi,List.filter_cons]
  simp only[oE,oS]
  by_cases e:list[i].var=(n:Int)
  ·rw[iP e,iP (hp _ (gM hi)),iP (by omega),iP (by simpa using e),P.YBT list n hp m (i+1) _ (by omega) (by simp;omega),←e,yK]
   rfl
  ·rw[iN e,iN (by simpa using e),P.YBT list n hp m (i+1) _ (by omega) (by omega)]
theorem P.YBX (list:List PathBind)(hp:∀b,b∈list->b.path.length<=67108864)(hl:list.length<=1048576):∀(m n:Nat) (out:List PathBind),6-n=m->n<=6->out.length+m*1048576<=67108864->F.f216 list out n=some (out++ZD8 list n m)
 |0,n,out,hm,hn,hb=>by rw[F.f216,iN (by omega)];simp[ZD8]
 |m+1,n,out,hm,hn,hb=>by
  have hf:(list.filter fun b=>decide (b.var=(n:Int))).length<=list.length:=List.length_filter_le ..
  rw[F.f216,iP (by omega),P.YBT list n hp _ 0 out rfl (by omega)]
  simp only[oE,oS,yI]
  rw[iP (by omega),P.YBX list hp hl m (n+1) _ (by omega) (by omega) (by rw[yH];omega)]
  unfold ZD8
  rw[vL,yU,yK]
theorem P.YAo (list:List PathBind)(hp:∀b,b∈list->b.path.length<=67108864)(hl:list.length<=1048576)(h:(list.map PathBind.var).Nodup)(hv:∀b,b∈list->0<=b.var/\b.var<=5):F.f217 list=some (sortI (fun x=>x.var) list):=by
 unfold F.f217
 rw[P.YBX list hp hl 6 0 [] rfl (by omega) (by simp),ZJt h hv]
 rfl
theorem ZDw {β:Type}(op:Int)(g:Pattern->List Int->List β)(path:List Int):∀(l:List Pattern) (i:Nat) (s:β),s∈Zh op path i (l.map g)->∃k,k∈l/\∃path',path'.length<=path.length+1/\s∈g k path'
 | [],i,s,hs=>by simp[Zh]at hs
 |k::r,i,s,hs=>by
  rw[yJ,Zh,yN]at hs
  rcases hs with hs|hs
  ·grind
  ·obtain⟨k',h1,h2⟩:=ZDw op g path r (i+1) s hs
   grind
theorem ZM4 (p:Pattern):∀path b,b∈p.bnd path->b.path.length<=path.length+p.wt:=by
 induction p using Pattern.ind with
 |_ p ih=>
  intro path b hb
  rw[ZDK,yN]at hb
  rcases hb with hb|hb
  ·grind
  ·obtain⟨k,hk,path',hp,hb⟩:=ZDw p.op Pattern.bnd path p.kids 0 b hb
   have h1:=ih k hk path' b hb
   have h2:1+k.wt<=p.wt:=by rw[p.wt_eq];exact ZAB Pattern.wt hk
   omega
theorem ZLY {w:List Data}:∀(d:Nat) (t:Ty) (p:Pattern),ZEJ w d t p->∀path b,b∈p.bnd path->0<=b.var/\b.var<=5
 |0,_,_,h,_,_,_=>h.elim
 |d+1,t,p,⟨h1,h5,hl,hk⟩,path,b,hb=>by
  rw[ZDK,yN]at hb
  rcases hb with hb|hb
  ·split at hb
   ·next h26=>
    rw[yY.1 hb]
    show 0<=p.var/\p.var<=5
    unfold ZAo at h1
    omega
   ·cases hb
  ·obtain⟨k,hm,path',hp,hb⟩:=ZDw p.op Pattern.bnd path p.kids 0 b hb
   obtain⟨i,hi,rfl⟩:=vB.1 hm
   exact ZLY d _ _ (hk i (by omega) hi) path' b hb
theorem P.YBE (w:List Data)(list:List Clause)(out:List Step)(i:Nat)(x:List Pattern)(hx:∀q,q∈x->q.wt<=900/\((q.bnd []).map PathBind.var).Nodup/\∃d t,ZEJ w d t q)(hxl:x.length<=1000):
  ∀(m j:Nat) (o:List Step),x.length-j=m->o.length+m*1000<=67108000->F.f219 list out i x o j=some (o++ZZ (fun n=>(n:Int)) i o.length (x.drop j))
 |0,j,o,hm,hb=>by
  rw[F.f219,iN (by omega),yG (by omega)]
  simp[ZZ]
 |m+1,j,o,hm,hb=>by
  have hj:j<x.length:=by omega
  obtain⟨w1,n1,d,t,s1⟩:=hx _ (gM hj)
  have t1:=ZDf x[j] []
  have b1:=ZC3 x[j] []
  rw[F.f219,iP hj,gQ hj]
  simp only[oE,oS]
  rw[P.YAy w d t x[j] s1 [] o (by simp;omega) (by omega)]
  simp only[oS]
  rw[P.YBM x[j] [] [] (by simp;omega) (by simp;omega),yM]
  simp only[oS]
  rw[P.YAo _ (fun b hb=>by have:=ZM4 x[j] [] b hb;simp at this;omega) (by omega) n1 (ZLY d t x[j] s1 [])]
  simp only[oS]
  have hl:(o++x[j].tst []++[(⟨2,[],0,0,0,(i:Int),sortI (fun x=>x.var) (x[j].bnd []),0⟩:Step)]).length=o.length+(x[j].tst []).length+1:=by simp;omega
  have key:=ZDV (f:=toS ((o.length+(x[j].tst []).length+1:Nat):Int)) (n:=o.length+(x[j].tst []).length+1) (L:=fun a k=>F.f218 list out i x j a k)
   (fun a k ha=>by
    show F.f218 list out i x j a k=_
    rw[F.f218]
    by_cases hk:k<a.length
    ·rw[iP hk,dif_pos hk,gQ hk]
     simp only[oE,oS]
     rw[ha]
     rfl
    ·rw[iN hk,dif_neg hk]) _ o.length _ hl rfl (by omega)
  rw[iP (by rw[yH];omega),key,yK,vA,xP]
  simp only[oS]
  rw[iP (by omega),P.YBE w list out i x hx hxl m (j+1) _ (by omega) (by simp;omega),yF hj]
  have el:(o++(x[j].tst []++[(⟨2,[],0,0,0,(i:Int),sortI (fun x=>x.var) (x[j].bnd []),0⟩:Step)]).map (toS ((o.length+(x[j].tst []).length+1:Nat):Int))).length=o.length+(x[j].tst []).length+1:=by simp;omega
  rw[el,ZZ,yS]
  simp only[ZNv,yK]
  rfl
def ZO6 (e:Int)(s:Step):Step:=if s.op=2 then toS e s else s
theorem ZEl (g:Nat->Int)(e:Int)(i:Nat):∀(qs:List Pattern) (n:Nat),(ZZ g i n qs).map (ZO6 e)=ZZ (fun _=>e) i n qs
 | [],n=>rfl
 |q::r,n=>by
  simp only[ZZ,yS,ZEl g e i r,vS,yJ,xO]
  congr 2
  refine List.map_congr_left fun s hs=> ?_
  have:=ZPm q [] s hs
  show ZO6 e (toS _ s)=toS _ s
  unfold ZO6
  rw[iN (by show ¬s.op=2;omega)]
theorem ZGH (g:Nat->Int)(i:Nat):∀(qs:List Pattern) (n:Nat),(∀q,q∈qs->q.wt<=900)->(ZZ g i n qs).length<=qs.length*1000
 | [],n,_=>by simp[ZZ]
 |q::r,n,h=>by
  have h1:=ZGH g i r (n+(q.tst []).length+1) fun q hq=>h q (yP _ hq)
  have h2:=ZDf q []
  have h3:=h q (yV ..)
  simp only[ZZ,yH,yT,yO,yQ]at h1 ⊢
  omega
def clS (i:Nat)(o:List Step)(x:List Pattern):List Step:=o++ZZ (fun _=>((o.length+(ZZ (fun _=>0) i o.length x).length:Nat):Int)) i o.length x
def ZAk :Nat->List Step->List (List Pattern)->List Step
 |_,o,[]=>o
 |i,o,x::r=>ZAk (i+1) (clS i o x) r
def ZIb (q:Pattern):Prop:=q.wt<=900/\((q.bnd []).map PathBind.var).Nodup
theorem ZIp {L:List Step->Nat->Option (List Step)}(hL:∀o k,L o k=if k<o.length then(o[k]?)>>=fun x=>if x.op=2 then L (o.set k (⟨x.op,x.path,x.ctor,x.n,x.m,x.clause,x.binds,(o.length:Int)⟩:Step)) (k+1)else L o (k+1)else some o)
  (o:List Step) (k:Nat) (hk:k<=o.length):L o k=some (o.take k++(o.drop k).map (ZO6 (o.length:Int))):=by
 refine ZDV (f:=ZO6 (o.length:Int)) (n:=o.length) (L:=L) (fun a k ha=> ?_) _ k o rfl rfl hk
 rw[hL]
 by_cases h:k<a.length
 ·rw[iP h,dif_pos h,gQ h]
  simp only[oE,oS]
  unfold ZO6
  by_cases h2:a[k].op=2
  ·rw[iP h2,iP h2,ha];rfl
  ·rw[iN h2,iN h2,List.set_getElem_self]
 ·rw[iN h,dif_neg h]
theorem ZLT (g:Nat->Int)(i:Nat)(o:List Step)(x:List Pattern):(o++ZZ g i o.length x).take o.length++((o++ZZ g i o.length x).drop o.length).map (ZO6 ((o++ZZ g i o.length x).length:Int))=clS i o x:=by
 rw[vA,xP,ZEl,yH,ZAZ g (fun _=>0)]
 rfl
theorem ZH5 {i:Nat}{o:List Step}{x:List Pattern}(h:∀q,q∈x->q.wt<=900):(clS i o x).length<=o.length+x.length*1000:=by
 unfold clS
 rw[yH]
 have:=ZGH (fun _=>((o.length+(ZZ (fun _=>0) i o.length x).length:Nat):Int)) i x o.length h
 omega
theorem P.YAR (vs:List (List Pattern))(b:Bool)(hv:∀x,x∈vs->x.length<=40/\∀q,q∈x->ZIb q)(hl:vs.length<=1000):∀(m i:Nat) (o:List Step),vs.length-i=m->o.length+m*40000<=67000000->F.f167 (vs,b) o i=some (ZAk i o (vs.drop i))
 |0,i,o,hm,hb=>by
  rw[F.f167,iN (by show ¬i<vs.length;omega),yG (by omega)]
  rfl
 |m+1,i,o,hm,hb=>by
  have hi:i<vs.length:=by omega
  obtain⟨h40,hq⟩:=hv _ (gM hi)
  have hw:∀q,q∈vs[i]->q.wt<=900:=fun q h=>(hq q h).1
  have cl:=ZH5 (i:=i) (o:=o) hw
  rw[F.f167,iP (show i<vs.length from hi),show(vs,b).1[i]? =some vs[i]from gQ hi]
  simp only[oE,oS]
  rw[P.YAB (vs,b) o i vs[i] hq (by omega) _ 0 o rfl (by omega),yI]
  simp only[oS]
  rw[ZIp (L:=F.f166 (vs,b) i) (fun o k=>by rw[F.f166]) _ _ (by rw[yH];omega),ZLT]
  simp only[oS]
  rw[iP (by omega),P.YAR vs b hv hl m (i+1) _ (by omega) (by omega),yF hi]
  rfl
theorem P.YAP (w:List Data)(list:List Clause)(hv:∀c,c∈list->F.f206 c.pat=some c.pat.splits/\c.pat.splits.length<=40/\∀q,q∈c.pat.splits->ZIb q/\∃d t,ZEJ w d t q)(hl:list.length<=1000):
  ∀(m i:Nat) (o:List Step),list.length-i=m->o.length+m*40000<=67000000->F.f221 list o i=some (ZAk i o ((list.map fun c=>c.pat.splits).drop i))
 |0,i,o,hm,hb=>by
  rw[F.f221,iN (by omega),yG (by simp;omega)]
  rfl
 |m+1,i,o,hm,hb=>by
  have hi:i<list.length:=by omega
  obtain⟨e,h40,hq⟩:=hv _ (gM hi)
  have hw:∀q,q∈list[i].pat.splits->q.wt<=900:=fun q h=>(hq q h).1.1
  have cl:=ZH5 (i:=i) (o:=o) hw
  rw[F.f221,iP hi,gQ hi]
  simp only[oE,oS]
  rw[e]
  simp only[oS]
  rw[P.YBE w list o i _ (fun q h=>⟨(hq q h).1.1,(hq q h).1.2,(hq q h).2⟩) (by omega) _ 0 o rfl (by omega),yI]
  simp only[oS]
  rw[ZIp (L:=F.f220 list i) (fun o k=>by rw[F.f220]) _ _ (by rw[yH];omega),ZLT]
  simp only[oS]
  rw[iP (by omega),P.YAP w list hv hl m (i+1) _ (by omega) (by omega),yF (show i<(list.map fun c=>c.pat.splits).length by simpa using hi),xV]
  rfl
theorem P.YY (l:List Clause)(hv:∀c,c∈l->c.pat.alts<=40->F.f152 c.pat=some c.pat.splits)(hl:l.length<=1000):
  ∀(m i:Nat) (out:List (List Pattern)),l.length-i=m->out.length=i->F.f154 l out i=some (if ∀c,c∈l.drop i->c.pat.alts<=40 then .go (out++(l.drop i).map fun c=>c.pat.splits)else .ret ([],false))
 |0,i,out,hm,ho=>by
  rw[F.f154,iN (by omega),yG (by omega),iP (by simp)]
  simp
 |m+1,i,out,hm,ho=>by
  have hi:i<l.length:=by omega
  rw[F.f154,iP hi,gQ hi,yF hi]
  simp only[oE,oS]
  rw[P.YAt]
  simp only[oS]
  by_cases h:l[i].pat.alts<=40
  ·rw[iN (by omega),hv _ (gM hi) h]
   simp only[oS]
   rw[iP (by omega),P.YY l hv hl m (i+1) _ (by omega) (by simp[ho])]
   grind
  ·grind
theorem P.YQ (l:List Clause)(hv:∀c,c∈l->F.f206 c.pat=some (c.pat.splits.take 401)):
  ∀(m i:Nat),l.length-i=m->F.f223 l i=some (if ∀c,c∈l.drop i->c.pat.alts<=40 then .go ()else .ret ([],false))
 |0,i,hm=>by rw[F.f223,iN (by omega),yG (by omega),iP (by simp)]
 |m+1,i,hm=>by
  have hi:i<l.length:=by omega
  rw[F.f223,iP hi,gQ hi,yF hi]
  simp only[oE,oS]
  rw[hv _ (gM hi)]
  simp only[oS]
  have hl:(l[i].pat.splits.take 401).length=min 401 l[i].pat.alts:=by rw[xD,ZAM]
  by_cases h:l[i].pat.alts<=40
  ·rw[iN (by omega),P.YQ l hv m (i+1) (by omega)]
   grind
  ·grind
theorem ZD4 :∀(vs:List (List Pattern)) (i:Nat) (o:List Step),(∀x,x∈vs->x.length<=40/\∀q,q∈x->q.wt<=900)->(ZAk i o vs).length<=o.length+vs.length*40000
 | [],i,o,_=>by simp[ZAk]
 |x::r,i,o,h=>by
  obtain⟨h1,h2⟩:=h x (yV ..)
  have h3:=ZH5 (i:=i) (o:=o) h2
  have h4:=ZD4 r (i+1) (clS i o x) fun y hy=>h y (yP _ hy)
  rw[ZAk,yO]
  omega
def ZB9 :Step:=⟨3,[],0,0,0,0,[],0⟩
theorem P.YAb (w:List Data)(hw:ZAD w)(t:Ty)(l:List Clause)(hp:∀c,c∈l->c.pat.wt<=1048576)(hpat:ZNm w t l->∀c,c∈l->ZBS w t c.pat):∃r b,F.f168 w t l=some (r,b)/\F.f224 w t l=some (r,b)/\
  (b=true->ZNm w t l/\(∀c,c∈l->c.pat.alts<=40)/\r=ZAk 0 [] (l.map fun c=>c.pat.splits)++[ZB9]):=by
 unfold F.f168 F.f224
 rw[P.Yd w hw t l hp,P.Ya w hw t l hp]
 simp only[oE,oS]
 by_cases hc:ZNm w t l
 ·have hpc:=hpat hc
  have hl8:l.length<=8:=hc.2.1
  rw[ZF hc,iP rfl,iP rfl]
  have h1:∀c,c∈l->F.f206 c.pat=some (c.pat.splits.take 401):=fun c h=>P.Yx w 10 t c.pat (hpc c h).1 (hp c h)
  unfold F.f155
  rw[P.YY l (fun c h ha=>P.YAS 10 t c.pat (hpc c h).1 (hp c h) (by omega)) (by omega) _ 0 [] rfl rfl,P.YQ l h1 _ 0 rfl,yI,yM]
  by_cases ha:∀c,c∈l->c.pat.alts<=40
  ·rw[iP ha,iP ha]
   simp only[oE,oS]
   have hq:∀c,c∈l->∀q,q∈c.pat.splits->ZIb q/\∃d u,ZEJ w d u q:=fun c h q hq=>by
    obtain⟨s1,s2,s3⟩:=ZBQ 10 t c.pat (hpc c h).1 (hpc c h).2.1 q hq
    have:=(hpc c h).2.2
    exact⟨⟨by omega,ZF1 (hpc c h).1 (hpc c h).2.1 hq []⟩,10,t,s1⟩
   have hlen:∀c,c∈l->c.pat.splits.length<=40:=fun c h=>by rw[ZAM];exact ha c h
   have hvs:∀x,x∈l.map (fun c=>c.pat.splits)->x.length<=40/\∀q,q∈x->ZIb q:=fun x hx=>by
    grind
   have e1:=P.YAR (l.map fun c=>c.pat.splits) true hvs (by simp;omega) _ 0 [] rfl (by simp;omega)
   have e2:=P.YAP w l (fun c h=>⟨by rw[h1 c h,yL (by have:=hlen c h;omega)],hlen c h,hq c h⟩) (by omega) _ 0 [] rfl (by simp;omega)
   have cl:=ZD4 (l.map fun c=>c.pat.splits) 0 [] fun x hx=>⟨(hvs x hx).1,fun q hq=>((hvs x hx).2 q hq).1⟩
   rw[yT,yQ]at cl
   unfold F.f222
   rw[iP True.intro,e1,e2,yI]
   simp only[oE,oS]
   rw[iP (by omega),iP (by omega)]
   exact⟨_,_,rfl,rfl,fun _=>⟨hc,ha,rfl⟩⟩
  ·rw[iN ha,iN ha]
   simp_all
 ·simp_all
variable {v:Value}
theorem ZKS {e:Nat}(h:pv w false e t v)(ht:t.data≠-1):v.ctor∈ZP w t/\v.kids.length=(ZK w t v.ctor).length/\∀i (h:i<(ZK w t v.ctor).length) (h':i<v.kids.length),∃e',pv w false e' (ZK w t v.ctor)[i] v.kids[i]:=by
 cases e with
 |zero=>exact h.elim
 |succ e=>
  rcases h with h|⟨_,h|h⟩
  ·simp at h
  ·exact absurd h.1 ht
  ·exact⟨h.2.2.1,h.2.2.2.1,fun i h1 h2=>⟨e,h.2.2.2.2 i (zB _) h1 h1 h2⟩⟩
theorem P.YAH (v:Value)(hv:v.wt<=67108864):F.f184 v=some v:=by
 induction v using Value.ind with
 |_ v ih=>
  have hw:=v.wt_eq
  rw[F.f184,ZFo (a:=v.kids) (g:=id) (f:=F.f184) (L:=F.f185 v) (fun out i=>by rw[F.f185]) (fun x hx=>ih x hx (by have:=ZAB Value.wt hx;omega)) _ 0 [] rfl (by have:=ZBN Value.wt v.kids;simp;omega)]
  simp
  cases v;rfl
theorem Value.wt_set {k:Value}{n ctor n' ctor':Int}{ks:List Value}(h:0<ks.length):(⟨ctor,n,ks.set 0 k⟩:Value).wt+ks[0].wt=(⟨ctor',n',ks⟩:Value).wt+k.wt:=by
 cases ks with
 |nil=>simp at h
 |cons y r=>simp[Value.wt];omega
theorem P.YAj {b:List Int}(hb:∀x,x∈b->0<=x/\x<=255)(hl:b.length<=2000)(h0:0<b.length):∀(d p:Nat) (e:Value),2<=ZB1 b p d->p+d<=1200000->e.wt+d<=1048500->
  ∃e' k,F.f95 ⟨b,(p:Int)⟩ e=some (e',⟨b,((p+k:Nat):Int)⟩)/\k<=d+1/\ZB1 b p k<=1/\e'.wt<=e.wt+k:=by
 intro d
 induction d using Nat.strongRecOn with
 |ind d ih=>
  intro p e hw hp he
  obtain⟨ctor,n,ks⟩:=e
  have hd:=ZLv b p d
  obtain⟨d',rfl⟩:∃d',d=d'+1:=⟨d-1,by omega⟩
  have hws:=ZBe b p d'
  have hg:=ZMi (pNat b p)
  have hlen:ks.length<=(⟨ctor,n,ks⟩:Value).wt:=by simp[Value.wt]
  rw[F.f95,iP (by show ks.length<=_;omega),P.YBC hb hl p (by omega)]
  simp only[oE,oS]
  by_cases c0:pNat b p=0
  ·rw[iP (by omega)]
   obtain⟨v,ev⟩:=P.YAn hb hl (p+1) (by omega) [0,1,-1,9,-2] (by simp)
   rw[ev]
   refine⟨_,2,rfl,by omega,?_,by simp[Value.wt]⟩
   rw[ZBe,ZAb,c0]
   have:=ZMi (pNat b (p+1))
   have:gP 0=0:=rfl
   omega
  rw[iN (by omega)]
  by_cases c1:pNat b p=1
  ·rw[iP (by omega)]
   obtain⟨v,ev⟩:=P.YAn hb hl (p+1) (by omega) [10,-1,1] (by simp)
   rw[ev]
   refine⟨_,2,rfl,by omega,?_,by simp[Value.wt]⟩
   rw[ZBe,ZAb,c1]
   have:=ZMi (pNat b (p+1))
   have:gP 1=0:=rfl
   omega
  rw[iN (by omega)]
  by_cases c2:pNat b p=2
  ·rw[iP (by omega),iP (by show ks.length+1<=_;omega)]
   refine⟨_,1,rfl,by omega,by rw[ZAb];exact hg,?_⟩
   simp[Value.wt];omega
  rw[iN (by omega)]
  by_cases c3:pNat b p=3
  ·rw[iP (by omega)]
   by_cases hk:0<ks.length
   ·rw[iP hk]
    show ∃e' k,(ks[0]? >>=_)=_/\_
    rw[gQ hk]
    simp only[oE,oS]
    have hg3:gP (pNat b p)= -1:=by rw[c3];rfl
    have hk0:ks[0].wt+1<=(⟨ctor,n,ks⟩:Value).wt:=by
     have:=Value.wt_set (k:=⟨ctor,n,[]⟩) (n:=n) (ctor:=ctor) (n':=n) (ctor':=ctor) hk
     have h2:(⟨ctor,n,[]⟩:Value).wt=0:=by simp[Value.wt]
     have h3:1<=(⟨ctor,n,ks.set 0 ⟨ctor,n,[]⟩⟩:Value).wt:=by
      simp only[Value.wt,List.length_set];omega
     omega
    obtain⟨e1,k1,g1,g2,g3,g4⟩:=ih d' (by omega) (p+1) ks[0] (by omega) (by omega) (by omega)
    rw[g1]
    simp only[oS]
    have hk1:k1<=d':=by
     by_cases hh:k1=d'+1
     ·subst hh
      have a1:=ZBO b (p+1) d' 1
      rw[ZAb]at a1
      have:=ZO2 (pNat b (p+1+d'))
      omega
     ·omega
    have a1:=ZBO b (p+1) k1 (d'-k1)
    rw[show k1+(d'-k1)=d' by omega]at a1
    obtain⟨e2,k2,q1,q2,q3,q4⟩:=ih (d'-k1) (by omega) (p+1+k1) e1 (by omega) (by omega) (by omega)
    rw[q1]
    simp only[oS]
    refine⟨_,1+k1+k2,by rw[show p+(1+k1+k2)=p+1+k1+k2 by omega],by omega,?_,?_⟩
    ·rw[show 1+k1+k2=(k1+k2)+1 by omega,ZBe,ZBO];omega
    ·have:=Value.wt_set (k:=e2) (n:=n) (ctor:=ctor) (n':=n) (ctor':=ctor) hk
     omega
   ·rw[iN hk]
    exact⟨_,1,rfl,by omega,by rw[ZAb];exact hg,by omega⟩
  ·rw[iN (by omega)]
   exact⟨_,1,rfl,by omega,by rw[ZAb];exact hg,by omega⟩
def vAt :List Int->Value->Option Value
 | [],v=>some v
 |i::r,v=>(at? v.kids i).bind fun u=>vAt r u
theorem ZFE (i:Int):∀(p:List Int) (v:Value),vAt (p++[i]) v=(vAt p v).bind fun u=>at? u.kids i
 | [],v=>by simp[vAt]
 |j::r,v=>by
  rw[xI,vAt,vAt]
  cases at? v.kids j with
  |none=>rfl
  |some u=>exact ZFE i r u
theorem ZLe {xs:List α}{i:Int}{x:α}(h:at? xs i=some x):x∈xs:=by
 obtain⟨_,h⟩:=ZQ h
 exact List.mem_of_getElem? h
theorem ZKD :∀(p:List Int) (v u:Value),vAt p v=some u->u.wt<=v.wt
 | [],v,u,h=>by cases h;exact zA _
 |i::r,v,u,h=>by
  rw[vAt]at h
  cases e:at? v.kids i with
  |none=>rw[e]at h;cases h
  |some x=>
   rw[e]at h
   have:=ZKD r x u h
   have h2:=ZAB Value.wt (ZLe e)
   rw[Value.wt_eq v]
   omega
theorem P.YBL (path:List Int):∀(m i:Nat) (v:Value),path.length-i=m->F.f181 path v.ctor v.n v.kids i=(vAt (path.drop i) v).map fun u=>(u.ctor,u.n,u.kids):=by
 intro m
 induction m with
 |zero=>
  intro i v hm
  rw[F.f181,iN (by omega),yG (by omega)];rfl
 |succ m ih=>
  intro i v hm
  have hi:i<path.length:=by omega
  rw[F.f181,iP hi,gQ hi,yF hi,vAt]
  simp only[oE,oS]
  cases at? v.kids path[i]with
  |none=>rfl
  |some x=>exact ih (i+1) x (by omega)
theorem P.YAQ (v:Value)(path:List Int):F.f182 v path=vAt path v:=by
 unfold F.f182
 rw[P.YBL path _ 0 v rfl,yI]
 cases vAt path v with
 |none=>rfl
 |some u=>cases u;rfl
theorem P.YBN (path:List Int):∀(m i:Nat) (v:Value),path.length-i=m->F.f230 path v.ctor v.n v.kids i=(vAt (path.drop i) v).map fun u=>(u.ctor,u.n,u.kids):=by
 intro m
 induction m with
 |zero=>
  intro i v hm
  rw[F.f230,iN (by omega),yG (by omega)];rfl
 |succ m ih=>
  intro i v hm
  have hi:i<path.length:=by omega
  rw[F.f230,iP hi,gQ hi,yF hi,vAt]
  simp only[oE,oS]
  cases at? v.kids path[i]with
  |none=>rfl
  |some x=>exact ih (i+1) x (by omega)
theorem P.Ye (v:Value)(path:List Int):F.f231 v path=vAt path v:=by
 unfold F.f231
 rw[P.YBN path _ 0 v rfl,yI]
 cases vAt path v with
 |none=>rfl
 |some u=>cases u;rfl
def ZGF (s:Step)(u:Value):Prop:=u.ctor=s.ctor/\(s.ctor= -1->s.n<=u.n/\u.n<=s.m)
theorem P.YAZ (s:Step)(u:Value):F.f183 s.ctor s.n s.m u=some (dec (ZGF s u)):=by
 unfold F.f183 ZGF
 by_cases h:s.ctor=u.ctor
 ·rw[iP h]
  by_cases h2:s.ctor= -1
  ·rw[iP h2,P.YE]
   simp only[oE,oS]
   congr 1
   exact ZL ⟨fun q=>⟨h.symm,fun _=>q⟩,fun q=>q.2 h2⟩
  ·rw[iN h2,ZF ⟨h.symm,fun q=>absurd q h2⟩]
 ·rw[iN h,ZD fun q=>h q.1.symm]
theorem P.YR (s:Step)(u:Value):F.f238 s u=some (dec (ZGF s u)):=by
 unfold F.f238 ZGF
 by_cases h:u.ctor=s.ctor
 ·rw[iP h]
  by_cases h2:s.ctor= -1
  ·rw[iP h2]
   by_cases h3:s.n<=u.n
   ·rw[iP h3,←Zv];congr 1
    exact ZL ⟨fun q=>⟨h,fun _=>⟨h3,q⟩⟩,fun q=>(q.2 h2).2⟩
   ·rw[iN h3,ZD fun q=>h3 (q.2 h2).1]
  ·rw[iN h2,ZF ⟨h,fun q=>absurd q h2⟩]
 ·rw[iN h,ZD fun q=>h q.1]
theorem P.YAf :∀(n:Nat) (v:Value),SizeOf.sizeOf v<n->v.wt<=67108864->F.f232 v=some v:=by
 intro n
 induction n with
 |zero=>intro v h;omega
 |succ n ih=>
  intro v h hv
  rw[Value.wt_eq]at hv
  have hl:=ZBN Value.wt v.kids
  have lp:∀(m i:Nat) (out:List Value),v.kids.length-i=m->out=v.kids.take i->i<=v.kids.length->F.f233 v out i=some v.kids:=by
   intro m
   induction m with
   |zero=>
    intro i out hm ho hi
    rw[F.f233,iN (by omega),ho,yL (by omega)]
   |succ m ihm=>
    intro i out hm ho hi
    have hi:i<v.kids.length:=by omega
    have hmem:=gM hi
    rw[F.f233,iP hi,gQ hi]
    simp only[oE,oS]
    rw[ih _ (by have:=xZ hmem;have:SizeOf.sizeOf v.kids<SizeOf.sizeOf v:=(by cases v;simp only[Value.mk.sizeOf_spec];omega);omega) (by have:=ZAB Value.wt hmem;omega)]
    simp only[oS]
    rw[iP (by rw[ho];simp;omega)]
    refine ihm (i+1) _ (by omega) ?_ (by omega)
    rw[ho,xE hi]
  rw[F.f232,lp _ 0 [] rfl rfl (by omega)]
  simp only[oE,oS]
  cases v;rfl
def ZH7 (v:Value)(b:PathBind):Bind:=⟨b.var,(vAt b.path v).getD v⟩
def ZKr (v:Value)(b:PathBind):Prop:=∃u,vAt b.path v=some u
theorem ZE3 {L:Nat->List Bind->Option (List Bind)}(hb:∀b,b∈l->ZKr v b)(hl:l.length<=67108864)(hL:∀i out,L i out=if i<l.length then(l[i]?)>>=fun x=>(vAt x.path v)>>=fun u=>if out.length+1<=67108864 then L (i+1) (out++[(⟨x.var,u⟩:Bind)])else none else some out):
  ∀(m i:Nat) (out:List Bind),l.length-i=m->out=(l.take i).map (ZH7 v)->i<=l.length->L i out=some (l.map (ZH7 v)):=by
 intro m
 induction m with
 |zero=>
  intro i out hm ho hi
  rw[hL,iN (by omega),ho,yL (by omega)]
 |succ m ih=>
  intro i out hm ho hi
  have hi:i<l.length:=by omega
  obtain⟨u,hu⟩:=hb _ (gM hi)
  rw[hL,iP hi,gQ hi]
  simp only[oE,oS]
  rw[hu]
  simp only[oS]
  rw[iP (by rw[ho];simp;omega)]
  refine ih (i+1) _ (by omega) ?_ (by omega)
  rw[ho,xE hi,yS]
  simp[ZH7,hu]
theorem P.YAr (l:List PathBind)(v:Value)(hb:∀b,b∈l->ZKr v b)(hl:l.length<=67108864)(hv:v.wt<=67108864):F.f187 l v=some (l.map (ZH7 v)):=by
 unfold F.f187
 rw[ZE3 (L:=fun i out=>F.f186 l v i out) hb hl (fun i out=> ?_) _ 0 [] rfl rfl (by omega)]
 ·rfl
 ·rw[F.f186]
  split
  ·next hi=>
   obtain⟨u,hu⟩:=hb _ (gM hi)
   rw[gQ hi]
   simp only[oE,oS]
   rw[P.YAQ,hu]
   simp only[oS]
   rw[P.YAH u (by have:=ZKD _ _ _ hu;omega)]
   simp only[oS]
  ·rfl
theorem P.YS (l:List PathBind)(v:Value)(hb:∀b,b∈l->ZKr v b)(hl:l.length<=67108864)(hv:v.wt<=67108864):F.f235 l v=some (l.map (ZH7 v)):=by
 unfold F.f235
 rw[ZE3 (L:=fun i out=>F.f234 l v out i) hb hl (fun i out=> ?_) _ 0 [] rfl rfl (by omega)]
 ·rfl
 ·rw[F.f234]
  split
  ·next hi=>
   obtain⟨u,hu⟩:=hb _ (gM hi)
   rw[gQ hi]
   simp only[oE,oS]
   rw[P.Ye,hu]
   simp only[oS]
   rw[P.YAf _ u (Nat.lt_succ_self _) (by have:=ZKD _ _ _ hu;omega)]
   simp only[oS]
  ·rfl
noncomputable def ZOo (g:Guard)(x:Bind):Bool:=if x.value.ctor= -1 then(if g.op=1 then dec (x.value.n<g.n)else if g.op=2 then dec (x.value.n=g.n)else false)else false
theorem P.YBK (g:Guard)(l:List Bind):∀(m i:Nat),l.length-i=m->
  (∃j,∃h:j<l.length,F.f189 l g i=some (.ret (j:Int))/\F.f236 g l i=some (.ret (ZOo g l[j])))∨
  (F.f189 l g i=some (.go ())/\F.f236 g l i=some (.go ())):=by
 intro m
 induction m with
 |zero=>
  intro i hm
  rw[F.f189,F.f236,iN (by omega),iN (by omega)]
  exact .inr ⟨rfl,rfl⟩
 |succ m ih=>
  intro i hm
  have hi:i<l.length:=by omega
  rw[F.f189,F.f236,iP hi,iP hi,gQ hi]
  simp only[oE,oS,F.f188,decide_eq_true_eq]
  by_cases hv:l[i].var=g.var
  ·rw[iP hv,iP hv]
   refine .inl ⟨i,hi,rfl,?_⟩
   unfold ZOo
   by_cases h1:l[i].value.ctor= -1
   ·rw[iP h1,iP h1]
    by_cases h2:g.op=1
    ·rw[iP h2,iP h2]
     by_cases h3:l[i].value.n<g.n
     ·rw[iP h3,ZF h3]
     ·rw[iN h3,ZD h3]
    ·rw[iN h2,iN h2]
     by_cases h3:g.op=2
     ·rw[iP h3,iP h3,Zv]
     ·rw[iN h3,iN h3]
   ·rw[iN h1,iN h1]
  ·rw[iN hv,iN hv]
   exact ih (i+1) (by omega)
theorem P.YAC (g:Guard)(l:List Bind):∃b,F.f191 g l=some b/\F.f237 g l=some b:=by
 unfold F.f191 F.f237 F.f190
 by_cases h0:g.op=0
 ·rw[iP h0,iP h0];exact⟨_,rfl,rfl⟩
 rw[iN h0,iN h0]
 rcases P.YBK g l _ 0 rfl with⟨j,hj,e1,e2⟩|⟨e1,e2⟩
 ·rw[e1,e2]
  simp only[oE,oS]
  rw[iN (by omega),ZCD hj]
  simp only[oS]
  refine⟨_,?_,rfl⟩
  unfold ZOo
  by_cases h1:l[j].value.ctor= -1
  ·rw[iP h1,iP h1]
   by_cases h2:g.op=1
   ·rw[iP h2,iP h2]
    by_cases h3:l[j].value.n<g.n
    ·rw[iP h3,ZF h3]
    ·rw[iN h3,ZD h3]
   ·rw[iN h2,iN h2]
    by_cases h3:g.op=2
    ·rw[iP h3,iP h3,Zv]
    ·rw[iN h3,iN h3]
  ·rw[iN h1,iN h1]
 ·rw[e1,e2]
  exact⟨false,rfl,rfl⟩
inductive RunOk (C:List Step)(v:Value)(N:Nat):Nat->Prop
 |fail (k:Nat) (s:Step) (h:C[k]? =some s) (h3:s.op=3):RunOk C v N k
 |take (k j c:Nat) (s:Step) (h:C[k]? =some s) (h2:s.op=2) (hb:∀b,b∈s.binds->ZKr v b) (hl:s.binds.length<=1048576) (hc:s.clause=(c:Int)) (hn:c<N) (ht:s.to=(j:Int)) (hk:k<j) (r:RunOk C v N j):RunOk C v N k
 |test (k j:Nat) (s:Step) (u:Value) (h:C[k]? =some s) (h1:s.op=1) (hu:vAt s.path v=some u) (ht:s.to=(j:Int)) (hk:k<j) (hp:ZGF s u->RunOk C v N (k+1)) (r:RunOk C v N j):RunOk C v N k
theorem ZDc {C a r:List α}{n:Nat}(h:C.drop n=a++r):C.drop (n+a.length)=r:=by
 rw[←List.drop_drop,h,xP]
theorem ZBl {C r:List α}{x:α}{n:Nat}(h:C.drop n=x::r):C[n]? =some x:=by
 have:(C.drop n)[0]? =some x:=by rw[h];rfl
 rw[List.getElem?_drop]at this
 exact this
theorem ZFY {C:List Step}{v:Value}{N e:Nat}(op:Int)(path:List Int)(rest:List Step):∀(ks:List Pattern) (i n:Nat),
  (∀j (h:j<ks.length) (m:Nat) (rest:List Step),C.drop m=(ks[j].tst (if op=4 then path++[((i+j:Nat):Int)]else path)).map (toS (e:Int))++rest->m+(ks[j].tst (if op=4 then path++[((i+j:Nat):Int)]else path)).length<e->
   ((∀b,b∈ks[j].bnd (if op=4 then path++[((i+j:Nat):Int)]else path)->ZKr v b)->RunOk C v N (m+(ks[j].tst (if op=4 then path++[((i+j:Nat):Int)]else path)).length))->RunOk C v N m)->
  C.drop n=(Zh op path i (ks.map Pattern.tst)).map (toS (e:Int))++rest->n+(Zh op path i (ks.map Pattern.tst)).length<e->
  ((∀b,b∈Zh op path i (ks.map Pattern.bnd)->ZKr v b)->RunOk C v N (n+(Zh op path i (ks.map Pattern.tst)).length))->RunOk C v N n
 | [],i,n,hs,hd,hl,hk=>by
  have:=hk (fun b hb=>by simp[Zh]at hb)
  simpa[Zh]using this
 |q::r,i,n,hs,hd,hl,hk=>by
  simp only[yJ,Zh,yS,yK,yH]at hd hl hk
  have h0:=hs 0 (by simp) n _ hd (by simp only[xG,zM];omega)
  simp only[xG,zM]at h0
  refine h0 fun hb=> ?_
  have hd2:=ZDc hd
  rw[yT]at hd2
  refine ZFY op path rest r (i+1) _ (fun j hj m rest2 a1 a2 a3=> ?_) hd2 (by omega) fun hb2=> ?_
  ·have:=hs (j+1) (by simp;omega) m rest2
   simp only[xX,show i+(j+1)=i+1+j by omega]at this
   exact this a1 a2 a3
  ·rw[zJ]
   exact hk fun b hb3=>(yN.1 hb3).elim (hb b) (hb2 b)
theorem ZHE {w:List Data}{C:List Step}{v:Value}{N e:Nat}(hE:RunOk C v N e):∀(d:Nat) (t:Ty) (q:Pattern) (path:List Int) (u:Value) (d':Nat),ZEJ w d t q->vAt path v=some u->pv w false d' t u->
  ∀(n:Nat) (rest:List Step),C.drop n=(q.tst path).map (toS (e:Int))++rest->n+(q.tst path).length<e->
  ((∀b,b∈q.bnd path->ZKr v b)->RunOk C v N (n+(q.tst path).length))->RunOk C v N n
 |0,t,q,path,u,d',h,_,_=>h.elim
 |d+1,t,q,path,u,d',⟨ho,h5,hlen,hkid⟩,hu,hp=>by
  intro n rest hd hl hk
  rw[ZEY]at hd hl hk
  rw[ZDK]at hk
  have hop:q.op=1∨q.op=2∨q.op=3∨q.op=4∨q.op=6:=by unfold ZAo at ho;omega
  by_cases h4:q.op=4
  ·have hc:q.ctor∈ZP w t:=by
    unfold ZAo at ho
    rcases ho with h|h|h|h|h|h
    all_goals first|exact h.2.2.2.2|(exfalso;omega)
   obtain⟨hdt,hc0,_⟩:=ZU hc
   obtain⟨c1,c2,c3⟩:=ZKS hp hdt
   have hty:ZG w t q=ZK w t q.ctor:=by unfold ZG;rw[iP h4]
   rw[iN (by omega),iP h4]at hd hl hk
   rw[iN (by omega),yM]at hk
   simp only[yS,yJ,xO,xI,yM,yH,yO,yQ]at hd hl hk
   have hg:=ZBl hd
   refine .test n e _ u hg rfl hu rfl (by omega) (fun hps=> ?_) hE
   have hcu:u.ctor=q.ctor:=hps.1
   rw[hcu]at c2 c3
   have hd2:C.drop (n+1)=(Zh q.op path 0 (q.kids.map Pattern.tst)).map (toS (e:Int))++rest:=by
    rw[←List.drop_drop,hd];rfl
   refine ZFY q.op path rest q.kids 0 (n+1) (fun j hj m rest2 a1 a2 a3=> ?_) hd2 (by omega) fun hb=> ?_
   ·have hj':j<(ZG w t q).length:=by omega
    have hja:j<(ZK w t q.ctor).length:=by rw[←hty];exact hj'
    have hju:j<u.kids.length:=by omega
    obtain⟨e',hpj⟩:=c3 j hja hju
    have hsj:=hkid j hj' hj
    rw[iP h4]at a1 a2 a3
    rw[zH]at a1 a2 a3
    refine ZHE hE d _ q.kids[j] (path++[(j:Int)]) u.kids[j] e' hsj ?_ ?_ m rest2 a1 a2 a3
    ·rw[ZFE,hu];show at? u.kids (j:Int)=_;rw[ZCD hju]
    ·simp only[hty];exact hpj
   ·have:=hk hb
    rw[zJ,zR 1]
    exact this
  ·by_cases h3:q.op=3
   ·have hk0:q.kids=[]:=by
     have:ZG w t q=[]:=by unfold ZG;rw[iN h4,iN h5,iN (by omega)]
     rw[this]at hlen;exact xS hlen
    rw[iP h3,hk0]at hd hl hk
    rw[iN (by omega)]at hk
    simp only[xO,Zh,xT,yJ,xI,yM,yO,yQ]at hd hl hk
    have hg:=ZBl hd
    refine .test n e _ u hg rfl hu rfl (by omega) (fun _=> ?_) hE
    exact hk fun b hb=>by cases hb
   ·rw[iN h3,iN h4,yM]at hd hl hk
    have hsame:∀j:Nat,(if q.op=4 then path++[((0+j:Nat):Int)]else path)=path:=fun j=>iN h4
    refine ZFY q.op path rest q.kids 0 n (fun j hj m rest2 a1 a2 a3=> ?_) hd hl fun hb=>hk fun b hb2=> ?_
    ·rw[hsame]at a1 a2 a3
     have hj':j<(ZG w t q).length:=by omega
     have h6:q.op=6:=by
      rcases hop with h|h|h|h|h
      ·exfalso;have:ZG w t q=[]:=by unfold ZG;rw[iN h4,iN h5,iN (by omega)]
       rw[this]at hj';simp at hj'
      ·exfalso;have:ZG w t q=[]:=by unfold ZG;rw[iN h4,iN h5,iN (by omega)]
       rw[this]at hj';simp at hj'
      ·exact absurd h h3
      ·exact absurd h h4
      ·exact h
     have hty:ZG w t q=[t]:=by unfold ZG;rw[iN h4,iN h5,iP h6]
     have hsj:=hkid j hj' hj
     have e1:(ZG w t q)[j]=t:=by
      have:j=0:=by rw[hty]at hj';simpa using hj'
      subst this;simp[hty]
     rw[e1]at hsj
     exact ZHE hE d t q.kids[j] path u d' hsj hu hp m rest2 a1 a2 a3
    ·rcases yN.1 hb2 with hb2|hb2
     ·split at hb2
      ·rw[yY.1 hb2];exact⟨u,hu⟩
      ·cases hb2
     ·exact hb b hb2
theorem ZGG {w:List Data}{C:List Step}{v:Value}{N:Nat}{t:Ty}{d':Nat}(hv:pv w false d' t v)(c e:Nat)(hc:c<N)(hE:RunOk C v N e):∀(qs:List Pattern) (n:Nat) (rest:List Step),(∀q,q∈qs->q.wt<=900/\∃d,ZEJ w d t q)->
  C.drop n=ZZ (fun _=>(e:Int)) c n qs++rest->n+(ZZ (fun _=>(e:Int)) c n qs).length=e->RunOk C v N n
 | [],n,rest,_,hd,hl=>by
  simp only[ZZ,yQ]at hl
  rw[show n=e by omega];exact hE
 |q::r,n,rest,hq,hd,hl=>by
  obtain⟨hw,d,hs⟩:=hq q (yV ..)
  simp only[ZZ,yH,yT,yO,yQ,yK]at hd hl
  have hd2:=ZDc hd
  rw[yT]at hd2
  have hd3:C.drop (n+(q.tst []).length+1)=ZZ (fun _=>(e:Int)) c (n+(q.tst []).length+1) r++rest:=by
   rw[←List.drop_drop,hd2];rfl
  have ih:=ZGG hv c e hc hE r (n+(q.tst []).length+1) rest (fun x hx=>hq x (yP _ hx)) hd3 (by omega)
  have hg:=ZBl hd2
  refine ZHE ih d t q [] v d' hs rfl hv n _ hd (by show n+(q.tst []).length<n+(q.tst []).length+1;omega) fun hb=> ?_
  refine .take _ e c _ hg rfl (fun b hb2=>hb b (ZCK.1 hb2)) ?_ rfl hc rfl (by omega) hE
  have:=ZC3 q []
  show(sortI (fun x=>x.var) (q.bnd [])).length<=_
  rw[ZCL];omega
theorem ZD3 :∀(vs:List (List Pattern)) (i:Nat) (o:List Step),∃r,ZAk i o vs=o++r
 | [],i,o=>⟨[],(xT o).symm⟩
 |x::r,i,o=>by
  obtain⟨a,ha⟩:=ZD3 r (i+1) (clS i o x)
  rw[ZAk,ha];unfold clS
  exact⟨_,yK ..⟩
theorem ZGq {w:List Data}{v:Value}{N:Nat}{t:Ty}{d':Nat}(hv:pv w false d' t v):∀(vs:List (List Pattern)) (i:Nat) (o:List Step),(∀x,x∈vs->∀q,q∈x->q.wt<=900/\∃d,ZEJ w d t q)->i+vs.length<=N->
  RunOk (ZAk i o vs++[ZB9]) v N o.length
 | [],i,o,h,hn=>by
  refine .fail _ ZB9 ?_ rfl
  rw[ZAk,vE (zA _),zE];rfl
 |x::r,i,o,h,hn=>by
  rw[yO]at hn
  have ih:=ZGq (N:=N) hv r (i+1) (clS i o x) (fun y hy=>h y (yP _ hy)) (by omega)
  obtain⟨a,ha⟩:=ZD3 r (i+1) (clS i o x)
  rw[ZAk]
  have hE:(clS i o x).length=o.length+(ZZ (fun _=>0) i o.length x).length:=by unfold clS;rw[yH,ZAZ _ (fun _=>0)]
  rw[hE]at ih
  refine ZGG hv i _ (by omega) ih x o.length (a++[ZB9]) (h x (yV ..)) ?_ (by rw[ZAZ _ (fun _=>0)])
  rw[ha];unfold clS
  rw[yK,yK,xP]
theorem P.YAW (w:List Data)(t:Ty)(v:Value)(ht:ZAc w t)(hv:v.wt<=4000000):F.f172 w t v=some (dec (pv w false 10 t v/\1+v.wt<=60)):=by
 unfold F.f172
 obtain⟨b,c,h1,h2,_⟩:=P.YAL w ht.1 false 10 t v 0 (by omega) (ZBI ht.2.1) (by omega)
 have h1':F.f169 w t v 1 false 0=some (b,(c:Int)):=h1
 rw[h1']
 simp only[oE,oS]
 congr 1
 cases b with
 |true=>rw[ZF ⟨(h2.1 rfl).1,by have:=(h2.1 rfl).2;omega⟩]
 |false=>rw[ZD fun hh=>by have:=h2.2 ⟨hh.1,by have:=hh.2;omega⟩;cases this]
theorem P.YA3 (w:List Data)(t:Ty)(v:Value)(ht:ZAc w t)(hv:v.wt<=4000000):F.f229 w t v=some (dec (pv w false 10 t v/\1+v.wt<=60)):=by
 unfold F.f229
 have e:F.f225 w t v 10=some (dec (pv w false 10 t v)):=P.YP w ht.1 10 t v (ZBI ht.2.1) (by omega)
 rw[e]
 simp only[oE,oS]
 by_cases hp:pv w false 10 t v
 ·rw[iP (ZF hp)]
  obtain⟨c,h1,h2,h3,h4,h5⟩:=P.YAm v hv 60 (by omega)
  have h1':F.f227 v 60=some (c:Int):=h1
  rw[h1']
  simp only[oS]
  rw[←Zv];congr 1
  refine ZL ⟨fun hc=>⟨hp,?_⟩,fun hh=> ?_⟩
  ·apply vU
   intro hn
   have:=h5 (by omega);omega
  ·have:=h4 hh.2;have:=hh.2;omega
 ·rw[iN (by rw[ZD hp];simp),ZD fun hh=>hp hh.1]
theorem ZIq {l:List Clause}(hc:ZNm w t l)(ha:∀c,c∈l->c.pat.alts<=40)(hv:pv w false 10 t v):
  RunOk (ZAk 0 [] (l.map fun c=>c.pat.splits)++[ZB9]) v l.length 0/\(ZAk 0 [] (l.map fun c=>c.pat.splits)++[ZB9]).length<=60000000:=by
 have hq:∀c,c∈l->∀q,q∈c.pat.splits->q.wt<=900/\∃d,ZEJ w d t q:=fun c h q hq=>by
  obtain⟨s1,s2,s3⟩:=ZBQ 10 t c.pat (hc.2.2 c h).1.1 (hc.2.2 c h).1.2.1 q hq
  have:=(hc.2.2 c h).1.2.2
  exact⟨by omega,10,s1⟩
 have hl8:l.length<=8:=hc.2.1
 refine⟨ZGq hv _ 0 [] (fun x hx=> ?_) (by simp),?_⟩
 ·obtain⟨c,h,rfl⟩:=yR.1 hx
  exact hq c h
 ·have cl:=ZD4 (l.map fun c=>c.pat.splits) 0 [] fun x hx=>by
   obtain⟨c,h,rfl⟩:=yR.1 hx
   exact⟨by rw[ZAM];exact ha c h,fun q hq'=>(hq c h q hq').1⟩
  rw[yT,yQ]at cl
  rw[yH,xQ];omega
noncomputable def ZET (l:List (List Int))(p:List Int):List (List Int):=if p∈l then l else l++[p]
theorem ZM8 (l:List (List Int))(p:List Int):(ZET l p).length<=l.length+1:=by
 unfold ZET;split<;>simp
theorem ZM7 {l:List (List Int)}{p q:List Int}:q∈ZET l p↔q∈l∨q=p:=by
 unfold ZET
 split
 ·next h=>exact⟨.inl,fun hq=>hq.elim id fun e=>e▸h⟩
 ·simp
theorem ZGf (ps:List (List Int)):∀l:List (List Int),(ps.foldl ZET l).length<=l.length+ps.length:=by
 induction ps with
 |nil=>intro l;simp
 |cons p r ih=>intro l;have h1:=ih (ZET l p);have h2:=ZM8 l p;simp only[xA,yO];omega
theorem ZC0 (ps:List (List Int))(p:List Int)(l:List (List Int)):(ps++[p]).foldl ZET l=ZET (ps.foldl ZET l) p:=by
 rw[List.foldl_append];rfl
theorem ZD0 {q:List Int}:∀(ps:List (List Int)) (l:List (List Int)),q∈ps.foldl ZET l↔q∈l∨q∈ps
 | [],l=>by simp
 |p::r,l=>by rw[xA,ZD0 r,ZM7,xB,or_assoc]
theorem ZIK {α:Type}(f:α->Nat){x:α}:∀{l:List α},x∈l->1+f x<=wtL f l
 |a::s,h=>by
  rw[ZAq]
  rcases xB.1 h with rfl|h
  ·omega
  ·have:=ZIK f h;omega
theorem ZHB :∀(p:List Int) (v u:Value),vAt p v=some u->p.length<=v.wt
 | [],v,u,_=>zB _
 |i::r,v,u,h=>by
  rw[vAt]at h
  cases e:at? v.kids i with
  |none=>rw[e]at h;cases h
  |some x=>
   rw[e]at h
   have h1:=ZHB r x u h
   have h2:=ZBN Value.wt v.kids
   have h3:=ZLe e
   have h4:=ZIK Value.wt h3
   rw[Value.wt_eq v,yO];omega
theorem P.YAa (l:List (List Int))(p:List Int)(hl:l.length<=67108863)(hp:p.length<=67108864):F.f179 l p=some (ZET l p):=by
 have hc:F.f178 l p=some (dec (p∈l)):=by
  unfold F.f178 F.f177
  have one:∀q,F.f175 q p=some (dec (q=p)):=by
   intro q;unfold F.f175;rw[P.Yg];rfl
  rw[ZLH (a:=l) (p:=fun q=>q=p) (L:=F.f176 l p) (fun k hk=>by rw[F.f176,iN (by omega)])
   (fun k hk hp=>by rw[F.f176,iP hk,gQ hk];simp only[oE,oS];rw[one];simp only[oS];rw[iN (by rw[ZD hp];simp)])
   (fun k hk hp=>by rw[F.f176,iP hk,gQ hk];simp only[oE,oS];rw[one];simp only[oS];rw[iP (ZF hp)]) _ 0 rfl,yI]
  cases hf:ZGh (fun q=>q=p) 0 l with
  |none=>
   have:=ZAj hf
   simp only[oE,oS]
   rw[ZD fun h=>this p h rfl];rfl
  |some j=>
   obtain⟨_,h2,h3,_⟩:=ZAi hf
   simp only[oE,oS]
   rw[ZF (h3▸gM h2)];simp
 unfold F.f179 ZET
 rw[hc]
 simp only[oE,oS]
 by_cases h:p∈l
 ·rw[iP (ZF h),iP h]
 ·rw[iN (by rw[ZD h];decide),iN h,P.YC _ hp]
  simp only[oS]
  rw[iP (by omega)]
theorem P.YA0 (v9:Int×List Bind×List (List Int))(out:List (List Int))(i:Nat)(hi:i<v9.2.2.length):∀(m k:Nat) (found:Bool),out.length-k=m->F.f243 v9 out i found k=some (found||dec (v9.2.2[i]∈out.drop k)):=by
 intro m
 induction m with
 |zero=>
  intro k found hm
  rw[F.f243,iN (by omega),yG (by omega),ZD (by simp),Bool.or_false]
 |succ m ih=>
  intro k found hm
  have hk:k<out.length:=by omega
  rw[F.f243,iP hk,yF hk]
  cases found with
  |true=>rw[iP rfl,ih (k+1) true (by omega)];simp
  |false=>
   rw[iN (by decide),gQ hk,gQ hi]
   simp only[oE,oS]
   rw[P.Ym]
   simp only[oS]
   rw[ih (k+1) _ (by omega),uF]
   congr 1
   by_cases h1:out[k]=v9.2.2[i]
   ·rw[ZF h1,ZF (show v9.2.2[i]∈out[k]::out.drop (k+1) by rw[←h1];exact yV ..),Bool.true_or]
   ·rw[ZD h1,uF]
    exact ZL ⟨fun h=>yP _ h,fun h=>(xB.1 h).resolve_left fun e=>h1 e.symm⟩
theorem P.YA1 (v9:Int×List Bind×List (List Int))(hl:v9.2.2.length<=60000000)(hp:∀p,p∈v9.2.2->p.length<=67108864):∀(m i:Nat) (out:List (List Int)),v9.2.2.length-i=m->out.length<=i->F.f244 v9 out i=some ((v9.2.2.drop i).foldl ZET out):=by
 intro m
 induction m with
 |zero=>
  intro i out hm ho
  rw[F.f244,iN (by omega),yG (by omega)];rfl
 |succ m ih=>
  intro i out hm ho
  have hi:i<v9.2.2.length:=by omega
  rw[F.f244,iP hi,P.YA0 v9 out i hi _ 0 false rfl,yF hi,xA]
  simp only[oE,oS,uF,yI]
  unfold ZET
  by_cases h:v9.2.2[i]∈out
  ·rw[iP (ZF h),iP h,iP (by omega)]
   exact ih (i+1) out (by omega) (by omega)
  ·rw[iN (by rw[ZD h];decide),iN h,gQ hi]
   simp only[oS]
   rw[iP (hp _ (gM hi)),iP (by omega),iP (by omega)]
   exact ih (i+1) _ (by omega) (by simp;omega)
variable {C:List Step}
theorem ZHG {l:List Clause}(hC:C.length<=60000000)(hv:v.wt<=1048576){k:Nat}(h:RunOk C v l.length k):∀(paths:List (List Int)),paths.length<=k->(∀p,p∈paths->p.length<=1048576)->
  ∃(c:Int) (bs:List Bind) (ps:List (List Int)),F.f192 C l v (paths.foldl ZET []) paths.length (k:Int)=some (c,bs,(ps.length:Int),ps.foldl ZET [])/\ps.length<=60000000/\(∀p,p∈ps->p.length<=1048576)/\
   ((F.f239 l C v paths (k:Int)=some (.ret (c,bs,ps)))∨F.f239 l C v paths (k:Int)=some (.go ps)):=by
 induction h with
 |fail k s h h3=>
  intro paths hp hpl
  have hkl:k<C.length:=(xK.1 h).1
  rw[F.f192,F.f239,ZCe,h]
  simp only[oE,oS]
  rw[iP h3,iP h3]
  exact⟨_,_,paths,rfl,by omega,hpl,.inr rfl⟩
 |take k j c s h h2 hb hl hc hn ht hk r ih=>
  intro paths hp hpl
  have hkl:k<C.length:=(xK.1 h).1
  obtain⟨b,g1,g2⟩:=P.YAC (l[c]).guard (s.binds.map (ZH7 v))
  rw[F.f192,F.f239,ZCe,h]
  simp only[oE,oS,F.f180]
  rw[iN (show ¬s.op=3 by omega),iN (show ¬s.op=1 by omega)]
  simp only[oS]
  rw[iN (show ¬s.op=1 by omega),iN (show ¬s.op=3 by omega),iP h2,P.YAr _ v hb (by omega) (by omega),P.YS _ v hb (by omega) (by omega),hc,ZCD hn]
  simp only[oS]
  rw[g1,g2]
  simp only[oS]
  cases b with
  |true=>
   rw[iP rfl,iP rfl]
   exact⟨_,_,paths,rfl,by omega,hpl,.inl rfl⟩
  |false=>
   rw[iN (by decide),iN (by decide),ht]
   exact ih paths (by omega) hpl
 |test k j s u h h1 hu ht hk hps r ih1 ih2=>
  intro paths hp hpl
  have hkl:k<C.length:=(xK.1 h).1
  have hsl:=ZHB _ _ _ hu
  have hfl:=ZGf paths []
  rw[F.f192,F.f239,ZCe,h]
  simp only[oE,oS,F.f180]
  rw[iN (show ¬s.op=3 by omega),iP h1,P.YAa _ _ (by simp at hfl;omega) (by omega)]
  simp only[oS]
  rw[iP h1,iN (show ¬s.op=3 by omega),iN (show ¬s.op=2 by omega),iP (show paths.length+1<=9223372036854775807 by omega),iP (show paths.length+1<=67108864 by omega),P.YAQ,P.Ye,hu]
  simp only[oS]
  rw[P.YAZ,P.YR]
  simp only[oS]
  have hpl':∀p,p∈paths++[s.path]->p.length<=1048576:=fun p hp=>(yN.1 hp).elim (hpl p) fun h=>by rw[yY.1 h];omega
  by_cases hq:ZGF s u
  ·rw[ZF hq,iP rfl,iP rfl,ZC (by omega) (by omega)]
   have:=ih1 hq (paths++[s.path]) (by simp;omega) hpl'
   rw[yH,xQ,ZC0]at this
   exact this
  ·rw[ZD hq,iN (by decide),iN (by decide),ht]
   have:=ih2 (paths++[s.path]) (by simp;omega) hpl'
   rw[yH,xQ,ZC0]at this
   exact this
theorem P.Yi (w : List Data) (hw : ZAD w) (t : Ty) (l : List Clause) (v : Value) (hp : ∀ c, c ∈ l -> c.pat.wt <= 1048576) (hv : v.wt <= 1048576) :
  ∃ r : List (List Int), F.f194 w t l v = some r /\ F.f245 w t l v = some r /\ (r = [] ∨ ∃ ps, r = ps.foldl ZET [] /\ ps.length <= 60000000 /\ (∀ p, p ∈ ps -> p.length <= 1048576) /\ ZNm w t l /\ pv w false 10 t v /\ (∀ c, c ∈ l -> c.pat.alts <= 40) /\
   ((∃ c bs, F.f239 l (ZAk 0 [] (l.map fun c => c.pat.splits) ++ [ZB9]) v [] 0 = some (.ret (c, bs, ps))) ∨ F.f239 l (ZAk 0 [] (l.map fun c => c.pat.splits) ++ [ZB9]) v [] 0 = some (.go ps))) := by
 obtain ⟨C, b, e1, e2, e3⟩ := P.YAb w hw t l hp fun hc c h => (hc.2.2 c h).1
 unfold F.f194 F.f245
 rw [e1, e2]
 simp only [oE, oS]
 cases b with
 | false => rw [iN (by decide), iN (by decide)]; exact ⟨_, rfl, rfl, .inl rfl⟩
 | true =>
  obtain ⟨hc, ha, rfl⟩ := e3 rfl
  rw [iP rfl, iP rfl, P.YAW w t v hc.1 (by omega), P.YA3 w t v hc.1 (by omega)]
  simp only [oS]
  by_cases hg : pv w false 10 t v /\ 1 + v.wt <= 60
  ·rw [iP (ZF hg), iP (ZF hg)]
   obtain ⟨h1, h2⟩ := ZIq hc ha hg.1
   obtain ⟨c, bs, ps, q1, q2, q3, q4⟩ := ZHG h2 hv h1 [] (zB _) (fun p hp => by cases hp)
   unfold F.f193 F.f240
   have q1 : F.f192 (ZAk 0 [] (l.map fun c => c.pat.splits) ++ [ZB9]) l v [] 0 0 = some (c, bs, (ps.length : Int), ps.foldl ZET []) := q1
   rw [q1]
   have fin : ∀ (c : Int) (bs : List Bind), F.f244 (c, bs, ps) [] 0 = some (ps.foldl ZET []) := fun c bs => P.YA1 (c, bs, ps) q2 (fun p hp => by have := q3 p hp; omega) _ 0 [] rfl (zA _)
   rcases q4 with q4 | q4
   ·have q4 : F.f239 l (ZAk 0 [] (l.map fun c => c.pat.splits) ++ [ZB9]) v [] 0 = some (.ret (c, bs, ps)) := q4
    rw [q4]
    simp only [oE, oS, fin]
    exact ⟨_, rfl, rfl, .inr ⟨ps, rfl, q2, q3, hc, hg.1, ha, .inl ⟨c, bs, rfl⟩⟩⟩
   ·have q4 : F.f239 l (ZAk 0 [] (l.map fun c => c.pat.splits) ++ [ZB9]) v [] 0 = some (.go ps) := q4
    rw [q4]
    simp only [oE, oS, fin]
    exact ⟨_, rfl, rfl, .inr ⟨ps, rfl, q2, q3, hc, hg.1, ha, .inr rfl⟩⟩
  ·rw [iN (by rw [ZD hg]; decide), iN (by rw [ZD hg]; decide)]
   exact ⟨_, rfl, rfl, .inl rfl⟩
inductive RunP (C:List Step)(v:Value)(N:Nat):List (List Int)->Nat->Prop
 |fail (S:List (List Int)) (k:Nat) (s:Step) (h:C[k]? =some s) (h3:s.op=3):RunP C v N S k
 |take (S:List (List Int)) (k j c:Nat) (s:Step) (h:C[k]? =some s) (h2:s.op=2) (hb:∀b,b∈s.binds->ZKr v b) (hl:s.binds.length<=1048576) (hc:s.clause=(c:Int)) (hn:c<N) (ht:s.to=(j:Int)) (hk:k<j) (r:RunP C v N S j):RunP C v N S k
 |test (S:List (List Int)) (k j:Nat) (s:Step) (u:Value) (h:C[k]? =some s) (h1:s.op=1) (hu:vAt s.path v=some u) (hr:s.path=[]∨s.path.dropLast∈S) (ht:s.to=(j:Int)) (hk:k<j) (hp:ZGF s u->RunP C v N (S++[s.path]) (k+1)) (r:RunP C v N (S++[s.path]) j):RunP C v N S k
variable {S:List (List Int)}
theorem RunP.mono {N:Nat}{k:Nat}(h:RunP C v N S k):∀S',(∀x,x∈S->x∈S')->RunP C v N S' k:=by
 induction h with
 |fail S k s h h3=>exact fun S' _=>.fail S' k s h h3
 |take S k j c s h h2 hb hl hc hn ht hk r ih=>exact fun S' q=>.take S' k j c s h h2 hb hl hc hn ht hk (ih S' q)
 |test S k j s u h h1 hu hr ht hk hp r ih1 ih2=>
  intro S' q
  have q':∀x,x∈S++[s.path]->x∈S'++[s.path]:=fun x hx=>by
   rw[yN]at hx ⊢;exact hx.imp (q x) id
  exact .test S' k j s u h h1 hu (hr.imp id (q _)) ht hk (fun hq=>ih1 hq _ q') (ih2 _ q')
theorem ZDv {C:List Step}{R:Nat->Prop}{K:PathBind->Prop}{e:Nat}(op:Int)(path:List Int)(rest:List Step):∀(ks:List Pattern) (i n:Nat),
  (∀j (h:j<ks.length) (m:Nat) (rest:List Step),C.drop m=(ks[j].tst (if op=4 then path++[((i+j:Nat):Int)]else path)).map (toS (e:Int))++rest->m+(ks[j].tst (if op=4 then path++[((i+j:Nat):Int)]else path)).length<e->
   ((∀b,b∈ks[j].bnd (if op=4 then path++[((i+j:Nat):Int)]else path)->K b)->R (m+(ks[j].tst (if op=4 then path++[((i+j:Nat):Int)]else path)).length))->R m)->
  C.drop n=(Zh op path i (ks.map Pattern.tst)).map (toS (e:Int))++rest->n+(Zh op path i (ks.map Pattern.tst)).length<e->
  ((∀b,b∈Zh op path i (ks.map Pattern.bnd)->K b)->R (n+(Zh op path i (ks.map Pattern.tst)).length))->R n
 | [],i,n,hs,hd,hl,hk=>by
  have:=hk (fun b hb=>by simp[Zh]at hb)
  simpa[Zh]using this
 |q::r,i,n,hs,hd,hl,hk=>by
  simp only[yJ,Zh,yS,yK,yH]at hd hl hk
  have h0:=hs 0 (by simp) n _ hd (by simp only[xG,zM];omega)
  simp only[xG,zM]at h0
  refine h0 fun hb=> ?_
  have hd2:=ZDc hd
  rw[yT]at hd2
  refine ZDv (K:=K) op path rest r (i+1) _ (fun j hj m rest2 a1 a2 a3=> ?_) hd2 (by omega) fun hb2=> ?_
  ·have:=hs (j+1) (by simp;omega) m rest2
   simp only[xX,show i+(j+1)=i+1+j by omega]at this
   exact this a1 a2 a3
  ·rw[zJ]
   exact hk fun b hb3=>(yN.1 hb3).elim (hb b) (hb2 b)
theorem ZFG {w:List Data}{C:List Step}{v:Value}{N e:Nat}(hE:RunP C v N [] e):∀(d:Nat) (t:Ty) (q:Pattern) (path:List Int) (u:Value) (d':Nat),ZEJ w d t q->vAt path v=some u->pv w false d' t u->
  ∀(S0:List (List Int)),(path=[]∨path.dropLast∈S0)->∀(n:Nat) (rest:List Step),C.drop n=(q.tst path).map (toS (e:Int))++rest->n+(q.tst path).length<e->
  ((∀b,b∈q.bnd path->ZKr v b)->∀S,(∀x,x∈S0->x∈S)->RunP C v N S (n+(q.tst path).length))->∀S,(∀x,x∈S0->x∈S)->RunP C v N S n
 |0,t,q,path,u,d',h,_,_=>h.elim
 |d+1,t,q,path,u,d',⟨ho,h5,hlen,hkid⟩,hu,hp=>by
  intro S0 hpar n rest hd hl hk
  rw[ZEY]at hd hl hk
  rw[ZDK]at hk
  have hop:q.op=1∨q.op=2∨q.op=3∨q.op=4∨q.op=6:=by unfold ZAo at ho;omega
  by_cases h4:q.op=4
  ·have hc:q.ctor∈ZP w t:=by
    unfold ZAo at ho
    rcases ho with h|h|h|h|h|h
    all_goals first|exact h.2.2.2.2|(exfalso;omega)
   obtain⟨hdt,hc0,_⟩:=ZU hc
   obtain⟨c1,c2,c3⟩:=ZKS hp hdt
   have hty:ZG w t q=ZK w t q.ctor:=by unfold ZG;rw[iP h4]
   rw[iN (by omega),iP h4]at hd hl hk
   rw[iN (by omega),yM]at hk
   simp only[yS,yJ,xO,xI,yM,yH,yO,yQ]at hd hl hk
   have hg:=ZBl hd
   intro S hS
   refine .test S n e _ u hg rfl hu (hpar.imp id (hS _)) rfl (by omega) (fun hps=> ?_) (hE.mono _ fun x hx=>by cases hx)
   have hcu:u.ctor=q.ctor:=hps.1
   rw[hcu]at c2 c3
   have hd2:C.drop (n+1)=(Zh q.op path 0 (q.kids.map Pattern.tst)).map (toS (e:Int))++rest:=by
    rw[←List.drop_drop,hd];rfl
   refine ZDv (R:=fun m=>∀S',(∀x,x∈S0++[path]->x∈S')->RunP C v N S' m) (K:=ZKr v) q.op path rest q.kids 0 (n+1) (fun j hj m rest2 a1 a2 a3=> ?_) hd2 (by omega) (fun hb=> ?_) _ (fun x hx=> ?_)
   ·have hj':j<(ZG w t q).length:=by omega
    have hja:j<(ZK w t q.ctor).length:=by rw[←hty];exact hj'
    have hju:j<u.kids.length:=by omega
    obtain⟨e',hpj⟩:=c3 j hja hju
    have hsj:=hkid j hj' hj
    rw[iP h4]at a1 a2 a3
    rw[zH]at a1 a2 a3
    refine ZFG hE d _ q.kids[j] (path++[(j:Int)]) u.kids[j] e' hsj ?_ ?_ (S0++[path]) (.inr (by simp)) m rest2 a1 a2 a3
    ·rw[ZFE,hu];show at? u.kids (j:Int)=_;rw[ZCD hju]
    ·simp only[hty];exact hpj
   ·intro S' hS'
    have:=hk hb S' fun x hx=>hS' x (xR _ hx)
    rw[zJ,zR 1]
    exact this
   ·rw[yN]at hx ⊢;exact hx.imp (hS x) id
  ·by_cases h3:q.op=3
   ·have hk0:q.kids=[]:=by
     have:ZG w t q=[]:=by unfold ZG;rw[iN h4,iN h5,iN (by omega)]
     rw[this]at hlen;exact xS hlen
    rw[iP h3,hk0]at hd hl hk
    rw[iN (by omega)]at hk
    simp only[xO,Zh,xT,yJ,xI,yM,yO,yQ]at hd hl hk
    have hg:=ZBl hd
    intro S hS
    refine .test S n e _ u hg rfl hu (hpar.imp id (hS _)) rfl (by omega) (fun _=> ?_) (hE.mono _ fun x hx=>by cases hx)
    exact hk (fun b hb=>by cases hb) _ fun x hx=>xR _ (hS x hx)
   ·rw[iN h3,iN h4,yM]at hd hl hk
    have hsame:∀j:Nat,(if q.op=4 then path++[((0+j:Nat):Int)]else path)=path:=fun j=>iN h4
    refine ZDv (R:=fun m=>∀S',(∀x,x∈S0->x∈S')->RunP C v N S' m) (K:=ZKr v) q.op path rest q.kids 0 n (fun j hj m rest2 a1 a2 a3=> ?_) hd hl fun hb=>hk fun b hb2=> ?_
    ·rw[hsame]at a1 a2 a3
     have hj':j<(ZG w t q).length:=by omega
     have h6:q.op=6:=by
      rcases hop with h|h|h|h|h
      ·exfalso;have:ZG w t q=[]:=by unfold ZG;rw[iN h4,iN h5,iN (by omega)]
       rw[this]at hj';simp at hj'
      ·exfalso;have:ZG w t q=[]:=by unfold ZG;rw[iN h4,iN h5,iN (by omega)]
       rw[this]at hj';simp at hj'
      ·exact absurd h h3
      ·exact absurd h h4
      ·exact h
     have hty:ZG w t q=[t]:=by unfold ZG;rw[iN h4,iN h5,iP h6]
     have hsj:=hkid j hj' hj
     have e1:(ZG w t q)[j]=t:=by
      have:j=0:=by rw[hty]at hj';simpa using hj'
      subst this;simp[hty]
     rw[e1]at hsj
     exact ZFG hE d t q.kids[j] path u d' hsj hu hp S0 hpar m rest2 a1 a2 a3
    ·rcases yN.1 hb2 with hb2|hb2
     ·split at hb2
      ·rw[yY.1 hb2];exact⟨u,hu⟩
      ·cases hb2
     ·exact hb b hb2
theorem ZEk {w:List Data}{C:List Step}{v:Value}{N:Nat}{t:Ty}{d':Nat}(hv:pv w false d' t v)(c e:Nat)(hc:c<N)(hE:RunP C v N [] e):∀(qs:List Pattern) (n:Nat) (rest:List Step),(∀q,q∈qs->q.wt<=900/\∃d,ZEJ w d t q)->
  C.drop n=ZZ (fun _=>(e:Int)) c n qs++rest->n+(ZZ (fun _=>(e:Int)) c n qs).length=e->RunP C v N [] n
 | [],n,rest,_,hd,hl=>by
  simp only[ZZ,yQ]at hl
  rw[show n=e by omega];exact hE
 |q::r,n,rest,hq,hd,hl=>by
  obtain⟨hw,d,hs⟩:=hq q (yV ..)
  simp only[ZZ,yH,yT,yO,yQ,yK]at hd hl
  have hd2:=ZDc hd
  rw[yT]at hd2
  have hd3:C.drop (n+(q.tst []).length+1)=ZZ (fun _=>(e:Int)) c (n+(q.tst []).length+1) r++rest:=by
   rw[←List.drop_drop,hd2];rfl
  have ih:=ZEk hv c e hc hE r (n+(q.tst []).length+1) rest (fun x hx=>hq x (yP _ hx)) hd3 (by omega)
  have hg:=ZBl hd2
  refine ZFG ih d t q [] v d' hs rfl hv [] (.inl rfl) n _ hd (by show n+(q.tst []).length<n+(q.tst []).length+1;omega) (fun hb S hS=> ?_) [] fun x hx=>hx
  refine .take S _ e c _ hg rfl (fun b hb2=>hb b (ZCK.1 hb2)) ?_ rfl hc rfl (by omega) (hE.mono _ fun x hx=>by cases hx)
  have:=ZC3 q []
  show(sortI (fun x=>x.var) (q.bnd [])).length<=_
  rw[ZCL];omega
theorem ZE2 {w:List Data}{v:Value}{N:Nat}{t:Ty}{d':Nat}(hv:pv w false d' t v):∀(vs:List (List Pattern)) (i:Nat) (o:List Step),(∀x,x∈vs->∀q,q∈x->q.wt<=900/\∃d,ZEJ w d t q)->i+vs.length<=N->
  RunP (ZAk i o vs++[ZB9]) v N [] o.length
 | [],i,o,h,hn=>by
  refine .fail _ _ ZB9 ?_ rfl
  rw[ZAk,vE (zA _),zE];rfl
 |x::r,i,o,h,hn=>by
  rw[yO]at hn
  have ih:=ZE2 (N:=N) hv r (i+1) (clS i o x) (fun y hy=>h y (yP _ hy)) (by omega)
  obtain⟨a,ha⟩:=ZD3 r (i+1) (clS i o x)
  rw[ZAk]
  have hE:(clS i o x).length=o.length+(ZZ (fun _=>0) i o.length x).length:=by unfold clS;rw[yH,ZAZ _ (fun _=>0)]
  rw[hE]at ih
  refine ZEk hv i _ (by omega) ih x o.length (a++[ZB9]) (h x (yV ..)) ?_ (by rw[ZAZ _ (fun _=>0)])
  rw[ha];unfold clS
  rw[yK,yK,xP]
theorem ZLP {l:List Clause}(hc:ZNm w t l)(hv:pv w false 10 t v):
  RunP (ZAk 0 [] (l.map fun c=>c.pat.splits)++[ZB9]) v l.length [] 0:=by
 refine ZE2 hv _ 0 [] (fun x hx=> ?_) (by simp)
 obtain⟨c,h,rfl⟩:=yR.1 hx
 intro q hq
 obtain⟨s1,s2,s3⟩:=ZBQ 10 t c.pat (hc.2.2 c h).1.1 (hc.2.2 c h).1.2.1 q hq
 have:=(hc.2.2 c h).1.2.2
 exact⟨by omega,10,s1⟩
inductive ParOk :List (List Int)->Prop
 |nil:ParOk []
 |snoc {S:List (List Int)} {p:List Int} (h:ParOk S) (hp:p=[]∨p.dropLast∈S):ParOk (S++[p])
theorem ParOk.fold (h:ParOk S):ParOk (S.foldl ZET []):=by
 induction h with
 |nil=>exact .nil
 |snoc h hp ih=>
  rw[ZC0]
  unfold ZET
  split
  ·exact ih
  ·exact .snoc ih (hp.imp id fun h=>(ZD0 _ _).2 (.inr h))
theorem ParOk.at (h:ParOk S):∀i (hi:i<S.length),S[i]=[]∨S[i].dropLast∈S.take i:=by
 induction h with
 |nil=>intro i hi;simp at hi
 | @snoc S p h hp ih=>
  intro i hi
  rw[yH,xQ]at hi
  by_cases hl:i<S.length
  ·rw[vF hl,List.take_append_of_le_length (by omega)];exact ih i hl
  ·have:i=S.length:=by omega
   subst this
   rw[xU (zA _),vA]
   simpa using hp
theorem ZJO {l:List Clause}(hC:C.length<=60000000)(hv:v.wt<=1048576){k:Nat}(h:RunP C v l.length S k):S.length<=k->(∀p,p∈S->∃u,vAt p v=some u)->ParOk S->
  ∀ps,((∃c bs,F.f239 l C v S (k:Int)=some (.ret (c,bs,ps)))∨F.f239 l C v S (k:Int)=some (.go ps))->(∀p,p∈ps->∃u,vAt p v=some u)/\ParOk ps:=by
 induction h with
 |fail S k s h h3=>
  intro hl hvd hpo ps hq
  rw[F.f239,ZCe,h]at hq
  simp only[oE,oS]at hq
  rw[iP h3]at hq
  rcases hq with⟨_,_,hq⟩|hq
  ·cases hq
  ·cases hq;exact⟨hvd,hpo⟩
 |take S k j c s h h2 hb hl hc hn ht hk r ih=>
  intro hl' hvd hpo ps hq
  obtain⟨b,g1,g2⟩:=P.YAC (l[c]).guard (s.binds.map (ZH7 v))
  rw[F.f239,ZCe,h]at hq
  simp only[oE,oS]at hq
  rw[iN (show ¬s.op=3 by omega),iP h2,P.YS _ v hb (by omega) (by omega),hc,ZCD hn]at hq
  simp only[oS]at hq
  rw[g2]at hq
  simp only[oS]at hq
  cases b with
  |true=>
   rw[iP rfl]at hq
   rcases hq with⟨_,_,hq⟩|hq
   ·cases hq;exact⟨hvd,hpo⟩
   ·cases hq
  |false=>
   rw[iN (by decide),ht]at hq
   exact ih (by omega) hvd hpo ps hq
 |test S k j s u h h1 hu hr ht hk hps r ih1 ih2=>
  intro hl' hvd hpo ps hq
  have hkl:k<C.length:=(xK.1 h).1
  rw[F.f239,ZCe,h]at hq
  simp only[oE,oS]at hq
  rw[iN (show ¬s.op=3 by omega),iN (show ¬s.op=2 by omega),iP (show S.length+1<=67108864 by omega),P.Ye,hu]at hq
  simp only[oS]at hq
  rw[P.YR]at hq
  simp only[oS]at hq
  have hvd':∀p,p∈S++[s.path]->∃u,vAt p v=some u:=fun p hp=>(yN.1 hp).elim (hvd p) fun h=>by rw[yY.1 h];exact⟨u,hu⟩
  by_cases hq2:ZGF s u
  ·rw[ZF hq2,iP rfl,ZC (by omega) (by omega)]at hq
   exact ih1 hq2 (by simp;omega) hvd' (.snoc hpo hr) ps hq
  ·rw[ZD hq2,iN (by decide),ht]at hq
   exact ih2 (by simp;omega) hvd' (.snoc hpo hr) ps hq
theorem P.YA8 (h:rok K r)(hK:K<=110000)(e:Value)(he:e.wt<=4000):
  ∃e1 r1,F.f95 r e=some (e1,r1)/\e1.wt<=1048500:=by
 obtain⟨b,q⟩:=r
 obtain⟨hl,hb,hq,hqK⟩:=h
 simp only at hl hb hq hqK
 obtain⟨p,rfl⟩:=vW hq
 by_cases h0:0<b.length
 ·obtain⟨d,hd,hw⟩:=ZLx hb hl h0 (p:=p) (by omega)
  obtain⟨e1,k1,g1,g2,g3,g4⟩:=P.YAj hb hl h0 d p e (by omega) (by omega) (by omega)
  exact⟨e1,_,g1,by omega⟩
 ·have hb0:b.length=0:=by omega
  obtain⟨ctor,n,ks⟩:=e
  have hlen:ks.length<=(⟨ctor,n,ks⟩:Value).wt:=by simp[Value.wt]
  rw[F.f95,iP (by show ks.length<=_;omega),P.YBC hb hl p (by omega)]
  have hp0:pNat b p=0:=by unfold pNat;rw[iP hb0]
  obtain⟨v,ev⟩:=P.YAn hb hl (p+1) (by omega) [0,1,-1,9,-2] (by simp)
  simp only[oE,oS]
  rw[iP (by omega),ev]
  refine⟨_,_,rfl,?_⟩
  have:(⟨v,n,ks⟩:Value).wt=(⟨ctor,n,ks⟩:Value).wt:=by simp[Value.wt]
  show(⟨v,n,ks⟩:Value).wt<=_
  omega
theorem P.Yo (code:List Int)(hc:ZFl code):∃w t l v,F.f97 code=some (w,t,l,v)/\ZAD w/\(∀c,c∈l->c.pat.wt<=1048576)/\v.wt<=1048500:=by
 have key:∀r,rok 0 r->∃w t l v,((F.f91 r)>>=fun v=>
   (F.f94 v.2.2.2.2 v.2.2.1)>>=fun v6=>
   (F.f95 v6.2 v.2.2.2.1)>>=fun v8=>
   some (v.1,v.2.1,v6.1,v8.1))=some (w,t,l,v)/\ZAD w/\(∀c,c∈l->c.pat.wt<=1048576)/\v.wt<=1048500:=by
  intro r hr
  obtain⟨w,t,l,v,r1,T,e1,h1,hw,_,_,ht,hl,hp,_,hvw⟩:=P.YBO hr (by omega)
  obtain⟨l',r3,e3,h3,_,hp3⟩:=P.YBF h1 (by omega) l (by omega) (fun c h=>by have:=(hp c h).2.2;omega)
  obtain⟨v',r4,e4,hv⟩:=P.YA8 h3 (by omega) v (by omega)
  rw[e1]
  simp only[oE,oS]
  rw[e3]
  simp only[oS]
  rw[e4]
  exact⟨w,t,l',v',rfl,ZDC hw,fun c h=>by have:=hp3 c h;omega,hv⟩
 have e0:∃w t l v,F.f96 code=some (w,t,l,v)/\ZAD w/\(∀c,c∈l->c.pat.wt<=1048576)/\v.wt<=1048500:=by
  unfold F.f96
  by_cases hcl:2000<code.length
  ·rw[iP hcl,iP (by omega)];exact key _ (ZN4 hc)
  ·rw[iN hcl];exact key _ (ZL6 hc (by omega))
 obtain⟨w,t,l,v,e,h⟩:=e0
 exact⟨w,t,l,v,by unfold F.f97;rw[e];rfl,h⟩
end Go.Vl
