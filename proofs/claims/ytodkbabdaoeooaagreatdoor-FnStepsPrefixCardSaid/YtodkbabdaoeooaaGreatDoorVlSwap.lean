import Derived.Test.YtodkbabdaoeooaaGreatDoorVlBor
set_option linter.all false
open List renaming getElem?_eq_getElem->zA,mem_of_mem_take->zB,mem_of_getElem?->zC,mem_of_mem_drop->zD,getD_eq_getElem?_getD->zE,getElem?_eq_some_iff->zF,getElem?_set_self->zG,getElem?_set_ne->zH
namespace Go.Vl
open Go
variable {P : Program} {B nb N : Nat}
def MS.cut (k:Nat):MS->MS
 | .arr b sz _=>.arr b sz k
 |s=>s
theorem MS.cut_has {k:Nat}{s:MS}{b:Nat}:(s.cut k).has b↔s.has b:=by cases s<;>rfl
def ZHb :AV->Option Nat
 | .own l _=>some l
 | .pre l _ _=>some l
 |_=>none
def ZCE (σ:ZA)(x:AV)(sz k:Nat)(es:List (List AV)):Prop:=
 match x with
 | .own l n=>n=k/\es.length=k/\σ[l]? =some (.elems sz es)
 | .pre l n j=>j=k/\k<=n/\∃es0,σ[l]? =some (.elems sz es0)/\es0.length=n/\es=es0.take k/\0<k
 | .lit v=>v=.slice none 0 0/\k=0/\es=[]
 |_=>False
def ZDM (σ:ZA):Nat->List (Nat×List (List AV))->List AV->List AV->Prop
 |_,[],[],[]=>True
 |j,news,x::xs,y::ys=>match y,news with
  | .own j' k,(sz,es)::news=>j'=j/\ZCE σ x sz k es/\ZDM σ (j+1) news xs ys
  |y,news=>x.le y/\y.pure/\ZDM σ j news xs ys
 |_,_,_,_=>False
def ZAY :List AV->List AV->List (Option Nat)
 |x::xs,.own _ _::ys=>ZHb x::ZAY xs ys
 |_::xs,_::ys=>ZAY xs ys
 |_,_=>[]
def lnd (t:Nat):List (Option Nat)->Prop
 | []=>True
 |none::r=>lnd t r
 |some l::r=>t<=l/\(∀o,o∈r->o≠some l)/\lnd t r
def unp :List AV->AV->List AV
 | [_],x=>[x]
 |_,.tup xs=>xs
 |_,_=>[.junk]
def ZLo (news:List (Nat×List (List AV))):ZA:=news.map fun p=>.elems p.1 p.2
def ZBo (ls:List (Option Nat))(i:Nat):Option Nat:=(ls[i]?).bind id
def Map.own (m:Map)(t:Nat)(ls:List (Option Nat))(news:List (Nat×List (List AV))):Map:=
 {m with f:=fun i=>if i<t then m.f i else if i<t+news.length then(match ZBo ls (i-t)with|some l=>(m.f l).cut ((news.getD (i-t) (0,[])).2.length)|none=>.nil)else .dead,n:=t+news.length}
theorem ZFT {t:Nat}:∀{ls:List (Option Nat)} {i l:Nat},lnd t ls->ls[i]? =some (some l)->t<=l
 |none::r,0,l,h,hi=>by simp at hi
 |none::r,i+1,l,h,hi=>ZFT (ls:=r) h (by simpa using hi)
 |some k::r,0,l,h,hi=>by simp at hi;subst hi;exact h.1
 |some k::r,i+1,l,h,hi=>ZFT (ls:=r) h.2.2 (by simpa using hi)
theorem ZHc {t:Nat}:∀{ls:List (Option Nat)} {i j l:Nat},lnd t ls->ls[i]? =some (some l)->ls[j]? =some (some l)->i=j
 | [],i,j,l,h,hi,hj=>by simp at hi
 |none::r,0,j,l,h,hi,hj=>by simp at hi
 |none::r,i+1,0,l,h,hi,hj=>by simp at hj
 |none::r,i+1,j+1,l,h,hi,hj=>congrArg (· +1) (ZHc (l:=l) (ls:=r) h (by simpa using hi) (by simpa using hj))
 |some k::r,0,0,l,h,hi,hj=>rfl
 |some k::r,0,j+1,l,h,hi,hj=>by
  simp at hi;subst hi
  exact absurd rfl (h.2.1 _ (zC (by simpa using hj)))
 |some k::r,i+1,0,l,h,hi,hj=>by
  simp at hj;subst hj
  exact absurd rfl (h.2.1 _ (zC (by simpa using hi)))
 |some k::r,i+1,j+1,l,h,hi,hj=>congrArg (· +1) (ZHc (l:=l) (ls:=r) h.2.2 (by simpa using hi) (by simpa using hj))
theorem ZCU {ls:List (Option Nat)}{i l:Nat}(h:ZBo ls i=some l):ls[i]? =some (some l):=by
 unfold ZBo at h
 cases e:ls[i]? with
 |none=>rw[e]at h;cases h
 |some o=>rw[e]at h;simp at h;rw[h]
theorem Map.own_src {m:Map}{t:Nat}{ls:List (Option Nat)}{news:List (Nat×List (List AV))}{i b:Nat}(h:((m.own t ls news).f i).has b):(i<t/\(m.f i).has b)∨∃l,t<=i/\ZBo ls (i-t)=some l/\(m.f l).has b:=by
 simp only[Map.own]at h
 split at h
 ·grind
 ·next hi=>
  split at h
  ·cases e:ZBo ls (i-t)with
   |none=>rw[e]at h;exact h.elim
   |some l=>rw[e]at h;exact .inr ⟨l,by omega,rfl,MS.cut_has.1 h⟩
  ·exact h.elim
theorem Map.own_wr {m:Map}{t:Nat}{ls:List (Option Nat)}{news:List (Nat×List (List AV))}{b:Nat}(h:Wr (m.own t ls news) b):Wr m b:=by
 obtain⟨i,hi⟩:=h
 rcases Map.own_src hi with⟨_,h⟩|⟨l,_,_,h⟩
 ·exact⟨i,h⟩
 ·exact⟨l,h⟩
theorem Map.own_av {m:Map}{t:Nat}{ls:List (Option Nat)}{news:List (Nat×List (List AV))}{b:Nat}(h:Av (m.own t ls news) b):Av m b:=h.elim (fun h=>.inl (Map.own_wr h)) .inr
def ZE0 :ZA->Prop
 | []=>True
 | .elems _ es::r=>Zg es/\ZE0 r
 | .cells cs::r=>AV.pure.pures cs/\ZE0 r
 |_::_=>False
theorem ZCz :∀{τ:ZA} {i:Nat} {b:Blk},ZE0 τ->τ[i]? =some b->(∃cs,b=.cells cs/\AV.pure.pures cs)∨∃sz es,b=.elems sz es/\Zg es
 | .elems sz es::r,0,b,h,hi=>by simp at hi;exact .inr ⟨sz,es,hi.symm,h.1⟩
 | .cells cs::r,0,b,h,hi=>by simp at hi;exact .inl ⟨cs,hi.symm,h.1⟩
 | .elems sz es::r,i+1,b,h,hi=>ZCz (τ:=r) h.2 (by simpa using hi)
 | .cells cs::r,i+1,b,h,hi=>ZCz (τ:=r) h.2 (by simpa using hi)
theorem ZF0 :∀{σ τ:ZA} {i:Nat} {c:Blk},ZEI σ τ->τ[i]? =some c->∃b,σ[i]? =some b/\b.le c
 |b::r,c::s,0,d,h,hi=>by simp at hi;subst hi;exact⟨b,rfl,h.1⟩
 |b::r,c::s,i+1,d,h,hi=>by simpa using ZF0 (σ:=r) (τ:=s) h.2 (by simpa using hi)
 |_,[],i,d,h,hi=>by simp at hi
 | [],_::_,i,d,h,hi=>h.elim
theorem ZCF :∀τ:ZA,ZEI τ τ
 | []=>trivial
 |b::r=>⟨by cases b<;>simp[Blk.le,AV.les_refl],ZCF r⟩
theorem ZAy :∀{xs:List AV} {k:Nat} {x:AV},AV.pure.pures xs->xs[k]? =some x->x.pure
 |y::r,0,x,h,hk=>by simp at hk;subst hk;exact h.1
 |y::r,k+1,x,h,hk=>ZAy h.2 (by simpa using hk)
theorem BlkSim.leP {m m2:Map}{w:World}{s:MS}{b c:Blk}(h:BlkSim B m w s (some b))(hle:b.le c)(hp:(∃cs,c=.cells cs/\AV.pure.pures cs)∨∃sz es,c=.elems sz es/\Zg es)(hA:∀x,Av m2 x->Av m x):BlkSim B m2 w s (some c):=by
 rcases hp with⟨cs,rfl,hp⟩|⟨sz,es,rfl,hp⟩
 ·cases b with
  |tcells ot ds=>
   obtain⟨rfl,hle⟩:ot=none/\AV.le.les ds cs:=hle
   obtain⟨b,ccs,ty,a1,a2,a3,a4⟩:=h
   have hl:=ZAt hle
   refine⟨b,ccs,ty,a1,a2,by omega,fun i x hi=> ?_⟩
   obtain⟨x0,hx0,hx1⟩:=ZAu hle hi
   obtain⟨y,hy,hc⟩:=a4 i x0 hx0
   exact⟨y,hy,(hc.le hx1).pure_to (ZAy hp hi) hA⟩
  |_=>exact hle.elim
 ·cases b with
  |telems oe' sz' es'=>
   obtain⟨rfl,rfl,rfl⟩:oe'=none/\sz'=sz/\es'=es:=hle
   obtain⟨h1,h2,h3⟩:=h
   refine⟨h1,h2,h3.imp id ?_⟩
   rintro⟨b,ccs,ty,a1,a2,a3,a4⟩
   refine⟨b,ccs,ty,a1,a2,a3,fun i e k x hi hk=> ?_⟩
   obtain⟨y,hy,hc⟩:=a4 i e k x hi hk
   exact⟨y,hy,hc.pure_to (ZAy (hp e (zC hi)) hk) hA⟩
  |_=>exact hle.elim
theorem ZFO {σ:ZA}:∀{j:Nat} {news:List (Nat×List (List AV))} {xs ys:List AV},ZDM σ j news xs ys->∀{i sz:Nat} {es:List (List AV)},news[i]? =some (sz,es)->
  ∃x,ZCE σ x sz es.length es/\ZBo (ZAY xs ys) i=ZHb x
 |j,[],xs,ys,h,i,sz,es,hi=>by simp at hi
 |j,p::news,[],[],h,i,sz,es,hi=>by simp[ZDM]at h
 |j,p::news,[],_::_,h,i,sz,es,hi=>by simp[ZDM]at h
 |j,p::news,_::_,[],h,i,sz,es,hi=>by simp[ZDM]at h
 |j,p::news,x::xs,y::ys,h,i,sz,es,hi=>by
  cases y with
  |own j' k=>
   simp only[ZDM]at h
   obtain⟨rfl,h2,h3⟩:=h
   cases i with
   |zero=>
    simp at hi;subst hi
    have hk:k=es.length:=by
     unfold ZCE at h2
     grind
    subst hk
    exact⟨x,h2,by simp[ZBo,ZAY]⟩
   |succ i=>
    obtain⟨x',q1,q2⟩:=ZFO (xs:=xs) (ys:=ys) h3 (i:=i) (by simpa using hi)
    exact⟨x',q1,by simpa[ZBo,ZAY]using q2⟩
  |_=>
   simp only[ZDM]at h
   obtain⟨x',q1,q2⟩:=ZFO (xs:=xs) (ys:=ys) h.2.2 hi
   exact⟨x',q1,by simpa[ZBo,ZAY]using q2⟩
theorem ZDW {σ:ZA}:∀{j:Nat} {news:List (Nat×List (List AV))} {xs ys:List AV},ZDM σ j news xs ys->xs.length=ys.length
 |j,news,[],[],h=>rfl
 |j,news,[],_::_,h=>by simp[ZDM]at h
 |j,news,_::_,[],h=>by simp[ZDM]at h
 |j,news,x::xs,y::ys,h=>by
  cases y with
  |own j' k=>
   cases news with
   |nil=>simp only[ZDM]at h;simp[ZDW (xs:=xs) (ys:=ys) h.2.2]
   |cons p news=>obtain⟨sz,es⟩:=p;simp only[ZDM]at h;simp[ZDW (xs:=xs) (ys:=ys) h.2.2]
  |_=>simp only[ZDM]at h;simp[ZDW (xs:=xs) (ys:=ys) h.2.2]
theorem ZI5 {m:Map}{σ:ZA}{w:World}(h:Sim B m σ w){m2:Map}(hA:∀x,Av m2 x->Av m x){x:AV}{sz:Nat}{es:List (List AV)}(hx:ZCE σ x sz es.length es)(hp:Zg es):
  BlkSim B m2 w (match ZHb x with|some l=>(m.f l).cut es.length|none=>.nil) (some (.elems sz es)):=by
 have key:∀l es0,σ[l]? =some (.elems sz es0)->es=es0.take es.length->BlkSim B m2 w ((m.f l).cut es.length) (some (.elems sz es)):=by
  intro l es0 hl he
  have hle:es.length<=es0.length:=by rw[he];simp;omega
  have hb:=h.blk l
  rw[hl]at hb
  obtain⟨h1,h2,h3⟩:=hb
  have hget:∀(i:Nat) (e:List AV),es[i]? =some e->es0[i]? =some e:=by grind
  refine⟨fun e he'=>h1 e (by rw[he]at he';exact zB he'),by omega,?_⟩
  rcases h3 with⟨q,rfl⟩|⟨b,ccs,ty,a1,a2,a3,a4⟩
  ·rw[q];exact .inl ⟨rfl,by rw[he];simp⟩
  ·rw[a1]
   refine .inr ⟨b,ccs,ty,rfl,a2,Nat.le_trans (Nat.mul_le_mul_right _ hle) a3,fun i e k x hi hk=> ?_⟩
   obtain⟨y,hy,hc⟩:=a4 i e k x (hget i e hi) hk
   exact⟨y,hy,hc.pure_to (ZAy (hp e (zC hi)) hk) hA⟩
 unfold ZCE at hx
 split at hx
 ·exact key _ es hx.2.2 (by simp)
 ·obtain⟨_,_,es0,g1,g2,g3,_⟩:=hx;exact key _ es0 g1 g3
 ·obtain⟨_,_,rfl⟩:=hx;exact⟨by simp,by simp,.inl ⟨rfl,rfl⟩⟩
 ·exact hx.elim
theorem ZMM {news:List (Nat×List (List AV))}{i:Nat}:(ZLo news)[i]? =(news[i]?).map fun p=>.elems p.1 p.2:=by simp[ZLo]
theorem ZHE {m:Map}{σ:ZA}{w:World}(h:Sim B m σ w){m2:Map}{W:Nat->Prop}{j sz:Nat}{es:List (List AV)}{x:AV}{u:Value}(hx:ZCE σ x sz es.length es)(hc:Conc B (Av m) w m x u)
  (hj:j<m2.n) (hf:m2.f j=(match ZHb x with|some l=>(m.f l).cut es.length|none=>.nil)):Conc B W w m2 (.own j es.length) u:=by
 unfold ZCE at hx
 split at hx
 ·next l n=>
  obtain⟨rfl,_,hl⟩:=hx
  have hb:=h.blk l
  rw[hl]at hb
  obtain⟨_,_,h3⟩:=hb
  simp only[ZHb]at hf
  generalize hn:es.length=n at hc hf h3 ⊢
  cases hc with
  |ownOther _ _ a cap hlt hh hcap=>
   exfalso
   rcases h3 with⟨q,rfl⟩|⟨b,ccs,ty,q,_⟩
   ·have:=hh 0 (by rw[q];rfl);omega
   ·have:=hh n (by rw[q];rfl);omega
  |ownNil _ a hlt hh=>exact .ownNil j a hj (by rw[hf,hh];rfl)
  |ownArr _ b sz' _ cap ccs ty hlt hh hh2 hcap hlen hz=>exact .ownArr j b sz' n cap ccs ty hj (by rw[hf,hh];rfl) hh2 hcap hlen hz
 ·next l n k=>
  obtain⟨rfl,hkn,es0,hl,hn,_,h0k⟩:=hx
  have hb:=h.blk l
  rw[hl]at hb
  obtain⟨_,_,h3⟩:=hb
  simp only[ZHb]at hf
  generalize hk:es.length=k at hc hf hkn ⊢
  cases hc with
  |preOther _ _ _ v hlt hh=>
   exfalso
   rcases h3 with⟨q,rfl⟩|⟨b,ccs,ty,q,_⟩
   ·grind
   ·have:=hh es0.length (by rw[q];rfl);omega
  |preNil _ a hlt hh=>exact .ownNil j a hj (by rw[hf,hh];rfl)
  |preArr _ b sz' _ _ cap ccs ty hlt hh hk' hh2 hcap hlen=>exact .ownArr j b sz' k cap ccs ty hj (by rw[hf,hh];rfl) hh2 hcap (by omega) (fun h=>by omega)
 ·obtain⟨rfl,_,rfl⟩:=hx
  rw[Conc.lit_inv hc]
  exact .ownNil j none hj hf
 ·exact hx.elim
theorem ZDm {m:Map}{σ:ZA}{w:World}(h:Sim B m σ w){m2:Map}(hA:∀x,Av m2 x->Av m x):∀{j:Nat} {news:List (Nat×List (List AV))} {xs ys:List AV},ZDM σ j news xs ys->
  (∀i sz es,news[i]? =some (sz,es)->j+i<m2.n/\m2.f (j+i)=(match ZBo (ZAY xs ys) i with|some l=>(m.f l).cut es.length|none=>.nil))->∀us:Nat->Value,(∀i x,xs[i]? =some x->Conc B (Av m) w m x (us i))->
  xs.length=ys.length/\∀i y,ys[i]? =some y->Conc B (Av m2) w m2 y (us i)
 |j,news,[],[],h1,hf,us,hc=>⟨rfl,fun i y hi=>by simp at hi⟩
 |j,news,[],_::_,h1,hf,us,hc=>by simp[ZDM]at h1
 |j,news,_::_,[],h1,hf,us,hc=>by simp[ZDM]at h1
 |j,news,x::xs,y::ys,h1,hf,us,hc=>by
  have gen:x.le y->y.pure->ZDM σ j news xs ys->(∀i,ZBo (ZAY (x::xs) (y::ys)) i=ZBo (ZAY xs ys) i)->(x::xs).length=(y::ys).length/\∀i y',(y::ys)[i]? =some y'->Conc B (Av m2) w m2 y' (us i):=by
   intro a1 a2 a3 a4
   obtain⟨b1,b2⟩:=ZDm h hA a3 (fun i sz es hi=>by have:=hf i sz es hi;rwa[a4]at this) (fun i=>us (i+1)) (fun i z hi=>hc (i+1) z (by simpa using hi))
   refine⟨by simp[b1],fun i z hi=> ?_⟩
   cases i with
   |zero=>simp at hi;subst hi;exact((hc 0 x (by simp)).le a1).pure_to a2 hA
   |succ i=>exact b2 i z (by simpa using hi)
  cases y with
  |own j' k=>
   cases news with
   |nil=>simp only[ZDM]at h1;exact(by simpa[AV.pure]using h1.2.1:False).elim
   |cons p news=>
    obtain⟨sz,es⟩:=p
    simp only[ZDM]at h1
    obtain⟨rfl,h2,h3⟩:=h1
    obtain⟨b1,b2⟩:=ZDm h hA h3 (fun i sz' es' hi=>by
     have:=hf (i+1) sz' es' (by simpa using hi)
     simpa[ZBo,ZAY,Nat.add_assoc,Nat.add_comm,Nat.add_left_comm]using this) (fun i=>us (i+1)) (fun i z hi=>hc (i+1) z (by simpa using hi))
    refine⟨by simp[b1],fun i z hi=> ?_⟩
    cases i with
    |zero=>
     simp at hi;subst hi
     obtain⟨q1,q2⟩:=hf 0 sz es (by simp)
     have hk:k=es.length:=by
      unfold ZCE at h2
      grind
     subst hk
     exact ZHE h h2 (hc 0 x (by simp)) q1 (by simpa[ZBo,ZAY]using q2)
    |succ i=>exact b2 i z (by simpa using hi)
  |_=>
   simp only[ZDM]at h1
   exact gen h1.1 h1.2.1 h1.2.2 (fun i=>rfl)
def ZDp :List (Nat×List (List AV))->Prop
 | []=>True
 |p::r=>Zg p.2/\ZDp r
theorem ZDo :∀{news:List (Nat×List (List AV))} {i sz:Nat} {es:List (List AV)},ZDp news->news[i]? =some (sz,es)->Zg es
 |p::r,0,sz,es,h,hi=>by simp at hi;subst hi;exact h.1
 |p::r,i+1,sz,es,h,hi=>ZDo (news:=r) h.2 (by simpa using hi)
theorem Sim.own {m:Map}{σ:ZA}{w:World}(h:Sim B m σ w){τ1:ZA}{news:List (Nat×List (List AV))}{xs ys:List AV}(hst:ZEI σ τ1)(hp1:ZE0 τ1)(hP:ZDM σ τ1.length news xs ys)(hl:lnd τ1.length (ZAY xs ys))(hn:ZDp news):
  Sim B (m.own τ1.length (ZAY xs ys) news) (τ1++ZLo news) w:=by
 have fnew:∀i sz es,news[i]? =some (sz,es)->(m.own τ1.length (ZAY xs ys) news).f (τ1.length+i)=(match ZBo (ZAY xs ys) i with|some l=>(m.f l).cut es.length|none=>.nil):=by
  intro i sz es hi
  have hil:i<news.length:=(zF.1 hi).1
  have hd:news.getD i (0,[])=(sz,es):=by rw[zE,hi];rfl
  simp only[Map.own]
  grind
 refine⟨by simp[Map.own,ZLo],fun i=> ?_,fun i i' b h1 h2=> ?_,fun b hb=>h.sep b (Map.own_wr hb),h.avlt,h.tb.sub fun b hb=>Map.own_wr hb⟩
 ·by_cases hi:i<τ1.length
  ·rw[List.getElem?_append_left hi,zA hi]
   obtain⟨b,hb,hle⟩:=ZF0 hst (zA hi)
   have hbs:=h.blk i
   rw[hb]at hbs
   have e:(m.own τ1.length (ZAY xs ys) news).f i=m.f i:=by simp[Map.own,hi]
   rw[e]
   exact BlkSim.leP hbs hle (ZCz hp1 (zA hi)) fun b hb=>Map.own_av hb
  ·obtain⟨k,rfl⟩:∃k,i=τ1.length+k:=⟨i-τ1.length,by omega⟩
   rw[List.getElem?_append_right (by omega),Nat.add_sub_cancel_left,ZMM]
   cases hk:news[k]? with
   |none=>
    have hk':news.length<=k:=List.getElem?_eq_none_iff.1 hk
    have e:(m.own τ1.length (ZAY xs ys) news).f (τ1.length+k)=.dead:=by simp only[Map.own];rw[iN (by omega),iN (by omega)]
    rw[e];rfl
   |some p=>
    obtain⟨sz,es⟩:=p
    obtain⟨x,q1,q2⟩:=ZFO hP hk
    rw[fnew k sz es hk,q2]
    exact ZI5 h (fun b hb=>Map.own_av hb) q1 (ZDo hn hk)
 ·rcases Map.own_src h1 with⟨a1,a2⟩|⟨l,a1,a2,a3⟩<;>rcases Map.own_src h2 with⟨b1,b2⟩|⟨l',b1,b2,b3⟩
  ·exact h.inj _ _ _ a2 b2
  ·have:=h.inj _ _ _ a2 b3
   have:=ZFT hl (ZCU b2)
   omega
  ·have:=h.inj _ _ _ b2 a3
   have:=ZFT hl (ZCU a2)
   omega
  ·have e:=h.inj _ _ _ a3 b3
   subst e
   have:=ZHc hl (ZCU a2) (ZCU b2)
   omega
def ZJ7 (σ:ZA):List AV->List AV->(List AV->ZA->Prop)->Prop
 | [],xs,K=>K xs σ
 |_::_,[],K=>K [] σ
 |y::ys,x::xs,K=>match y with
  | .own _ _=>ZJ7 σ ys xs fun xs' σ'=>K (x::xs') σ'
  |_=>ZHl σ x fun x' σ'=>ZJ7 σ' ys xs fun xs' σ''=>K (x'::xs') σ''
theorem ZJk {σ:ZA}{xs:List AV}{K:List AV->ZA->Prop}{k:Box K}:ZJ7 σ [] xs (hold K k)=K xs σ:=rfl
theorem ZHw {σ:ZA}{x y:AV}{xs ys:List AV}{K:List AV->ZA->Prop}{k:Box K}:ZJ7 σ (y::ys) (x::xs) (hold K k)=(match y with
  | .own _ _=>ZJ7 σ ys xs (hold (fun xs' σ'=>K (x::xs') σ') .mk)
  |_=>ZHl σ x (hold (fun x' σ'=>ZJ7 σ' ys xs (hold (fun xs' σ''=>K (x'::xs') σ'') .mk)) .mk)):=by cases y<;>rfl
theorem ZOp {σ:ZA}{x:AV}{K:AV->ZA->Prop}(h:ZHl σ x K):∃x' σ',K x' σ':=by
 unfold ZHl at h
 split at h
 ·obtain⟨r,s,h,_⟩:=ZEe _ σ _ h;exact⟨_,_,h⟩
 ·grind
 ·exact⟨_,_,h⟩
theorem ZFa :∀{ys xs:List AV} {σ:ZA} {K:List AV->ZA->Prop},ZJ7 σ ys xs K->∃xs' σ',K xs' σ'/\xs'.length=xs.length
 | [],xs,σ,K,h=>⟨xs,σ,h,rfl⟩
 |y::ys,[],σ,K,h=>⟨[],σ,h,rfl⟩
 |y::ys,x::xs,σ,K,h=>by
  have gen:ZHl σ x (fun x' σ'=>ZJ7 σ' ys xs fun xs' σ''=>K (x'::xs') σ'')->∃xs' σ',K xs' σ'/\xs'.length=(x::xs).length:=by
   intro h
   obtain⟨x',σ',h⟩:=ZOp h
   obtain⟨xs',σ2,h1,h2⟩:=ZFa h
   grind
  cases y with
  |own l n=>
   obtain⟨xs',σ2,h1,h2⟩:=ZFa (ys:=ys) (xs:=xs) h
   grind
  |_=>exact gen h
theorem ZCu {w:World}:∀{ys xs:List AV} {σ:ZA} {m:Map} {K:List AV->ZA->Prop},Sim B m σ w->ZJ7 σ ys xs K->∀us:Nat->Value,(∀i x,xs[i]? =some x->Conc B (Av m) w m x (us i))->
  ∃xs' σ' m',K xs' σ'/\Sim B m' σ' w/\Fr m w m' w/\∀i x,xs'[i]? =some x->Conc B (Av m') w m' x (us i)
 | [],xs,σ,m,K,h,hk,us,hc=>⟨xs,σ,m,hk,h,Fr.refl m w,hc⟩
 |y::ys,[],σ,m,K,h,hk,us,hc=>⟨[],σ,m,hk,h,Fr.refl m w,hc⟩
 |y::ys,x::xs,σ,m,K,h,hk,us,hc=>by
  have gen:ZHl σ x (fun x' σ'=>ZJ7 σ' ys xs fun xs' σ''=>K (x'::xs') σ'')->∃xs' σ' m',K xs' σ'/\Sim B m' σ' w/\Fr m w m' w/\∀i x,xs'[i]? =some x->Conc B (Av m') w m' x (us i):=by
   intro hk
   obtain⟨x',σ1,m1,hk1,hs1,hf1,hc1⟩:=ZCw h hk (hc 0 x (by simp))
   obtain⟨xs',σ2,m2,hk2,hs2,hf2,hc2⟩:=ZCu hs1 hk1 (fun i=>us (i+1)) (fun i z hi=>(hc (i+1) z (by simpa using hi)).mono hf1)
   refine⟨x'::xs',σ2,m2,hk2,hs2,hf1.trans hf2 h.mapOk,fun i z hi=> ?_⟩
   cases i with
   |zero=>simp at hi;subst hi;exact hc1.mono hf2
   |succ i=>exact hc2 i z (by simpa using hi)
  cases y with
  |own l n=>
   obtain⟨xs',σ2,m2,hk2,hs2,hf2,hc2⟩:=ZCu (ys:=ys) (xs:=xs) h hk (fun i=>us (i+1)) (fun i z hi=>hc (i+1) z (by simpa using hi))
   refine⟨x::xs',σ2,m2,hk2,hs2,hf2,fun i z hi=> ?_⟩
   cases i with
   |zero=>simp at hi;subst hi;exact(hc 0 _ (by simp)).mono hf2
   |succ i=>exact hc2 i z (by simpa using hi)
  |_=>exact gen hk
theorem BCall.enterS {f:FuncId}{fn:Func}{c:Code}{τ τ1:ZA}{args ys:List AV}{news:List (Nat×List (List AV))}{n:Nat}{st0:ASt}(hf:P.funcs[f]? =some fn)(hn:(fn.name== "runtime.NumGoroutine")=false)(hb:fn.body=some c)
  (hN:fn.ntmps=N) (hargs:args.length<=N) (hτ:τ.length=n) (hτ1:τ1.length=n) (h1:Zn τ.length τ) (h2:AV.closed.closeds τ.length args) (h3:(pack ys).closed (τ1++ZLo news).length) (h4:Zn (τ1++ZLo news).length (τ1++ZLo news))
  (hp1:ZE0 τ1) (hp2:ZDp news) (hg:Gh B n N ⟨ZCX 0 args,τ⟩ st0) (h:awp P B n N c st0 (hold (ZLk P fn (hold (fun r' σ'=>ZJ7 σ' ys (unp ys r') (hold (fun xs' σ'=>ZEI σ' τ1/\ZDM σ' n news xs' ys/\lnd n (ZAY xs' ys)) .mk)) .mk)) .mk)):BCall P B f τ args (pack ys) (τ1++ZLo news):=by
 refine⟨⟨fn,hf,hn,by rw[hb];rfl⟩,h1,h2,h3,h4,by simp;omega,fun m w vs hs hv=>calls_of_wp hf hb ?_⟩
 subst hN hτ
 have hsim0:ASim B τ.length fn.ntmps m w ⟨ZCX 0 args,τ⟩ m ⟨vs++Array.replicate (fn.ntmps-vs.size) undef,[]⟩ w:=
  ⟨hs,ZBG hv hargs,rfl,Fr.refl m w,hs.n,hs.mapOk⟩
 obtain⟨m1,hsim1⟩:=hg _ _ _ _ _ hsim0
 refine wp_mono (Zo c _ _ h m w m1 _ w hsim1) ?_
 rintro e a' w' ⟨st',m',hq,hs'⟩
 have fin:∀(hq:ZEH P st'.σ st'.fr fn.results.toList fun xs=>ZJ7 st'.σ ys (unp ys (pack xs)) fun xs' σ'=>ZEI σ' τ1/\ZDM σ' τ.length news xs' ys/\lnd τ.length (ZAY xs' ys)),
   a'.defers=[]/\∃v,(results fn a'.tmps).run P w'=.ok v w'/\∃u m'' σ',Ending.returned v=.returned u/\ZEI σ' (τ1++ZLo news)/\Sim B m'' σ' w'/\Conc B (Av m'') w' m'' (pack ys) u/\Fr m w m'' w':=by
  intro hq
  obtain⟨xs,u,hY,hrun,hc⟩:=Zs hs' hq
  obtain⟨us,husc,husb⟩:∃us:Nat->Value,(∀i x',(unp ys (pack xs))[i]? =some x'->Conc B (Av m') w' m' x' (us i))/\((ys.length≠1/\(unp ys (pack xs)).length=1)∨∀W m2,(∀i y,ys[i]? =some y->Conc B W w' m2 y (us i))->((unp ys (pack xs)).length=ys.length)->Conc B W w' m2 (pack ys) u):=by
   generalize pack xs=x at hc
   match ys with
   | [y]=>
    refine⟨fun _=>u,fun i x' hi=> ?_,.inr fun W m2 hzc _=>hzc 0 y (by simp)⟩
    cases i with
    |zero=>simp[unp]at hi;subst hi;exact hc
    |succ i=>simp[unp]at hi
   | []=>
    cases x with
    |tup cs=>cases hc with|tup _ us hlen hcc=>exact⟨fun i=>us.getD i undef,hcc,.inr fun W m2 hzc hl=>.tup [] us (hlen.trans hl) hzc⟩
    |_=>exact⟨fun _=>undef,fun i x' hi=>by cases i with
      |zero=>simp[unp]at hi;subst hi;exact .junk _
      |succ i=>simp[unp]at hi,.inl ⟨by simp,by simp[unp]⟩⟩
   |a::b::r=>
    cases x with
    |tup cs=>cases hc with|tup _ us hlen hcc=>exact⟨fun i=>us.getD i undef,hcc,.inr fun W m2 hzc hl=>.tup (a::b::r) us (hlen.trans hl) hzc⟩
    |_=>exact⟨fun _=>undef,fun i x' hi=>by cases i with
      |zero=>simp[unp]at hi;subst hi;exact .junk _
      |succ i=>simp[unp]at hi,.inl ⟨by simp,by simp[unp]⟩⟩
  obtain⟨xs',σ1,m1,⟨k1,k2,k3⟩,hs1,hf1,hc1⟩:=ZCu hs'.sim hY us husc
  rw[←hτ1]at k2 k3
  have hS:=hs1.own k1 hp1 k2 k3 hp2
  have hfr:=hs'.step.trans hf1 hs.mapOk
  have fnew:∀i sz es,news[i]? =some (sz,es)->τ1.length+i<(m1.own τ1.length (ZAY xs' ys) news).n/\(m1.own τ1.length (ZAY xs' ys) news).f (τ1.length+i)=(match ZBo (ZAY xs' ys) i with|some l=>(m1.f l).cut es.length|none=>.nil):=by
   intro i sz es hi
   have hil:i<news.length:=(zF.1 hi).1
   have hd:news.getD i (0,[])=(sz,es):=by rw[zE,hi];rfl
   refine⟨by simp[Map.own];omega,?_⟩
   simp only[Map.own]
   grind
  refine⟨hs'.df,u,hrun,u,_,_,rfl,ZCF _,hS,?_,⟨hfr.size,hfr.keep,fun b ccs ty h1 h2 h3=>hfr.phys b ccs ty h1 (Map.own_wr h2) h3,fun b hb=>hfr.fresh b (Map.own_wr hb),fun l hl=> ?_,?_,hfr.av,hfr.tape,hfr.os,hfr.output⟩⟩
  ·obtain⟨b1,b2⟩:=ZDm hs1 (fun b hb=>Map.own_av hb) k2 fnew us hc1
   obtain⟨xs2,σ2,⟨_,g2,_⟩,g4⟩:=ZFa hY
   have g5:=ZDW g2
   grind
  ·have hl':l<τ1.length:=by rw[hτ1,←hs.n];exact hl
   have e:(m1.own τ1.length (ZAY xs' ys) news).f l=m1.f l:=by simp[Map.own,hl']
   rw[e];exact hfr.ids l hl
  ·have:=hs.n
   simp[Map.own];omega
 cases e with
 |normal=>exact fin hq
 |ret=>exact fin hq
 |_=>exact hq.elim
theorem ZCP (l:List Nat){n:Nat}(hn:n<=l.length)(hd:l.Nodup)(i j:Nat)(hi:i<n)(hj:j<n)(e:pl l i=pl l j):i=j:=
 Zy l rfl hd i j (by omega) (by omega) e
attribute [simp] ZJk ZHw ZCE ZDM ZAY lnd unp ZLo ZDp ZE0 ZHb
end Go.Vl
namespace Go.Vl
open Go Go.RowKit
variable {P : Program} {B nb N : Nat}
theorem Conc.closedN {W:Nat->Prop}{w:World}{m:Map}{x:AV}{v:Value}(h:Conc B W w m x v):x.closed m.n:=by
 have all:∀(cs:List AV),(∀(i:Nat) (x:AV),cs[i]? =some x->x.closed m.n)->AV.closed.closeds m.n cs:=by
  intro cs
  induction cs with
  |nil=>intro _;exact trivial
  |cons c r ih=>intro hc;exact⟨hc 0 c rfl,ih fun i x hi=>hc (i+1) x (by simpa using hi)⟩
 induction h with
 |agg cs us hlen hx ih=>exact all cs fun i x hi=>ih i x hi all
 |tup cs us hlen hx ih=>exact all cs fun i x hi=>ih i x hi all
 |fn f xs ys us vs g1 g2 hx hy ihx ihy=>exact⟨all xs fun i x hi=>ihx i x hi all,all ys fun i x hi=>ihy i x hi all⟩
 |_=>first|exact trivial|assumption
def swp (l l2 i:Nat):Nat:=if i=l then l2 else if i=l2 then l else i
def rnF (π:Nat->Nat):Frm->Frm
 | []=>[]
 |(k,x)::r=>(k,x.ren π)::rnF π r
theorem ZNg {π:Nat->Nat}:∀{fr:Frm} {i:Nat},lk (rnF π fr) i=(lk fr i).ren π
 | [],i=>rfl
 |(k,x)::r,i=>by
  simp only[rnF,lk]
  split
  ·rfl
  ·exact ZNg
def swS (l l2:Nat)(σ:ZA):ZA:=((σ.set l (σ.getD l2 .dead)).set l2 (σ.getD l .dead)).map (Blk.ren (swp l l2))
theorem ZNr {l l2:Nat}{σ:ZA}:(swS l l2 σ).length=σ.length:=by simp[swS]
theorem ZNs {l l2:Nat}{σ:ZA}(h:l<σ.length)(h2:l2<σ.length)(i:Nat):(swS l l2 σ)[i]? =(σ[swp l l2 i]?).map (Blk.ren (swp l l2)):=by
 simp only[swS,List.getElem?_map,zE]
 congr 1
 by_cases e2:i=l2
 ·subst e2
  rw[zG (by simpa using h2)]
  have:swp l i i=l:=by simp only[swp];split<;>simp_all
  rw[this,zA h];rfl
 ·rw[zH (Ne.symm e2)]
  by_cases e1:i=l
  ·subst e1
   rw[zG h]
   have:swp i l2 i=l2:=by simp[swp]
   rw[this,zA h2];rfl
  ·rw[zH (Ne.symm e1)]
   have:swp l l2 i=i:=by simp[swp,e1,e2]
   rw[this]
theorem ZHF (l l2 i:Nat):swp l l2 (swp l l2 i)=i:=by
 simp only[swp]
 by_cases e1:i=l
 ·subst e1;simp only[if_true];by_cases e:l2=i<;>simp[e]
 ·by_cases e2:i=l2
  ·subst e2;simp[e1]
  ·simp[e1,e2]
theorem Gh.swap {fr:Frm}{σ:ZA}(l l2:Nat)(h1:nb<=l)(h2:nb<=l2)(h3:l<σ.length)(h4:l2<σ.length)(hp:ZBp σ):Gh B nb N ⟨fr,σ⟩ ⟨rnF (swp l l2) fr,swS l l2 σ⟩:=by
 intro m0 w0 m a w h
 have hn:m.n=σ.length:=h.sim.n
 have hlt:∀i,i<m.n->swp l l2 i<m.n:=fun i hi=>by simp only[swp];split<;>(try split)<;>omega
 let m':Map:=⟨fun i=>m.f (swp l l2 i),m.n,m.av⟩
 have hf:∀i,i<m.n->m'.f (swp l l2 i)=m.f i:=fun i _=>by show m.f _=_;rw[ZHF]
 have hwr:∀b,Wr m' b->Wr m b:=fun b ⟨i,hi⟩=>⟨_,hi⟩
 have hav:∀b,Av m' b->Av m b:=fun b hb=>hb.imp (hwr b) id
 have conv:∀{x:AV} {u:Value},Conc B (Av m) w m x u->Conc B (Av m') w m' (x.ren (swp l l2)) u:=fun hc=>Conc.ren_of (m2:=m') (n:=m.n) (Av m') hav hlt hf hc hc.closedN
 refine⟨m',⟨by rw[ZNr];exact hn,fun i=> ?_,fun i i' b a1 a2=> ?_,fun b hb=>h.sim.sep b (hwr b hb),h.sim.avlt,h.sim.tb.sub hwr⟩,⟨h.fr.1,fun i=>by rw[ZNg];exact conv (h.fr.2 i)⟩,h.df,⟨h.step.size,h.step.keep,fun b ccs ty h1 h2 h3=>h.step.phys b ccs ty h1 (hwr b h2) h3,fun b hb=>h.step.fresh b (hwr b hb),fun i hi=> ?_,h.step.n,h.step.av,h.step.tape,h.step.os,h.step.output⟩,h.base,h.ok⟩
 ·show BlkSim B m' w (m.f (swp l l2 i)) (swS l l2 σ)[i]?
  rw[ZNs h3 h4]
  have hb:=h.sim.blk (swp l l2 i)
  generalize hj:swp l l2 i=j at hb
  cases hσ:σ[j]? with
  |none=>rw[hσ]at hb;exact hb
  |some c=>
   rw[hσ]at hb
   cases c with
   |dead=>exact hb
   |pack xs vs=>exact hb
   |tcells ot cs=>
    obtain⟨b,ccs,ty,g1,g2,g3,g4⟩:=hb
    refine⟨b,ccs,ty,g1,g2,by rw[g3,Zw],fun k x hk=> ?_⟩
    rw[Zx]at hk
    obtain⟨y,hy,rfl⟩:=Option.map_eq_some_iff.1 hk
    obtain⟨v,hv,hc⟩:=g4 k y hy
    exact⟨v,hv,conv hc⟩
   |telems oe sz es=>
    have hpe:=ZAi hp hσ
    obtain⟨g0,g0',hb⟩:=hb
    refine⟨g0,g0',hb.imp id ?_⟩
    rintro⟨b,ccs,ty,g1,g2,g3,g4⟩
    refine⟨b,ccs,ty,g1,g2,g3,fun i e k x hi hk=> ?_⟩
    obtain⟨y,hy,hc⟩:=g4 i e k x hi hk
    exact⟨y,hy,hc.pure_to (ZAy (hpe e (zC hi)) hk) hav⟩
 ·have:=h.sim.inj _ _ b a1 a2
  rw[←ZHF l l2 i,this,ZHF]
 ·have hb:=h.base
  have e:swp l l2 i=i:=by simp only[swp];rw[iN (by omega),iN (by omega)]
  show(m0.f i).le (m.f (swp l l2 i))
  rw[e]
  exact h.step.ids i hi
theorem ECallA.nilCell {f:FuncId}{args:List AV}{σ:ZA}{K:AV->ZA->Prop}{b:Box K}(l j sz:Nat){cs:List AV}(hl:σ[l]? =some (.cells cs))(hj:cs[j]? =some (.lit (.slice none 0 0)))
  (h:ECallA P B f args ((σ.set l (.cells (cs.set j (.own σ.length 0))))++[.elems sz []]) (hold K .mk)):ECallA P B f args σ (hold K b):=by
 obtain⟨r,σ',h1,h2⟩:=h
 exact⟨r,σ',fun K' hK'=>ACall.nilCell (b:=(.mk:Box K')) l j sz hl hj (h1 K' hK'),h2⟩
theorem ECallA.nilCellT {f:FuncId}{args:List AV}{σ:ZA}{K:AV->ZA->Prop}{b:Box K}(T E l j sz:Nat){cs:List AV}(hl:σ[l]? =some (.tcells (some T) cs))(hj:cs[j]? =some (.lit (.slice none 0 0)))
  (h:ECallA P B f args ((σ.set l (.tcells (some T) (cs.set j (.own σ.length 0))))++[.telems (some E) sz []]) (hold K .mk)):ECallA P B f args σ (hold K b):=by
 obtain⟨r,σ',h1,h2⟩:=h
 exact⟨r,σ',fun K' hK'=>ACall.nilCellT (b:=(.mk:Box K')) T E l j sz hl hj (h1 K' hK'),h2⟩
def GhK (B nb N:Nat)(K:ASt->Prop)(st:ASt):Prop:=∃st',Gh B nb N st st'/\K st'
theorem ADraw.post {ops:Array Oper}{bo:Box ops}{st:ASt}{K:ASt->Prop}{b:Box K}(h:ADraw P B nb N (hold ops .mk) st (hold (GhK B nb N (hold K .mk)) .mk)):ADraw P B nb N (hold ops bo) st (hold K b):=
 ⟨h.1,fun m0 w0 m a w hs Q hn=>h.2 m0 w0 m a w hs Q fun st' m' a' w' ⟨st2,hg,hk⟩ hs'=>by
  obtain⟨m2,hs2⟩:=hg _ _ _ _ _ hs'
  exact hn _ _ _ _ hk hs2⟩
theorem GhK.go {st st':ASt}{K:ASt->Prop}{b:Box K}(hg:Gh B nb N st st')(h:K st'):GhK B nb N (hold K b) st:=⟨st',hg,h⟩
@[simp] theorem ZKx {n k:Nat}{l:List (List AV)}(h:ZFV n l):ZFV n (l.take k):=fun e he=>h e (zB he)
@[simp] theorem ZKy {n k:Nat}{l:List (List AV)}(h:ZFV n l):ZFV n (l.drop k):=fun e he=>h e (zD he)
@[simp] theorem ZHQ {k:Nat}{l:List (List AV)}(h:Zg l):Zg (l.take k):=fun e he=>h e (zB he)
@[simp] theorem ZHR {k:Nat}{l:List (List AV)}(h:Zg l):Zg (l.drop k):=fun e he=>h e (zD he)
@[simp] theorem ZFf {n k:Nat}{l:List (List AV)}(h:Zc n l):Zc n (l.take k):=fun e he=>h e (zB he)
@[simp] theorem ZFg {n k:Nat}{l:List (List AV)}(h:Zc n l):Zc n (l.drop k):=fun e he=>h e (zD he)
@[simp] theorem ZJR {σ:ZA}{k:Nat}{l:List (List AV)}(h:ZBN σ l):ZBN σ (l.take k):=fun e he=>h e (zB he)
@[simp] theorem ZJS {σ:ZA}{k:Nat}{l:List (List AV)}(h:ZBN σ l):ZBN σ (l.drop k):=fun e he=>h e (zD he)
@[simp] theorem ZRk {n k j:Nat}{l:List (List AV)}(h:ZFV n l):ZFV n ((l.drop j).take k):=ZKx (ZKy h)
@[simp] theorem ZPq {k j:Nat}{l:List (List AV)}(h:Zg l):Zg ((l.drop j).take k):=ZHQ (ZHR h)
@[simp] theorem ZPB {n k j:Nat}{l:List (List AV)}(h:Zc n l):Zc n ((l.drop j).take k):=ZFf (ZFg h)
@[simp] theorem ZRE {σ:ZA}{k j:Nat}{l:List (List AV)}(h:ZBN σ l):ZBN σ ((l.drop j).take k):=ZJR (ZJS h)
attribute [simp] rnF swp swS
end Go.Vl
