import Derived.Test.YtodkbabdaoeooaaGreatDoorVlBor
set_option linter.all false
open List renaming getElem?_eq_some_iff->zA,getElem?_set_ne->zB,getElem?_set_self->zC,mem_of_mem_take->zD,mem_of_getElem?->zE,mem_of_mem_drop->zF,getElem?_eq_getElem->zG,getD_eq_getElem?_getD->zH
open Option.some renaming inj->zI
namespace Go.Vl
open Go
variable {P : Program} {B nb N : Nat}
def MS.cut (k:Nat):MS->MS
 | .arr b sz _=>.arr b sz k
 |s=>s
theorem MS.cut_has {k:Nat}{s:MS}{b:Nat}:(s.cut k).has b↔s.has b:=by cases s<;>rfl
def ZHK :AV->Option Nat
 | .own l _=>some l
 | .pre l _ _=>some l
 |_=>none
def ZCJ (σ:ZE)(x:AV)(sz k:Nat)(es:List (List AV)):Prop:=
 match x with
 | .own l n=>n=k/\es.length=k/\σ[l]? =some (.elems sz es)
 | .pre l n j=>j=k/\k<=n/\∃es0,σ[l]? =some (.elems sz es0)/\es0.length=n/\es=es0.take k/\(0<k∨sz≠1)
 | .lit v=>v=.slice none 0 0/\k=0/\es=[]
 |_=>False
def ZDO (σ:ZE):Nat->List (Nat×List (List AV))->List AV->List AV->Prop
 |_,[],[],[]=>True
 |j,news,x::xs,y::ys=>match y,news with
  | .own j' k,(sz,es)::news=>j'=j/\ZCJ σ x sz k es/\ZDO σ (j+1) news xs ys
  |y,news=>x.le y/\y.pure/\ZDO σ j news xs ys
 |_,_,_,_=>False
def ZAe :List AV->List AV->List (Option Nat)
 |x::xs,.own _ _::ys=>ZHK x::ZAe xs ys
 |_::xs,_::ys=>ZAe xs ys
 |_,_=>[]
def lnd (t:Nat):List (Option Nat)->Prop
 | []=>True
 |none::r=>lnd t r
 |some l::r=>t<=l/\(∀o,o∈r->o≠some l)/\lnd t r
def unp :List AV->AV->List AV
 | [_],x=>[x]
 |_,.tup xs=>xs
 |_,_=>[.junk]
def ZLc (news:List (Nat×List (List AV))):ZE:=news.map fun p=>.elems p.1 p.2
def ZBm (ls:List (Option Nat))(i:Nat):Option Nat:=(ls[i]?).bind id
def Map.own (m:Map)(t:Nat)(ls:List (Option Nat))(news:List (Nat×List (List AV))):Map:=
 {m with f:=fun i=>if i<t then m.f i else if i<t+news.length then(match ZBm ls (i-t)with|some l=>(m.f l).cut ((news.getD (i-t) (0,[])).2.length)|none=>.nil)else .dead,n:=t+news.length}
theorem ZFL {t:Nat}:∀{ls:List (Option Nat)} {i l:Nat},lnd t ls->ls[i]? =some (some l)->t<=l
 |none::r,0,l,h,hi=>by simp at hi
 |none::r,i+1,l,h,hi=>ZFL (ls:=r) h (by simpa using hi)
 |some k::r,0,l,h,hi=>by simp at hi;subst hi;exact h.1
 |some k::r,i+1,l,h,hi=>ZFL (ls:=r) h.2.2 (by simpa using hi)
theorem ZHL {t:Nat}:∀{ls:List (Option Nat)} {i j l:Nat},lnd t ls->ls[i]? =some (some l)->ls[j]? =some (some l)->i=j
 | [],i,j,l,h,hi,hj=>by simp at hi
 |none::r,0,j,l,h,hi,hj=>by simp at hi
 |none::r,i+1,0,l,h,hi,hj=>by simp at hj
 |none::r,i+1,j+1,l,h,hi,hj=>congrArg (· +1) (ZHL (l:=l) (ls:=r) h (by simpa using hi) (by simpa using hj))
 |some k::r,0,0,l,h,hi,hj=>rfl
 |some k::r,0,j+1,l,h,hi,hj=>by
  simp at hi;subst hi
  exact absurd rfl (h.2.1 _ (zE (by simpa using hj)))
 |some k::r,i+1,0,l,h,hi,hj=>by
  simp at hj;subst hj
  exact absurd rfl (h.2.1 _ (zE (by simpa using hi)))
 |some k::r,i+1,j+1,l,h,hi,hj=>congrArg (· +1) (ZHL (l:=l) (ls:=r) h.2.2 (by simpa using hi) (by simpa using hj))
theorem ZCX {ls:List (Option Nat)}{i l:Nat}(h:ZBm ls i=some l):ls[i]? =some (some l):=by
 unfold ZBm at h
 cases e:ls[i]? with
 |none=>rw[e]at h;cases h
 |some o=>rw[e]at h;simp at h;rw[h]
theorem Map.own_src {m:Map}{t:Nat}{ls:List (Option Nat)}{news:List (Nat×List (List AV))}{i b:Nat}(h:((m.own t ls news).f i).has b):(i<t/\(m.f i).has b)∨∃l,t<=i/\ZBm ls (i-t)=some l/\(m.f l).has b:=by
 simp only[Map.own]at h
 split at h
 ·grind
 ·next hi=>
  split at h
  ·cases e:ZBm ls (i-t)with
   |none=>rw[e]at h;exact h.elim
   |some l=>rw[e]at h;exact .inr ⟨l,by omega,rfl,MS.cut_has.1 h⟩
  ·exact h.elim
theorem Map.own_wr {m:Map}{t:Nat}{ls:List (Option Nat)}{news:List (Nat×List (List AV))}{b:Nat}(h:Wr (m.own t ls news) b):Wr m b:=by
 obtain⟨i,hi⟩:=h
 rcases Map.own_src hi with⟨_,h⟩|⟨l,_,_,h⟩
 ·exact⟨i,h⟩
 ·exact⟨l,h⟩
theorem Map.own_av {m:Map}{t:Nat}{ls:List (Option Nat)}{news:List (Nat×List (List AV))}{b:Nat}(h:Av (m.own t ls news) b):Av m b:=h.elim (fun h=>.inl (Map.own_wr h)) .inr
def ZEr :ZE->Prop
 | []=>True
 | .elems _ es::r=>Zc es/\ZEr r
 | .cells cs::r=>AV.pure.pures cs/\ZEr r
 |_::_=>False
theorem ZC2 :∀{τ:ZE} {i:Nat} {b:Blk},ZEr τ->τ[i]? =some b->(∃cs,b=.cells cs/\AV.pure.pures cs)∨∃sz es,b=.elems sz es/\Zc es
 | .elems sz es::r,0,b,h,hi=>by simp at hi;exact .inr ⟨sz,es,hi.symm,h.1⟩
 | .cells cs::r,0,b,h,hi=>by simp at hi;exact .inl ⟨cs,hi.symm,h.1⟩
 | .elems sz es::r,i+1,b,h,hi=>ZC2 (τ:=r) h.2 (by simpa using hi)
 | .cells cs::r,i+1,b,h,hi=>ZC2 (τ:=r) h.2 (by simpa using hi)
theorem ZFl :∀{σ τ:ZE} {i:Nat} {c:Blk},ZDb σ τ->τ[i]? =some c->∃b,σ[i]? =some b/\b.le c
 |b::r,c::s,0,d,h,hi=>by simp at hi;subst hi;exact⟨b,rfl,h.1⟩
 |b::r,c::s,i+1,d,h,hi=>by simpa using ZFl (σ:=r) (τ:=s) h.2 (by simpa using hi)
 |_,[],i,d,h,hi=>by simp at hi
 | [],_::_,i,d,h,hi=>h.elim
theorem ZFk :∀τ:ZE,ZDb τ τ
 | []=>trivial
 |b::r=>⟨by cases b<;>simp[Blk.le,AV.les_refl],ZFk r⟩
theorem ZBg :∀{xs:List AV} {k:Nat} {x:AV},AV.pure.pures xs->xs[k]? =some x->x.pure
 |y::r,0,x,h,hk=>by simp at hk;subst hk;exact h.1
 |y::r,k+1,x,h,hk=>ZBg h.2 (by simpa using hk)
theorem BlkSim.leP {m m2:Map}{w:World}{s:MS}{b c:Blk}(h:BlkSim B m w s (some b))(hle:b.le c)(hp:(∃cs,c=.cells cs/\AV.pure.pures cs)∨∃sz es,c=.elems sz es/\Zc es)(hA:∀x,Av m2 x->Av m x):BlkSim B m2 w s (some c):=by
 rcases hp with⟨cs,rfl,hp⟩|⟨sz,es,rfl,hp⟩
 ·cases b with
  |tcells ot ds=>
   obtain⟨rfl,hle⟩:ot=none/\AV.le.les ds cs:=hle
   obtain⟨b,ccs,ty,a1,a2,a3,a4⟩:=h
   have hl:=ZAz hle
   refine⟨b,ccs,ty,a1,a2,by omega,fun i x hi=> ?_⟩
   obtain⟨x0,hx0,hx1⟩:=ZA0 hle hi
   obtain⟨y,hy,hc⟩:=a4 i x0 hx0
   exact⟨y,hy,(hc.le hx1).pure_to (ZBg hp hi) hA⟩
  |_=>exact hle.elim
 ·cases b with
  |telems oe' sz' es'=>
   obtain⟨rfl,rfl,rfl⟩:oe'=none/\sz'=sz/\es'=es:=hle
   obtain⟨h1,h2,h3⟩:=h
   refine⟨h1,h2,h3.imp id ?_⟩
   rintro⟨b,ccs,ty,a1,a2,a3,a4⟩
   refine⟨b,ccs,ty,a1,a2,a3,fun i e k x hi hk=> ?_⟩
   obtain⟨y,hy,hc⟩:=a4 i e k x hi hk
   exact⟨y,hy,hc.pure_to (ZBg (hp e (zE hi)) hk) hA⟩
  |_=>exact hle.elim
theorem ZFH {σ:ZE}:∀{j:Nat} {news:List (Nat×List (List AV))} {xs ys:List AV},ZDO σ j news xs ys->∀{i sz:Nat} {es:List (List AV)},news[i]? =some (sz,es)->
  ∃x,ZCJ σ x sz es.length es/\ZBm (ZAe xs ys) i=ZHK x
 |j,[],xs,ys,h,i,sz,es,hi=>by simp at hi
 |j,p::news,[],[],h,i,sz,es,hi=>by simp[ZDO]at h
 |j,p::news,[],_::_,h,i,sz,es,hi=>by simp[ZDO]at h
 |j,p::news,_::_,[],h,i,sz,es,hi=>by simp[ZDO]at h
 |j,p::news,x::xs,y::ys,h,i,sz,es,hi=>by
  cases y with
  |own j' k=>
   simp only[ZDO]at h
   obtain⟨rfl,h2,h3⟩:=h
   cases i with
   |zero=>
    simp at hi;subst hi
    have hk:k=es.length:=by
     unfold ZCJ at h2
     grind
    subst hk
    exact⟨x,h2,by simp[ZBm,ZAe]⟩
   |succ i=>
    obtain⟨x',q1,q2⟩:=ZFH (xs:=xs) (ys:=ys) h3 (i:=i) (by simpa using hi)
    exact⟨x',q1,by simpa[ZBm,ZAe]using q2⟩
  |_=>
   simp only[ZDO]at h
   obtain⟨x',q1,q2⟩:=ZFH (xs:=xs) (ys:=ys) h.2.2 hi
   exact⟨x',q1,by simpa[ZBm,ZAe]using q2⟩
theorem ZDV {σ:ZE}:∀{j:Nat} {news:List (Nat×List (List AV))} {xs ys:List AV},ZDO σ j news xs ys->xs.length=ys.length
 |j,news,[],[],h=>rfl
 |j,news,[],_::_,h=>by simp[ZDO]at h
 |j,news,_::_,[],h=>by simp[ZDO]at h
 |j,news,x::xs,y::ys,h=>by
  cases y with
  |own j' k=>
   cases news with
   |nil=>simp only[ZDO]at h;simp[ZDV (xs:=xs) (ys:=ys) h.2.2]
   |cons p news=>obtain⟨sz,es⟩:=p;simp only[ZDO]at h;simp[ZDV (xs:=xs) (ys:=ys) h.2.2]
  |_=>simp only[ZDO]at h;simp[ZDV (xs:=xs) (ys:=ys) h.2.2]
theorem ZIt {m:Map}{σ:ZE}{w:World}(h:Sim B m σ w){m2:Map}(hA:∀x,Av m2 x->Av m x){x:AV}{sz:Nat}{es:List (List AV)}(hx:ZCJ σ x sz es.length es)(hp:Zc es):
  BlkSim B m2 w (match ZHK x with|some l=>(m.f l).cut es.length|none=>.nil) (some (.elems sz es)):=by
 have key:∀l es0,σ[l]? =some (.elems sz es0)->es=es0.take es.length->BlkSim B m2 w ((m.f l).cut es.length) (some (.elems sz es)):=by
  intro l es0 hl he
  have hle:es.length<=es0.length:=by rw[he];simp;omega
  have hb:=h.blk l
  rw[hl]at hb
  obtain⟨h1,h2,h3⟩:=hb
  have hget:∀(i:Nat) (e:List AV),es[i]? =some e->es0[i]? =some e:=by grind
  refine⟨fun e he'=>h1 e (by rw[he]at he';exact zD he'),by omega,?_⟩
  rcases h3 with⟨q,rfl⟩|⟨b,ccs,ty,a1,a2,a3,a4⟩
  ·rw[q];exact .inl ⟨rfl,by rw[he];simp⟩
  ·rw[a1]
   refine .inr ⟨b,ccs,ty,rfl,a2,Nat.le_trans (Nat.mul_le_mul_right _ hle) a3,fun i e k x hi hk=> ?_⟩
   obtain⟨y,hy,hc⟩:=a4 i e k x (hget i e hi) hk
   exact⟨y,hy,hc.pure_to (ZBg (hp e (zE hi)) hk) hA⟩
 unfold ZCJ at hx
 split at hx
 ·exact key _ es hx.2.2 (by simp)
 ·obtain⟨_,_,es0,g1,g2,g3,_⟩:=hx;exact key _ es0 g1 g3
 ·obtain⟨_,_,rfl⟩:=hx;exact⟨by simp,by simp,.inl ⟨rfl,rfl⟩⟩
 ·exact hx.elim
theorem ZMC {news:List (Nat×List (List AV))}{i:Nat}:(ZLc news)[i]? =(news[i]?).map fun p=>.elems p.1 p.2:=by simp[ZLc]
theorem ZGv {m:Map}{σ:ZE}{w:World}(h:Sim B m σ w){m2:Map}{W:Nat->Prop}{j sz:Nat}{es:List (List AV)}{x:AV}{u:Value}(hx:ZCJ σ x sz es.length es)(hc:Conc B (Av m) w m x u)
  (hj:j<m2.n) (hf:m2.f j=(match ZHK x with|some l=>(m.f l).cut es.length|none=>.nil)):Conc B W w m2 (.own j es.length) u:=by
 unfold ZCJ at hx
 split at hx
 ·next l n=>
  obtain⟨rfl,_,hl⟩:=hx
  have hb:=h.blk l
  rw[hl]at hb
  obtain⟨_,_,h3⟩:=hb
  simp only[ZHK]at hf
  generalize hn:es.length=n at hc hf h3 ⊢
  cases hc with
  |ownOther _ _ a cap hlt hh hcap=>
   exfalso
   rcases h3 with⟨q,rfl⟩|⟨b,ccs,ty,q,_⟩
   ·have:=hh 0 (by rw[q];rfl);omega
   ·have:=hh n (by rw[q];rfl);omega
  |ownNil _ a hlt hh=>exact .ownNil j a hj (by rw[hf,hh];rfl)
  |ownArr _ b sz' _ cap ccs ty hlt hh hh2 hcap hlen hz=>exact .ownArr j b sz' n cap ccs ty hj (by rw[hf,hh];rfl) hh2 hcap hlen hz
 ·next l n k=>
  obtain⟨rfl,hkn,es0,hl,hn,_,h0k⟩:=hx
  have hb:=h.blk l
  rw[hl]at hb
  obtain⟨_,_,h3⟩:=hb
  simp only[ZHK]at hf
  generalize hk:es.length=k at hc hf hkn ⊢
  cases hc with
  |preOther _ _ _ v hlt hh=>
   exfalso
   rcases h3 with⟨q,rfl⟩|⟨b,ccs,ty,q,_⟩
   ·have:=hh 0 (by rw[q];rfl);simp at hn;omega
   ·have:=hh es0.length (by rw[q];rfl);omega
  |preNil _ a hlt hh=>exact .ownNil j a hj (by rw[hf,hh];rfl)
  |preArr _ b sz' _ _ cap ccs ty hlt hh hk' hh2 hcap hlen=>exact .ownArr j b sz' k cap ccs ty hj (by rw[hf,hh];rfl) hh2 hcap (by omega) (fun h=>by
   rcases h0k with h0|h0
   ·omega
   ·refine .inr ?_
    rcases h3 with⟨q,_⟩|⟨b2,ccs2,ty2,q,_⟩
    ·rw[q]at hh;cases hh
    ·rw[q]at hh;injection hh with _ e _;rw[←e];exact h0)
 ·obtain⟨rfl,_,rfl⟩:=hx
  rw[Conc.lit_inv hc]
  exact .ownNil j none hj hf
 ·exact hx.elim
theorem ZDl {m:Map}{σ:ZE}{w:World}(h:Sim B m σ w){m2:Map}(hA:∀x,Av m2 x->Av m x):∀{j:Nat} {news:List (Nat×List (List AV))} {xs ys:List AV},ZDO σ j news xs ys->
  (∀i sz es,news[i]? =some (sz,es)->j+i<m2.n/\m2.f (j+i)=(match ZBm (ZAe xs ys) i with|some l=>(m.f l).cut es.length|none=>.nil))->∀us:Nat->Value,(∀i x,xs[i]? =some x->Conc B (Av m) w m x (us i))->
  xs.length=ys.length/\∀i y,ys[i]? =some y->Conc B (Av m2) w m2 y (us i)
 |j,news,[],[],h1,hf,us,hc=>⟨rfl,fun i y hi=>by simp at hi⟩
 |j,news,[],_::_,h1,hf,us,hc=>by simp[ZDO]at h1
 |j,news,_::_,[],h1,hf,us,hc=>by simp[ZDO]at h1
 |j,news,x::xs,y::ys,h1,hf,us,hc=>by
  have gen:x.le y->y.pure->ZDO σ j news xs ys->(∀i,ZBm (ZAe (x::xs) (y::ys)) i=ZBm (ZAe xs ys) i)->(x::xs).length=(y::ys).length/\∀i y',(y::ys)[i]? =some y'->Conc B (Av m2) w m2 y' (us i):=by
   intro a1 a2 a3 a4
   obtain⟨b1,b2⟩:=ZDl h hA a3 (fun i sz es hi=>by have:=hf i sz es hi;rwa[a4]at this) (fun i=>us (i+1)) (fun i z hi=>hc (i+1) z (by simpa using hi))
   refine⟨by simp[b1],fun i z hi=> ?_⟩
   cases i with
   |zero=>simp at hi;subst hi;exact((hc 0 x (by simp)).le a1).pure_to a2 hA
   |succ i=>exact b2 i z (by simpa using hi)
  cases y with
  |own j' k=>
   cases news with
   |nil=>simp only[ZDO]at h1;exact(by simpa[AV.pure]using h1.2.1:False).elim
   |cons p news=>
    obtain⟨sz,es⟩:=p
    simp only[ZDO]at h1
    obtain⟨rfl,h2,h3⟩:=h1
    obtain⟨b1,b2⟩:=ZDl h hA h3 (fun i sz' es' hi=>by
     have:=hf (i+1) sz' es' (by simpa using hi)
     simpa[ZBm,ZAe,Nat.add_assoc,Nat.add_comm,Nat.add_left_comm]using this) (fun i=>us (i+1)) (fun i z hi=>hc (i+1) z (by simpa using hi))
    refine⟨by simp[b1],fun i z hi=> ?_⟩
    cases i with
    |zero=>
     simp at hi;subst hi
     obtain⟨q1,q2⟩:=hf 0 sz es (by simp)
     have hk:k=es.length:=by
      unfold ZCJ at h2
      grind
     subst hk
     exact ZGv h h2 (hc 0 x (by simp)) q1 (by simpa[ZBm,ZAe]using q2)
    |succ i=>exact b2 i z (by simpa using hi)
  |_=>
   simp only[ZDO]at h1
   exact gen h1.1 h1.2.1 h1.2.2 (fun i=>rfl)
def ZDp :List (Nat×List (List AV))->Prop
 | []=>True
 |p::r=>Zc p.2/\ZDp r
theorem ZDo :∀{news:List (Nat×List (List AV))} {i sz:Nat} {es:List (List AV)},ZDp news->news[i]? =some (sz,es)->Zc es
 |p::r,0,sz,es,h,hi=>by simp at hi;subst hi;exact h.1
 |p::r,i+1,sz,es,h,hi=>ZDo (news:=r) h.2 (by simpa using hi)
theorem Sim.own {m:Map}{σ:ZE}{w:World}(h:Sim B m σ w){τ1:ZE}{news:List (Nat×List (List AV))}{xs ys:List AV}(hst:ZDb σ τ1)(hp1:ZEr τ1)(hP:ZDO σ τ1.length news xs ys)(hl:lnd τ1.length (ZAe xs ys))(hn:ZDp news):
  Sim B (m.own τ1.length (ZAe xs ys) news) (τ1++ZLc news) w:=by
 have fnew:∀i sz es,news[i]? =some (sz,es)->(m.own τ1.length (ZAe xs ys) news).f (τ1.length+i)=(match ZBm (ZAe xs ys) i with|some l=>(m.f l).cut es.length|none=>.nil):=by
  intro i sz es hi
  have hil:i<news.length:=(zA.1 hi).1
  have hd:news.getD i (0,[])=(sz,es):=by rw[zH,hi];rfl
  simp only[Map.own]
  grind
 refine⟨by simp[Map.own,ZLc],fun i=> ?_,fun i i' b h1 h2=> ?_,fun b hb=>h.sep b (Map.own_wr hb),h.avlt,h.tb.sub fun b hb=>Map.own_wr hb⟩
 ·by_cases hi:i<τ1.length
  ·rw[List.getElem?_append_left hi,zG hi]
   obtain⟨b,hb,hle⟩:=ZFl hst (zG hi)
   have hbs:=h.blk i
   rw[hb]at hbs
   have e:(m.own τ1.length (ZAe xs ys) news).f i=m.f i:=by simp[Map.own,hi]
   rw[e]
   exact BlkSim.leP hbs hle (ZC2 hp1 (zG hi)) fun b hb=>Map.own_av hb
  ·obtain⟨k,rfl⟩:∃k,i=τ1.length+k:=⟨i-τ1.length,by omega⟩
   rw[List.getElem?_append_right (by omega),Nat.add_sub_cancel_left,ZMC]
   cases hk:news[k]? with
   |none=>
    have hk':news.length<=k:=List.getElem?_eq_none_iff.1 hk
    have e:(m.own τ1.length (ZAe xs ys) news).f (τ1.length+k)=.dead:=by simp only[Map.own];rw[iN (by omega),iN (by omega)]
    rw[e];rfl
   |some p=>
    obtain⟨sz,es⟩:=p
    obtain⟨x,q1,q2⟩:=ZFH hP hk
    rw[fnew k sz es hk,q2]
    exact ZIt h (fun b hb=>Map.own_av hb) q1 (ZDo hn hk)
 ·rcases Map.own_src h1 with⟨a1,a2⟩|⟨l,a1,a2,a3⟩<;>rcases Map.own_src h2 with⟨b1,b2⟩|⟨l',b1,b2,b3⟩
  ·exact h.inj _ _ _ a2 b2
  ·have:=h.inj _ _ _ a2 b3
   have:=ZFL hl (ZCX b2)
   omega
  ·have:=h.inj _ _ _ b2 a3
   have:=ZFL hl (ZCX a2)
   omega
  ·have e:=h.inj _ _ _ a3 b3
   subst e
   have:=ZHL hl (ZCX a2) (ZCX b2)
   omega
def ZJw (σ:ZE):List AV->List AV->(List AV->ZE->Prop)->Prop
 | [],xs,K=>K xs σ
 |_::_,[],K=>K [] σ
 |y::ys,x::xs,K=>match y with
  | .own _ _=>ZJw σ ys xs fun xs' σ'=>K (x::xs') σ'
  |_=>ZHT σ x fun x' σ'=>ZJw σ' ys xs fun xs' σ''=>K (x'::xs') σ''
theorem ZJZ {σ:ZE}{xs:List AV}{K:List AV->ZE->Prop}{k:Box K}:ZJw σ [] xs (hold K k)=K xs σ:=rfl
theorem ZHf {σ:ZE}{x y:AV}{xs ys:List AV}{K:List AV->ZE->Prop}{k:Box K}:ZJw σ (y::ys) (x::xs) (hold K k)=(match y with
  | .own _ _=>ZJw σ ys xs (hold (fun xs' σ'=>K (x::xs') σ') .mk)
  |_=>ZHT σ x (hold (fun x' σ'=>ZJw σ' ys xs (hold (fun xs' σ''=>K (x'::xs') σ'') .mk)) .mk)):=by cases y<;>rfl
theorem ZOS {σ:ZE}{x:AV}{K:AV->ZE->Prop}(h:ZHT σ x K):∃x' σ',K x' σ':=by
 unfold ZHT at h
 split at h
 ·obtain⟨r,s,h,_⟩:=ZEZ _ σ _ h;exact⟨_,_,h⟩
 ·grind
 ·exact⟨_,_,h⟩
theorem ZFR :∀{ys xs:List AV} {σ:ZE} {K:List AV->ZE->Prop},ZJw σ ys xs K->∃xs' σ',K xs' σ'/\xs'.length=xs.length
 | [],xs,σ,K,h=>⟨xs,σ,h,rfl⟩
 |y::ys,[],σ,K,h=>⟨[],σ,h,rfl⟩
 |y::ys,x::xs,σ,K,h=>by
  have gen:ZHT σ x (fun x' σ'=>ZJw σ' ys xs fun xs' σ''=>K (x'::xs') σ'')->∃xs' σ',K xs' σ'/\xs'.length=(x::xs).length:=by
   intro h
   obtain⟨x',σ',h⟩:=ZOS h
   obtain⟨xs',σ2,h1,h2⟩:=ZFR h
   grind
  cases y with
  |own l n=>
   obtain⟨xs',σ2,h1,h2⟩:=ZFR (ys:=ys) (xs:=xs) h
   grind
  |_=>exact gen h
theorem ZCx {w:World}:∀{ys xs:List AV} {σ:ZE} {m:Map} {K:List AV->ZE->Prop},Sim B m σ w->ZJw σ ys xs K->∀us:Nat->Value,(∀i x,xs[i]? =some x->Conc B (Av m) w m x (us i))->
  ∃xs' σ' m',K xs' σ'/\Sim B m' σ' w/\Fr m w m' w/\∀i x,xs'[i]? =some x->Conc B (Av m') w m' x (us i)
 | [],xs,σ,m,K,h,hk,us,hc=>⟨xs,σ,m,hk,h,Fr.refl m w,hc⟩
 |y::ys,[],σ,m,K,h,hk,us,hc=>⟨[],σ,m,hk,h,Fr.refl m w,hc⟩
 |y::ys,x::xs,σ,m,K,h,hk,us,hc=>by
  have gen:ZHT σ x (fun x' σ'=>ZJw σ' ys xs fun xs' σ''=>K (x'::xs') σ'')->∃xs' σ' m',K xs' σ'/\Sim B m' σ' w/\Fr m w m' w/\∀i x,xs'[i]? =some x->Conc B (Av m') w m' x (us i):=by
   intro hk
   obtain⟨x',σ1,m1,hk1,hs1,hf1,hc1⟩:=ZCz h hk (hc 0 x (by simp))
   obtain⟨xs',σ2,m2,hk2,hs2,hf2,hc2⟩:=ZCx hs1 hk1 (fun i=>us (i+1)) (fun i z hi=>(hc (i+1) z (by simpa using hi)).mono hf1)
   refine⟨x'::xs',σ2,m2,hk2,hs2,hf1.trans hf2 h.mapOk,fun i z hi=> ?_⟩
   cases i with
   |zero=>simp at hi;subst hi;exact hc1.mono hf2
   |succ i=>exact hc2 i z (by simpa using hi)
  cases y with
  |own l n=>
   obtain⟨xs',σ2,m2,hk2,hs2,hf2,hc2⟩:=ZCx (ys:=ys) (xs:=xs) h hk (fun i=>us (i+1)) (fun i z hi=>hc (i+1) z (by simpa using hi))
   refine⟨x::xs',σ2,m2,hk2,hs2,hf2,fun i z hi=> ?_⟩
   cases i with
   |zero=>simp at hi;subst hi;exact(hc 0 _ (by simp)).mono hf2
   |succ i=>exact hc2 i z (by simpa using hi)
  |_=>exact gen hk
theorem BCall.enterS {f:FuncId}{fn:Func}{c:Code}{τ τ1:ZE}{args ys:List AV}{news:List (Nat×List (List AV))}{n:Nat}{st0:ASt}(hf:P.funcs[f]? =some fn)(hn:(fn.name== "runtime.NumGoroutine")=false)(hb:fn.body=some c)
  (hN:fn.ntmps=N) (hargs:args.length<=N) (hτ:τ.length=n) (hτ1:τ1.length=n) (h1:Zn τ.length τ) (h2:AV.closed.closeds τ.length args) (h3:(pack ys).closed (τ1++ZLc news).length) (h4:Zn (τ1++ZLc news).length (τ1++ZLc news))
  (hp1:ZEr τ1) (hp2:ZDp news) (hg:Gh B n N ⟨ZCF 0 args,τ⟩ st0) (h:awp P B n N c st0 (hold (ZH2 P fn (hold (fun r' σ'=>ZJw σ' ys (unp ys r') (hold (fun xs' σ'=>ZDb σ' τ1/\ZDO σ' n news xs' ys/\lnd n (ZAe xs' ys)) .mk)) .mk)) .mk)):BCall P B f τ args (pack ys) (τ1++ZLc news):=by
 refine⟨⟨fn,hf,hn,by rw[hb];rfl⟩,h1,h2,h3,h4,by simp;omega,fun m w vs hs hv=>calls_of_wp hf hb ?_⟩
 subst hN hτ
 have hsim0:ASim B τ.length fn.ntmps m w ⟨ZCF 0 args,τ⟩ m ⟨vs++Array.replicate (fn.ntmps-vs.size) undef,[]⟩ w:=
  ⟨hs,ZAu hv hargs,rfl,Fr.refl m w,hs.n,hs.mapOk⟩
 obtain⟨m1,hsim1⟩:=hg _ _ _ _ _ hsim0
 refine wp_mono (Zf c _ _ h m w m1 _ w hsim1) ?_
 rintro e a' w' ⟨st',m',hq,hs'⟩
 have fin:∀(hq:ZD7 P st'.σ st'.fr fn.results.toList fun xs=>ZJw st'.σ ys (unp ys (pack xs)) fun xs' σ'=>ZDb σ' τ1/\ZDO σ' τ.length news xs' ys/\lnd τ.length (ZAe xs' ys)),
   a'.defers=[]/\∃v,(results fn a'.tmps).run P w'=.ok v w'/\∃u m'' σ',Ending.returned v=.returned u/\ZDb σ' (τ1++ZLc news)/\Sim B m'' σ' w'/\Conc B (Av m'') w' m'' (pack ys) u/\Fr m w m'' w':=by
  intro hq
  obtain⟨xs,u,hY,hrun,hc⟩:=Zj hs' hq
  obtain⟨us,husc,husb⟩:∃us:Nat->Value,(∀i x',(unp ys (pack xs))[i]? =some x'->Conc B (Av m') w' m' x' (us i))/\((ys.length≠1/\(unp ys (pack xs)).length=1)∨∀W m2,(∀i y,ys[i]? =some y->Conc B W w' m2 y (us i))->((unp ys (pack xs)).length=ys.length)->Conc B W w' m2 (pack ys) u):=by
   generalize pack xs=x at hc
   match ys with
   | [y]=>
    refine⟨fun _=>u,fun i x' hi=> ?_,.inr fun W m2 hzc _=>hzc 0 y (by simp)⟩
    cases i with
    |zero=>simp[unp]at hi;subst hi;exact hc
    |succ i=>simp[unp]at hi
   | []=>
    cases x with
    |tup cs=>cases hc with|tup _ us hlen hcc=>exact⟨fun i=>us.getD i undef,hcc,.inr fun W m2 hzc hl=>.tup [] us (hlen.trans hl) hzc⟩
    |_=>exact⟨fun _=>undef,fun i x' hi=>by cases i with
      |zero=>simp[unp]at hi;subst hi;exact .junk _
      |succ i=>simp[unp]at hi,.inl ⟨by simp,by simp[unp]⟩⟩
   |a::b::r=>
    cases x with
    |tup cs=>cases hc with|tup _ us hlen hcc=>exact⟨fun i=>us.getD i undef,hcc,.inr fun W m2 hzc hl=>.tup (a::b::r) us (hlen.trans hl) hzc⟩
    |_=>exact⟨fun _=>undef,fun i x' hi=>by cases i with
      |zero=>simp[unp]at hi;subst hi;exact .junk _
      |succ i=>simp[unp]at hi,.inl ⟨by simp,by simp[unp]⟩⟩
  obtain⟨xs',σ1,m1,⟨k1,k2,k3⟩,hs1,hf1,hc1⟩:=ZCx hs'.sim hY us husc
  rw[←hτ1]at k2 k3
  have hS:=hs1.own k1 hp1 k2 k3 hp2
  have hfr:=hs'.step.trans hf1 hs.mapOk
  have fnew:∀i sz es,news[i]? =some (sz,es)->τ1.length+i<(m1.own τ1.length (ZAe xs' ys) news).n/\(m1.own τ1.length (ZAe xs' ys) news).f (τ1.length+i)=(match ZBm (ZAe xs' ys) i with|some l=>(m1.f l).cut es.length|none=>.nil):=by
   intro i sz es hi
   have hil:i<news.length:=(zA.1 hi).1
   have hd:news.getD i (0,[])=(sz,es):=by rw[zH,hi];rfl
   refine⟨by simp[Map.own];omega,?_⟩
   simp only[Map.own]
   grind
  refine⟨hs'.df,u,hrun,u,_,_,rfl,ZFk _,hS,?_,⟨hfr.size,hfr.keep,fun b ccs ty h1 h2 h3=>hfr.phys b ccs ty h1 (Map.own_wr h2) h3,fun b hb=>hfr.fresh b (Map.own_wr hb),fun l hl=> ?_,?_,hfr.av,hfr.tape,hfr.os,hfr.output⟩⟩
  ·obtain⟨b1,b2⟩:=ZDl hs1 (fun b hb=>Map.own_av hb) k2 fnew us hc1
   obtain⟨xs2,σ2,⟨_,g2,_⟩,g4⟩:=ZFR hY
   have g5:=ZDV g2
   grind
  ·have hl':l<τ1.length:=by rw[hτ1,←hs.n];exact hl
   have e:(m1.own τ1.length (ZAe xs' ys) news).f l=m1.f l:=by simp[Map.own,hl']
   rw[e];exact hfr.ids l hl
  ·have:=hs.n
   simp[Map.own];omega
 cases e with
 |normal=>exact fin hq
 |ret=>exact fin hq
 |_=>exact hq.elim
theorem ZCS (l:List Nat){n:Nat}(hn:n<=l.length)(hd:l.Nodup)(i j:Nat)(hi:i<n)(hj:j<n)(e:pl l i=pl l j):i=j:=
 ZBE l rfl hd i j (by omega) (by omega) e
attribute [simp] ZJZ ZHf ZCJ ZDO ZAe lnd unp ZLc ZDp ZEr ZHK
end Go.Vl
namespace Go.Vl
open Go Go.RowKit
variable {P : Program} {B nb N : Nat}
def swp (l l2 i:Nat):Nat:=if i=l then l2 else if i=l2 then l else i
def rnF (π:Nat->Nat):Frm->Frm
 | []=>[]
 |(k,x)::r=>(k,x.ren π)::rnF π r
def swS (l l2:Nat)(σ:ZE):ZE:=((σ.set l (σ.getD l2 .dead)).set l2 (σ.getD l .dead)).map (Blk.ren (swp l l2))
theorem Gh.frzCell {fr:Frm}{σ:ZE}(l j:Nat){l2 n sz:Nat}{cs:List AV}{es:List (List AV)}(hl:σ[l]? =some (.cells cs))(hj:cs[j]? =some (.own l2 n))(hl2:σ[l2]? =some (.elems sz es))(hn:es.length=n)(hp:Zc es):
  Gh B nb N ⟨fr,σ⟩ ⟨fr,(σ.set l2 .dead).set l (.cells (cs.set j (.arr es)))⟩:=by
 intro m0 w0 m a w h
 have hfr:Fr m w (m.kill l2) w:=Fr.kill m w l2
 have hs:=h.sim.kill hl2
 have hne:l≠l2:=by rintro rfl;rw[hl]at hl2;cases hl2
 have hl':(σ.set l2 .dead)[l]? =some (.cells cs):=by rw[zB (Ne.symm hne)];exact hl
 refine⟨m.kill l2,⟨by simpa using hs.n,fun k=> ?_,hs.inj,hs.sep,hs.avlt,hs.tb⟩,⟨h.fr.1,fun i=>(h.fr.2 i).mono hfr⟩,h.df,h.step.trans hfr h.ok,h.base,h.ok⟩
 by_cases e:k=l
 ·subst e
  have hb:=hs.blk k
  rw[hl']at hb
  rw[zC (by have:=(zA.1 hl').1;exact this)]
  obtain⟨b,ccs,ty,g1,g2,g3,g4⟩:=hb
  refine⟨b,ccs,ty,g1,g2,by simpa using g3,fun i x hi=> ?_⟩
  by_cases ej:j=i
  ·subst ej
   rw[zC (zA.1 hj).1]at hi
   obtain rfl:=zI hi
   have hb0:=h.sim.blk k
   rw[hl]at hb0
   obtain⟨b0,ccs0,ty0,q1,q2,q3,q4⟩:=hb0
   obtain⟨y,hy,hc⟩:=q4 j _ hj
   have e1:(m.kill l2).f k=m.f k:=by simp[Map.kill,hne]
   rw[e1,q1]at g1;cases g1
   rw[q2]at g2;injection g2 with g2;injection g2 with g2;subst g2
   exact⟨y,hy,ZAS h.sim hl2 hn hp hc⟩
  ·rw[zB ej]at hi
   exact g4 i x hi
 ·rw[zB (Ne.symm e)]
  exact hs.blk k
theorem ACall.frzCell {f:FuncId}{args:List AV}{σ:ZE}{K:AV->ZE->Prop}{b:Box K}(l j:Nat){l2 n sz:Nat}{cs:List AV}{es:List (List AV)}(hl:σ[l]? =some (.cells cs))(hj:cs[j]? =some (.own l2 n))(hl2:σ[l2]? =some (.elems sz es))(hn:es.length=n)(hp:Zc es)
  (h:ACall P B f args ((σ.set l2 .dead).set l (.cells (cs.set j (.arr es)))) (hold K .mk)):ACall P B f args σ (hold K b):=by
 refine⟨h.1,fun m w vs hs0 hv=> ?_⟩
 have hfr:Fr m w (m.kill l2) w:=Fr.kill m w l2
 have hs:=hs0.kill hl2
 have hne:l≠l2:=by rintro rfl;rw[hl]at hl2;cases hl2
 have hl':(σ.set l2 .dead)[l]? =some (.cells cs):=by rw[zB (Ne.symm hne)];exact hl
 refine(h.2 (m.kill l2) w vs ⟨by simpa using hs.n,fun k=> ?_,hs.inj,hs.sep,hs.avlt,hs.tb⟩ ⟨hv.1,fun i x hi=>(hv.2 i x hi).mono hfr⟩).mono fun e w' ⟨u,r,σ',m',h1,h2,h3,h4,h5⟩=>⟨u,r,σ',m',h1,h2,h3,h4,hfr.trans h5 hs0.mapOk⟩
 by_cases e:k=l
 ·subst e
  have hb:=hs.blk k
  rw[hl']at hb
  rw[zC (by have:=(zA.1 hl').1;exact this)]
  obtain⟨b,ccs,ty,g1,g2,g3,g4⟩:=hb
  refine⟨b,ccs,ty,g1,g2,by simpa using g3,fun i x hi=> ?_⟩
  by_cases ej:j=i
  ·subst ej
   rw[zC (zA.1 hj).1]at hi
   obtain rfl:=zI hi
   have hb0:=hs0.blk k
   rw[hl]at hb0
   obtain⟨b0,ccs0,ty0,q1,q2,q3,q4⟩:=hb0
   obtain⟨y,hy,hc⟩:=q4 j _ hj
   have e1:(m.kill l2).f k=m.f k:=by simp[Map.kill,hne]
   rw[e1,q1]at g1;cases g1
   rw[q2]at g2;injection g2 with g2;injection g2 with g2;subst g2
   exact⟨y,hy,ZAS hs0 hl2 hn hp hc⟩
  ·rw[zB ej]at hi
   exact g4 i x hi
 ·rw[zB (Ne.symm e)]
  exact hs.blk k
theorem ECallA.frzCell {f:FuncId}{args:List AV}{σ:ZE}{K:AV->ZE->Prop}{b:Box K}(l j:Nat){l2 n sz:Nat}{cs:List AV}{es:List (List AV)}(hl:σ[l]? =some (.cells cs))(hj:cs[j]? =some (.own l2 n))(hl2:σ[l2]? =some (.elems sz es))(hn:es.length=n)(hp:Zc es)
  (h:ECallA P B f args ((σ.set l2 .dead).set l (.cells (cs.set j (.arr es)))) (hold K .mk)):ECallA P B f args σ (hold K b):=by
 obtain⟨r,σ',h1,h2⟩:=h
 exact⟨r,σ',fun K' hK'=>ACall.frzCell (b:=(.mk:Box K')) l j hl hj hl2 hn hp (h1 K' hK'),h2⟩
theorem ECallA.nilCell {f:FuncId}{args:List AV}{σ:ZE}{K:AV->ZE->Prop}{b:Box K}(l j sz:Nat){cs:List AV}(hl:σ[l]? =some (.cells cs))(hj:cs[j]? =some (.lit (.slice none 0 0)))
  (h:ECallA P B f args ((σ.set l (.cells (cs.set j (.own σ.length 0))))++[.elems sz []]) (hold K .mk)):ECallA P B f args σ (hold K b):=by
 obtain⟨r,σ',h1,h2⟩:=h
 exact⟨r,σ',fun K' hK'=>ACall.nilCell (b:=(.mk:Box K')) l j sz hl hj (h1 K' hK'),h2⟩
theorem ECallA.nilCellT {f:FuncId}{args:List AV}{σ:ZE}{K:AV->ZE->Prop}{b:Box K}(T E l j sz:Nat){cs:List AV}(hl:σ[l]? =some (.tcells (some T) cs))(hj:cs[j]? =some (.lit (.slice none 0 0)))
  (h:ECallA P B f args ((σ.set l (.tcells (some T) (cs.set j (.own σ.length 0))))++[.telems (some E) sz []]) (hold K .mk)):ECallA P B f args σ (hold K b):=by
 obtain⟨r,σ',h1,h2⟩:=h
 exact⟨r,σ',fun K' hK'=>ACall.nilCellT (b:=(.mk:Box K')) T E l j sz hl hj (h1 K' hK'),h2⟩
theorem PureCall.enterG {f:FuncId}{fn:Func}{c:Code}{args:List AV}{r:AV}{st0:ASt}(hf:P.funcs[f]? =some fn)(hn:(fn.name== "runtime.NumGoroutine")=false)(hb:fn.body=some c)
  (hN:fn.ntmps=N) (hargs:args.length<=N) (hr:r.pure) (hg:Gh B 0 N ⟨ZCF 0 args,[]⟩ st0) (h:awp P B 0 N c st0 (hold (ZA2 P fn fun r' _=>r'.le r) .mk)):PureCall P B f args r:=by
 refine⟨⟨fn,hf,hn,by rw[hb];rfl⟩,hr,fun av w vs hav hv=>calls_of_wp hf hb ?_⟩
 subst hN
 let m0:Map:=⟨fun _=>.dead,0,av⟩
 have hWr:∀b,¬Wr m0 b:=by rintro b ⟨l,hl⟩;simp[m0,MS.has]at hl
 have hAv:∀b,Av m0 b->av b:=fun b hb=>hb.resolve_left (hWr b)
 have hsim:Sim B m0 [] w:=⟨rfl,fun l=>by simp[BlkSim,m0],fun l l' b hl=>by simp[m0,MS.has]at hl,fun b hb=>absurd hb (hWr b),hav.1,hav.2.ok fun b hb=>absurd hb (hWr b)⟩
 have hv':RelL B (Av m0) m0 w args vs:=⟨hv.1,fun i x hi=>((hv.2 i x hi).weaken hAv).shift m0⟩
 have hsim0:ASim B 0 fn.ntmps m0 w ⟨ZCF 0 args,[]⟩ m0 ⟨vs++Array.replicate (fn.ntmps-vs.size) undef,[]⟩ w:=
  ⟨hsim,ZAu hv' hargs,rfl,Fr.refl m0 w,rfl,fun b hb=>absurd hb (hWr b)⟩
 obtain⟨m1,hsim1⟩:=hg _ _ _ _ _ hsim0
 refine wp_mono (Zf c _ _ h m0 w m1 _ w hsim1) ?_
 rintro e a' w' ⟨st',m',hq,hs⟩
 have fin:∀(hq:ZD7 P st'.σ st'.fr fn.results.toList fun xs=>ZKy st'.σ (pack xs) fun r' _=>r'.le r),
   a'.defers=[]/\∃v,(results fn a'.tmps).run P w'=.ok v w'/\∃u,Ending.returned v=.returned u/\Conc B av w' M0 r u/\Below w.heap.size w w':=by
  intro hq
  obtain⟨xs,u,hK,hrun,hc⟩:=Zj hs hq
  obtain⟨r',σ',m'',hle,hs2,hf2,hc2⟩:=ZA6 hs.sim hK hc
  have hfr:=hs.step
  refine⟨hs.df,u,hrun,u,rfl,?_,hfr.os,hfr.tape,hfr.output,hfr.size,fun b hb=>hfr.keep b hb (hWr b)⟩
  refine((hc2.le hle).toM0 hr).weaken fun b hb=>.inr ?_
  rw[hf2.av,hfr.av];exact hb
 cases e with
 |normal=>exact fin hq
 |ret=>exact fin hq
 |_=>exact hq.elim
def GhK (B nb N:Nat)(K:ASt->Prop)(st:ASt):Prop:=∃st',Gh B nb N st st'/\K st'
theorem ADraw.post {ops:Array Oper}{bo:Box ops}{st:ASt}{K:ASt->Prop}{b:Box K}(h:ADraw P B nb N (hold ops .mk) st (hold (GhK B nb N (hold K .mk)) .mk)):ADraw P B nb N (hold ops bo) st (hold K b):=
 ⟨h.1,fun m0 w0 m a w hs Q hn=>h.2 m0 w0 m a w hs Q fun st' m' a' w' ⟨st2,hg,hk⟩ hs'=>by
  obtain⟨m2,hs2⟩:=hg _ _ _ _ _ hs'
  exact hn _ _ _ _ hk hs2⟩
theorem GhK.go {st st':ASt}{K:ASt->Prop}{b:Box K}(hg:Gh B nb N st st')(h:K st'):GhK B nb N (hold K b) st:=⟨st',hg,h⟩
theorem Gh.frzElem {fr:Frm}{σ:ZE}(l i j:Nat){l2 n sz sz2:Nat}{es es2:List (List AV)}{e:List AV}(hl:σ[l]? =some (.elems sz es))(hi:es[i]? =some e)(hj:e[j]? =some (.own l2 n))(hl2:σ[l2]? =some (.elems sz2 es2))(hne:l≠l2)(hn:es2.length=n)(hp:Zc es2):
  Gh B nb N ⟨fr,σ⟩ ⟨fr,(σ.set l2 .dead).set l (.elems sz (es.set i (e.set j (.arr es2))))⟩:=by
 intro m0 w0 m a w h
 have hfr:Fr m w (m.kill l2) w:=Fr.kill m w l2
 have hs:=h.sim.kill hl2
 have hl':(σ.set l2 .dead)[l]? =some (.elems sz es):=by rw[zB (Ne.symm hne)];exact hl
 have hil:i<es.length:=(zA.1 hi).1
 refine⟨m.kill l2,⟨by simpa using hs.n,fun k=> ?_,hs.inj,hs.sep,hs.avlt,hs.tb⟩,⟨h.fr.1,fun i=>(h.fr.2 i).mono hfr⟩,h.df,h.step.trans hfr h.ok,h.base,h.ok⟩
 by_cases e':k=l
 ·subst e'
  have hb:=hs.blk k
  rw[hl']at hb
  rw[zC (by have:=(zA.1 hl').1;exact this)]
  obtain⟨h1,h2,h3⟩:=hb
  refine⟨fun x hx=> ?_,by simpa using h2,?_⟩
  ·rcases List.mem_or_eq_of_mem_set hx with hx|rfl
   ·exact h1 x hx
   ·simpa using h1 e (zE hi)
  ·rcases h3 with⟨_,rfl⟩|⟨b,ccs,ty,g1,g2,g3,g4⟩
   ·simp at hil
   refine .inr ⟨b,ccs,ty,by simpa using g1,g2,by simpa using g3,fun i' e0 k' x hi' hk=> ?_⟩
   by_cases ei:i=i'
   ·subst ei
    rw[zC hil]at hi'
    obtain rfl:=zI hi'
    by_cases ej:j=k'
    ·subst ej
     rw[zC (zA.1 hj).1]at hk
     obtain rfl:=zI hk
     have hb0:=h.sim.blk k
     rw[hl]at hb0
     obtain⟨_,_,h30⟩:=hb0
     rcases h30 with⟨_,rfl⟩|⟨b0,ccs0,ty0,q1,q2,q3,q4⟩
     ·simp at hil
     obtain⟨y,hy,hc⟩:=q4 i e j _ hi hj
     have e1:(m.kill l2).f k=m.f k:=by simp[Map.kill,hne]
     rw[e1,q1]at g1;cases g1
     rw[q2]at g2;injection g2 with g2;injection g2 with g2;subst g2
     exact⟨y,hy,ZAS h.sim hl2 hn hp hc⟩
    ·rw[zB ej]at hk
     exact g4 i e k' x hi hk
   ·rw[zB ei]at hi'
    exact g4 i' e0 k' x hi' hk
 ·rw[zB (Ne.symm e')]
  exact hs.blk k
@[simp] theorem ZKj {n k:Nat}{l:List (List AV)}(h:ZFN n l):ZFN n (l.take k):=fun e he=>h e (zD he)
@[simp] theorem ZKk {n k:Nat}{l:List (List AV)}(h:ZFN n l):ZFN n (l.drop k):=fun e he=>h e (zF he)
@[simp] theorem ZG5 {k:Nat}{l:List (List AV)}(h:Zc l):Zc (l.take k):=fun e he=>h e (zD he)
@[simp] theorem ZG6 {k:Nat}{l:List (List AV)}(h:Zc l):Zc (l.drop k):=fun e he=>h e (zF he)
@[simp] theorem ZFY {n k:Nat}{l:List (List AV)}(h:Zg n l):Zg n (l.take k):=fun e he=>h e (zD he)
@[simp] theorem ZFZ {n k:Nat}{l:List (List AV)}(h:Zg n l):Zg n (l.drop k):=fun e he=>h e (zF he)
@[simp] theorem ZJB {σ:ZE}{k:Nat}{l:List (List AV)}(h:ZBL σ l):ZBL σ (l.take k):=fun e he=>h e (zD he)
@[simp] theorem ZJC {σ:ZE}{k:Nat}{l:List (List AV)}(h:ZBL σ l):ZBL σ (l.drop k):=fun e he=>h e (zF he)
@[simp] theorem ZRL {n k j:Nat}{l:List (List AV)}(h:ZFN n l):ZFN n ((l.drop j).take k):=ZKj (ZKk h)
@[simp] theorem ZPS {k j:Nat}{l:List (List AV)}(h:Zc l):Zc ((l.drop j).take k):=ZG5 (ZG6 h)
@[simp] theorem ZOo {n k j:Nat}{l:List (List AV)}(h:Zg n l):Zg n ((l.drop j).take k):=ZFY (ZFZ h)
@[simp] theorem ZQq {σ:ZE}{k j:Nat}{l:List (List AV)}(h:ZBL σ l):ZBL σ ((l.drop j).take k):=ZJB (ZJC h)
attribute [simp] rnF swp swS
end Go.Vl
