/- Part. -/
import Derived.Test.YtnockmfobogfpaaGreatVlBor
set_option linter.all false
open List renaming mem_of_getElem?->zA,getElem?_eq_getElem->zB,getD_eq_getElem?_getD->zC,getElem?_eq_some_iff->zD
namespace Go.Vl
open Go
variable {P : Program} {B nb N : Nat}
def MS.cut (k:Nat):MS->MS
 | .arr b sz _=>.arr b sz k
 |s=>s
variable {b:Nat}
theorem MS.cut_has {k:Nat}{s:MS}:(s.cut k).has b↔s.has b:=by cases s<;>rfl
def ZHe :AV->Option Nat
 | .own l _=>some l
 | .pre l _ _=>some l
 |_=>none
def ZCH (σ:ZE)(x:AV)(sz k:Nat)(es:List (List AV)):Prop:=
 match x with
 | .own l n=>n=k/\es.length=k/\σ[l]? =some (.elems sz es)
 | .pre l n j=>j=k/\k<=n/\∃es0,σ[l]? =some (.elems sz es0)/\es0.length=n/\es=es0.take k/\0<k
 | .lit v=>v=.slice none 0 0/\k=0/\es=[]
 |_=>False
def ZDO (σ:ZE):Nat->List (Nat×List (List AV))->List AV->List AV->Prop
 |_,[],[],[]=>True
 |j,news,x::xs,y::ys=>match y,news with
  | .own j' k,(sz,es)::news=>j'=j/\ZCH σ x sz k es/\ZDO σ (j+1) news xs ys
  |y,news=>x.le y/\y.pure/\ZDO σ j news xs ys
 |_,_,_,_=>False
def ZAV :List AV->List AV->List (Option Nat)
 |x::xs,.own _ _::ys=>ZHe x::ZAV xs ys
 |_::xs,_::ys=>ZAV xs ys
 |_,_=>[]
def lnd (t:Nat):List (Option Nat)->Prop
 | []=>True
 |none::r=>lnd t r
 |some l::r=>t<=l/\(∀o,o∈r->o≠some l)/\lnd t r
def unp :List AV->AV->List AV
 | [_],x=>[x]
 |_,.tup xs=>xs
 |_,_=>[.junk]
def ZLq (news:List (Nat×List (List AV))):ZE:=news.map fun p=>.elems p.1 p.2
def ZBq (ls:List (Option Nat))(i:Nat):Option Nat:=(ls[i]?).bind id
def Map.own (m:Map)(t:Nat)(ls:List (Option Nat))(news:List (Nat×List (List AV))):Map:=
 {m with f:=fun i=>if i<t then m.f i else if i<t+news.length then(match ZBq ls (i-t)with|some l=>(m.f l).cut ((news.getD (i-t) (0,[])).2.length)|none=>.nil)else .dead,n:=t+news.length}
theorem ZFW {t:Nat}:∀{ls:List (Option Nat)} {i l:Nat},lnd t ls->ls[i]? =some (some l)->t<=l
 |none::r,0,l,h,hi=>by simp at hi
 |none::r,i+1,l,h,hi=>ZFW (ls:=r) h (by simpa using hi)
 |some k::r,0,l,h,hi=>by simp at hi;subst hi;exact h.1
 |some k::r,i+1,l,h,hi=>ZFW (ls:=r) h.2.2 (by simpa using hi)
theorem ZHf {t:Nat}:∀{ls:List (Option Nat)} {i j l:Nat},lnd t ls->ls[i]? =some (some l)->ls[j]? =some (some l)->i=j
 | [],i,j,l,h,hi,hj=>by simp at hi
 |none::r,0,j,l,h,hi,hj=>by simp at hi
 |none::r,i+1,0,l,h,hi,hj=>by simp at hj
 |none::r,i+1,j+1,l,h,hi,hj=>congrArg (· +1) (ZHf (l:=l) (ls:=r) h (by simpa using hi) (by simpa using hj))
 |some k::r,0,0,l,h,hi,hj=>rfl
 |some k::r,0,j+1,l,h,hi,hj=>by
  simp at hi;subst hi
  exact absurd rfl (h.2.1 _ (zA (by simpa using hj)))
 |some k::r,i+1,0,l,h,hi,hj=>by
  simp at hj;subst hj
  exact absurd rfl (h.2.1 _ (zA (by simpa using hi)))
 |some k::r,i+1,j+1,l,h,hi,hj=>congrArg (· +1) (ZHf (l:=l) (ls:=r) h.2.2 (by simpa using hi) (by simpa using hj))
variable {ls:List (Option Nat)}
theorem ZCY {i l:Nat}(h:ZBq ls i=some l):ls[i]? =some (some l):=by
 unfold ZBq at h
 cases e:ls[i]? with
 |none=>rw[e]at h;cases h
 |some o=>rw[e]at h;simp at h;rw[h]
variable {m:Map}{news:List (Nat×List (List AV))}
theorem Map.own_src {t:Nat}{i:Nat}(h:((m.own t ls news).f i).has b):(i<t/\(m.f i).has b)∨∃l,t<=i/\ZBq ls (i-t)=some l/\(m.f l).has b:=by
 simp only[Map.own]at h
 split at h
 ·grind
 ·next hi=>
  split at h
  ·cases e:ZBq ls (i-t)with
   |none=>rw[e]at h;exact h.elim
   |some l=>rw[e]at h;exact .inr ⟨l,by omega,rfl,MS.cut_has.1 h⟩
  ·exact h.elim
theorem Map.own_wr {t:Nat}(h:Wr (m.own t ls news) b):Wr m b:=by
 obtain⟨i,hi⟩:=h
 rcases Map.own_src hi with⟨_,h⟩|⟨l,_,_,h⟩
 ·exact⟨i,h⟩
 ·exact⟨l,h⟩
theorem Map.own_av {t:Nat}(h:Av (m.own t ls news) b):Av m b:=h.elim (fun h=>.inl (Map.own_wr h)) .inr
def ZE4 :ZE->Prop
 | []=>True
 | .elems _ es::r=>Zf es/\ZE4 r
 | .cells cs::r=>AV.pure.pures cs/\ZE4 r
 |_::_=>False
theorem ZC4 :∀{τ:ZE} {i:Nat} {b:Blk},ZE4 τ->τ[i]? =some b->(∃cs,b=.cells cs/\AV.pure.pures cs)∨∃sz es,b=.elems sz es/\Zf es
 | .elems sz es::r,0,b,h,hi=>by simp at hi;exact .inr ⟨sz,es,hi.symm,h.1⟩
 | .cells cs::r,0,b,h,hi=>by simp at hi;exact .inl ⟨cs,hi.symm,h.1⟩
 | .elems sz es::r,i+1,b,h,hi=>ZC4 (τ:=r) h.2 (by simpa using hi)
 | .cells cs::r,i+1,b,h,hi=>ZC4 (τ:=r) h.2 (by simpa using hi)
theorem ZF0 :∀{σ τ:ZE} {i:Nat} {c:Blk},ZEH σ τ->τ[i]? =some c->∃b,σ[i]? =some b/\b.le c
 |b::r,c::s,0,d,h,hi=>by simp at hi;subst hi;exact⟨b,rfl,h.1⟩
 |b::r,c::s,i+1,d,h,hi=>by simpa using ZF0 (σ:=r) (τ:=s) h.2 (by simpa using hi)
 |_,[],i,d,h,hi=>by simp at hi
 | [],_::_,i,d,h,hi=>h.elim
theorem ZCI :∀τ:ZE,ZEH τ τ
 | []=>trivial
 |b::r=>⟨by cases b<;>simp[Blk.le,AV.les_refl],ZCI r⟩
theorem ZA1 :∀{xs:List AV} {k:Nat} {x:AV},AV.pure.pures xs->xs[k]? =some x->x.pure
 |y::r,0,x,h,hk=>by simp at hk;subst hk;exact h.1
 |y::r,k+1,x,h,hk=>ZA1 h.2 (by simpa using hk)
variable {m2:Map}{w:World}
theorem BlkSim.leP {s:MS}{b c:Blk}(h:BlkSim B m w s (some b))(hle:b.le c)(hp:(∃cs,c=.cells cs/\AV.pure.pures cs)∨∃sz es,c=.elems sz es/\Zf es)(hA:∀x,Av m2 x->Av m x):BlkSim B m2 w s (some c):=by
 rcases hp with⟨cs,rfl,hp⟩|⟨sz,es,rfl,hp⟩
 ·cases b with
  |tcells ot ds=>
   obtain⟨rfl,hle⟩:ot=none/\AV.le.les ds cs:=hle
   obtain⟨b,ccs,ty,a1,a2,a3,a4⟩:=h
   have hl:=ZAy hle
   refine⟨b,ccs,ty,a1,a2,by omega,fun i x hi=> ?_⟩
   obtain⟨x0,hx0,hx1⟩:=ZAz hle hi
   obtain⟨y,hy,hc⟩:=a4 i x0 hx0
   exact⟨y,hy,(hc.le hx1).pure_to (ZA1 hp hi) hA⟩
  |_=>exact hle.elim
 ·cases b with
  |telems oe' sz' es'=>
   obtain⟨rfl,rfl,rfl⟩:oe'=none/\sz'=sz/\es'=es:=hle
   obtain⟨h1,h2,h3⟩:=h
   refine⟨h1,h2,h3.imp id ?_⟩
   rintro⟨b,ccs,ty,a1,a2,a3,a4⟩
   refine⟨b,ccs,ty,a1,a2,a3,fun i e k x hi hk=> ?_⟩
   obtain⟨y,hy,hc⟩:=a4 i e k x hi hk
   exact⟨y,hy,hc.pure_to (ZA1 (hp e (zA hi)) hk) hA⟩
  |_=>exact hle.elim
theorem ZFR {σ:ZE}:∀{j:Nat} {news:List (Nat×List (List AV))} {xs ys:List AV},ZDO σ j news xs ys->∀{i sz:Nat} {es:List (List AV)},news[i]? =some (sz,es)->
  ∃x,ZCH σ x sz es.length es/\ZBq (ZAV xs ys) i=ZHe x
 |j,[],xs,ys,h,i,sz,es,hi=>by simp at hi
 |j,p::news,[],[],h,i,sz,es,hi=>by simp[ZDO]at h
 |j,p::news,[],_::_,h,i,sz,es,hi=>by simp[ZDO]at h
 |j,p::news,_::_,[],h,i,sz,es,hi=>by simp[ZDO]at h
 |j,p::news,x::xs,y::ys,h,i,sz,es,hi=>by
  cases y with
  |own j' k=>
   simp only[ZDO]at h
   obtain⟨rfl,h2,h3⟩:=h
   cases i with
   |zero=>
    simp at hi;subst hi
    have hk:k=es.length:=by
     unfold ZCH at h2
     grind
    subst hk
    exact⟨x,h2,by simp[ZBq,ZAV]⟩
   |succ i=>
    obtain⟨x',q1,q2⟩:=ZFR (xs:=xs) (ys:=ys) h3 (i:=i) (by simpa using hi)
    exact⟨x',q1,by simpa[ZBq,ZAV]using q2⟩
  |_=>
   simp only[ZDO]at h
   obtain⟨x',q1,q2⟩:=ZFR (xs:=xs) (ys:=ys) h.2.2 hi
   exact⟨x',q1,by simpa[ZBq,ZAV]using q2⟩
theorem ZDY {σ:ZE}:∀{j:Nat} {news:List (Nat×List (List AV))} {xs ys:List AV},ZDO σ j news xs ys->xs.length=ys.length
 |j,news,[],[],h=>rfl
 |j,news,[],_::_,h=>by simp[ZDO]at h
 |j,news,_::_,[],h=>by simp[ZDO]at h
 |j,news,x::xs,y::ys,h=>by
  cases y with
  |own j' k=>
   cases news with
   |nil=>simp only[ZDO]at h;simp[ZDY (xs:=xs) (ys:=ys) h.2.2]
   |cons p news=>obtain⟨sz,es⟩:=p;simp only[ZDO]at h;simp[ZDY (xs:=xs) (ys:=ys) h.2.2]
  |_=>simp only[ZDO]at h;simp[ZDY (xs:=xs) (ys:=ys) h.2.2]
variable {σ:ZE}{x:AV}{es:List (List AV)}
theorem ZI7 (h:Sim B m σ w)(hA:∀x,Av m2 x->Av m x){sz:Nat}(hx:ZCH σ x sz es.length es)(hp:Zf es):
  BlkSim B m2 w (match ZHe x with|some l=>(m.f l).cut es.length|none=>.nil) (some (.elems sz es)):=by
 have key:∀l es0,σ[l]? =some (.elems sz es0)->es=es0.take es.length->BlkSim B m2 w ((m.f l).cut es.length) (some (.elems sz es)):=by
  intro l es0 hl he
  have hle:es.length<=es0.length:=by rw[he];simp;omega
  have hb:=h.blk l
  rw[hl]at hb
  obtain⟨h1,h2,h3⟩:=hb
  have hget:∀(i:Nat) (e:List AV),es[i]? =some e->es0[i]? =some e:=by grind
  refine⟨fun e he'=>h1 e (by rw[he]at he';exact List.mem_of_mem_take he'),by omega,?_⟩
  rcases h3 with⟨q,rfl⟩|⟨b,ccs,ty,a1,a2,a3,a4⟩
  ·rw[q];exact .inl ⟨rfl,by rw[he];simp⟩
  ·rw[a1]
   refine .inr ⟨b,ccs,ty,rfl,a2,Nat.le_trans (Nat.mul_le_mul_right _ hle) a3,fun i e k x hi hk=> ?_⟩
   obtain⟨y,hy,hc⟩:=a4 i e k x (hget i e hi) hk
   exact⟨y,hy,hc.pure_to (ZA1 (hp e (zA hi)) hk) hA⟩
 unfold ZCH at hx
 split at hx
 ·exact key _ es hx.2.2 (by simp)
 ·obtain⟨_,_,es0,g1,g2,g3,_⟩:=hx;exact key _ es0 g1 g3
 ·obtain⟨_,_,rfl⟩:=hx;exact⟨by simp,by simp,.inl ⟨rfl,rfl⟩⟩
 ·exact hx.elim
theorem ZMQ {i:Nat}:(ZLq news)[i]? =(news[i]?).map fun p=>.elems p.1 p.2:=by simp[ZLq]
theorem ZHH (h:Sim B m σ w){W:Nat->Prop}{j sz:Nat}{u:Value}(hx:ZCH σ x sz es.length es)(hc:Conc B (Av m) w m x u)(hj:j<m2.n)(hf:m2.f j=(match ZHe x with|some l=>(m.f l).cut es.length|none=>.nil)):Conc B W w m2 (.own j es.length) u:=by
 unfold ZCH at hx
 split at hx
 ·next l n=>
  obtain⟨rfl,_,hl⟩:=hx
  have hb:=h.blk l
  rw[hl]at hb
  obtain⟨_,_,h3⟩:=hb
  simp only[ZHe]at hf
  generalize hn:es.length=n at hc hf h3 ⊢
  cases hc with
  |ownOther _ _ a cap hlt hh hcap=>
   exfalso
   rcases h3 with⟨q,rfl⟩|⟨b,ccs,ty,q,_⟩
   ·have:=hh 0 (by rw[q];rfl);omega
   ·have:=hh n (by rw[q];rfl);omega
  |ownNil _ a hlt hh=>exact .ownNil j a hj (by rw[hf,hh];rfl)
  |ownArr _ b sz' _ cap ccs ty hlt hh hh2 hcap hlen hz=>exact .ownArr j b sz' n cap ccs ty hj (by rw[hf,hh];rfl) hh2 hcap hlen hz
 ·next l n k=>
  obtain⟨rfl,hkn,es0,hl,hn,_,h0k⟩:=hx
  have hb:=h.blk l
  rw[hl]at hb
  obtain⟨_,_,h3⟩:=hb
  simp only[ZHe]at hf
  generalize hk:es.length=k at hc hf hkn ⊢
  cases hc with
  |preOther _ _ _ v hlt hh=>
   exfalso
   rcases h3 with⟨q,rfl⟩|⟨b,ccs,ty,q,_⟩
   ·grind
   ·have:=hh es0.length (by rw[q];rfl);omega
  |preNil _ a hlt hh=>exact .ownNil j a hj (by rw[hf,hh];rfl)
  |preArr _ b sz' _ _ cap ccs ty hlt hh hk' hh2 hcap hlen=>exact .ownArr j b sz' k cap ccs ty hj (by rw[hf,hh];rfl) hh2 hcap (by omega) (fun h=>by omega)
 ·obtain⟨rfl,_,rfl⟩:=hx
  rw[Conc.lit_inv hc]
  exact .ownNil j none hj hf
 ·exact hx.elim
theorem ZDo {m:Map}{σ:ZE}{w:World}(h:Sim B m σ w){m2:Map}(hA:∀x,Av m2 x->Av m x):∀{j:Nat} {news:List (Nat×List (List AV))} {xs ys:List AV},ZDO σ j news xs ys->
  (∀i sz es,news[i]? =some (sz,es)->j+i<m2.n/\m2.f (j+i)=(match ZBq (ZAV xs ys) i with|some l=>(m.f l).cut es.length|none=>.nil))->∀us:Nat->Value,(∀i x,xs[i]? =some x->Conc B (Av m) w m x (us i))->
  xs.length=ys.length/\∀i y,ys[i]? =some y->Conc B (Av m2) w m2 y (us i)
 |j,news,[],[],h1,hf,us,hc=>⟨rfl,fun i y hi=>by simp at hi⟩
 |j,news,[],_::_,h1,hf,us,hc=>by simp[ZDO]at h1
 |j,news,_::_,[],h1,hf,us,hc=>by simp[ZDO]at h1
 |j,news,x::xs,y::ys,h1,hf,us,hc=>by
  have gen:x.le y->y.pure->ZDO σ j news xs ys->(∀i,ZBq (ZAV (x::xs) (y::ys)) i=ZBq (ZAV xs ys) i)->(x::xs).length=(y::ys).length/\∀i y',(y::ys)[i]? =some y'->Conc B (Av m2) w m2 y' (us i):=by
   intro a1 a2 a3 a4
   obtain⟨b1,b2⟩:=ZDo h hA a3 (fun i sz es hi=>by have:=hf i sz es hi;rwa[a4]at this) (fun i=>us (i+1)) (fun i z hi=>hc (i+1) z (by simpa using hi))
   refine⟨by simp[b1],fun i z hi=> ?_⟩
   cases i with
   |zero=>simp at hi;subst hi;exact((hc 0 x (by simp)).le a1).pure_to a2 hA
   |succ i=>exact b2 i z (by simpa using hi)
  cases y with
  |own j' k=>
   cases news with
   |nil=>simp only[ZDO]at h1;exact(by simpa[AV.pure]using h1.2.1:False).elim
   |cons p news=>
    obtain⟨sz,es⟩:=p
    simp only[ZDO]at h1
    obtain⟨rfl,h2,h3⟩:=h1
    obtain⟨b1,b2⟩:=ZDo h hA h3 (fun i sz' es' hi=>by
     have:=hf (i+1) sz' es' (by simpa using hi)
     simpa[ZBq,ZAV,Nat.add_assoc,Nat.add_comm,Nat.add_left_comm]using this) (fun i=>us (i+1)) (fun i z hi=>hc (i+1) z (by simpa using hi))
    refine⟨by simp[b1],fun i z hi=> ?_⟩
    cases i with
    |zero=>
     simp at hi;subst hi
     obtain⟨q1,q2⟩:=hf 0 sz es (by simp)
     have hk:k=es.length:=by
      unfold ZCH at h2
      grind
     subst hk
     exact ZHH h h2 (hc 0 x (by simp)) q1 (by simpa[ZBq,ZAV]using q2)
    |succ i=>exact b2 i z (by simpa using hi)
  |_=>
   simp only[ZDO]at h1
   exact gen h1.1 h1.2.1 h1.2.2 (fun i=>rfl)
def ZDr :List (Nat×List (List AV))->Prop
 | []=>True
 |p::r=>Zf p.2/\ZDr r
theorem ZDq :∀{news:List (Nat×List (List AV))} {i sz:Nat} {es:List (List AV)},ZDr news->news[i]? =some (sz,es)->Zf es
 |p::r,0,sz,es,h,hi=>by simp at hi;subst hi;exact h.1
 |p::r,i+1,sz,es,h,hi=>ZDq (news:=r) h.2 (by simpa using hi)
variable {xs ys:List AV}
theorem Sim.own (h:Sim B m σ w){τ1:ZE}(hst:ZEH σ τ1)(hp1:ZE4 τ1)(hP:ZDO σ τ1.length news xs ys)(hl:lnd τ1.length (ZAV xs ys))(hn:ZDr news):
  Sim B (m.own τ1.length (ZAV xs ys) news) (τ1++ZLq news) w:=by
 have fnew:∀i sz es,news[i]? =some (sz,es)->(m.own τ1.length (ZAV xs ys) news).f (τ1.length+i)=(match ZBq (ZAV xs ys) i with|some l=>(m.f l).cut es.length|none=>.nil):=by
  intro i sz es hi
  have hil:i<news.length:=(zD.1 hi).1
  have hd:news.getD i (0,[])=(sz,es):=by rw[zC,hi];rfl
  simp only[Map.own]
  grind
 refine⟨by simp[Map.own,ZLq],fun i=> ?_,fun i i' b h1 h2=> ?_,fun b hb=>h.sep b (Map.own_wr hb),h.avlt,h.tb.sub fun b hb=>Map.own_wr hb⟩
 ·by_cases hi:i<τ1.length
  ·rw[List.getElem?_append_left hi,zB hi]
   obtain⟨b,hb,hle⟩:=ZF0 hst (zB hi)
   have hbs:=h.blk i
   rw[hb]at hbs
   have e:(m.own τ1.length (ZAV xs ys) news).f i=m.f i:=by simp[Map.own,hi]
   rw[e]
   exact BlkSim.leP hbs hle (ZC4 hp1 (zB hi)) fun b hb=>Map.own_av hb
  ·obtain⟨k,rfl⟩:∃k,i=τ1.length+k:=⟨i-τ1.length,by omega⟩
   rw[List.getElem?_append_right (by omega),Nat.add_sub_cancel_left,ZMQ]
   cases hk:news[k]? with
   |none=>
    have hk':news.length<=k:=List.getElem?_eq_none_iff.1 hk
    have e:(m.own τ1.length (ZAV xs ys) news).f (τ1.length+k)=.dead:=by simp only[Map.own];rw[iN (by omega),iN (by omega)]
    rw[e];rfl
   |some p=>
    obtain⟨sz,es⟩:=p
    obtain⟨x,q1,q2⟩:=ZFR hP hk
    rw[fnew k sz es hk,q2]
    exact ZI7 h (fun b hb=>Map.own_av hb) q1 (ZDq hn hk)
 ·rcases Map.own_src h1 with⟨a1,a2⟩|⟨l,a1,a2,a3⟩<;>rcases Map.own_src h2 with⟨b1,b2⟩|⟨l',b1,b2,b3⟩
  ·exact h.inj _ _ _ a2 b2
  ·have:=h.inj _ _ _ a2 b3
   have:=ZFW hl (ZCY b2)
   omega
  ·have:=h.inj _ _ _ b2 a3
   have:=ZFW hl (ZCY a2)
   omega
  ·have e:=h.inj _ _ _ a3 b3
   subst e
   have:=ZHf hl (ZCY a2) (ZCY b2)
   omega
def ZJ6 (σ:ZE):List AV->List AV->(List AV->ZE->Prop)->Prop
 | [],xs,K=>K xs σ
 |_::_,[],K=>K [] σ
 |y::ys,x::xs,K=>match y with
  | .own _ _=>ZJ6 σ ys xs fun xs' σ'=>K (x::xs') σ'
  |_=>ZHo σ x fun x' σ'=>ZJ6 σ' ys xs fun xs' σ''=>K (x'::xs') σ''
variable {K:List AV->ZE->Prop}
theorem ZJl {k:Box K}:ZJ6 σ [] xs (hold K k)=K xs σ:=rfl
theorem ZHw {y:AV}{k:Box K}:ZJ6 σ (y::ys) (x::xs) (hold K k)=(match y with
  | .own _ _=>ZJ6 σ ys xs (hold (fun xs' σ'=>K (x::xs') σ') .mk)
  |_=>ZHo σ x (hold (fun x' σ'=>ZJ6 σ' ys xs (hold (fun xs' σ''=>K (x'::xs') σ'') .mk)) .mk)):=by cases y<;>rfl
theorem ZO3 {K:AV->ZE->Prop}(h:ZHo σ x K):∃x' σ',K x' σ':=by
 unfold ZHo at h
 split at h
 ·obtain⟨r,s,h,_⟩:=ZEi _ σ _ h;exact⟨_,_,h⟩
 ·grind
 ·exact⟨_,_,h⟩
theorem ZFb :∀{ys xs:List AV} {σ:ZE} {K:List AV->ZE->Prop},ZJ6 σ ys xs K->∃xs' σ',K xs' σ'/\xs'.length=xs.length
 | [],xs,σ,K,h=>⟨xs,σ,h,rfl⟩
 |y::ys,[],σ,K,h=>⟨[],σ,h,rfl⟩
 |y::ys,x::xs,σ,K,h=>by
  have gen:ZHo σ x (fun x' σ'=>ZJ6 σ' ys xs fun xs' σ''=>K (x'::xs') σ'')->∃xs' σ',K xs' σ'/\xs'.length=(x::xs).length:=by
   intro h
   obtain⟨x',σ',h⟩:=ZO3 h
   obtain⟨xs',σ2,h1,h2⟩:=ZFb h
   grind
  cases y with
  |own l n=>
   obtain⟨xs',σ2,h1,h2⟩:=ZFb (ys:=ys) (xs:=xs) h
   grind
  |_=>exact gen h
theorem ZCx {w:World}:∀{ys xs:List AV} {σ:ZE} {m:Map} {K:List AV->ZE->Prop},Sim B m σ w->ZJ6 σ ys xs K->∀us:Nat->Value,(∀i x,xs[i]? =some x->Conc B (Av m) w m x (us i))->
  ∃xs' σ' m',K xs' σ'/\Sim B m' σ' w/\Fr m w m' w/\∀i x,xs'[i]? =some x->Conc B (Av m') w m' x (us i)
 | [],xs,σ,m,K,h,hk,us,hc=>⟨xs,σ,m,hk,h,Fr.refl m w,hc⟩
 |y::ys,[],σ,m,K,h,hk,us,hc=>⟨[],σ,m,hk,h,Fr.refl m w,hc⟩
 |y::ys,x::xs,σ,m,K,h,hk,us,hc=>by
  have gen:ZHo σ x (fun x' σ'=>ZJ6 σ' ys xs fun xs' σ''=>K (x'::xs') σ'')->∃xs' σ' m',K xs' σ'/\Sim B m' σ' w/\Fr m w m' w/\∀i x,xs'[i]? =some x->Conc B (Av m') w m' x (us i):=by
   intro hk
   obtain⟨x',σ1,m1,hk1,hs1,hf1,hc1⟩:=ZCz h hk (hc 0 x (by simp))
   obtain⟨xs',σ2,m2,hk2,hs2,hf2,hc2⟩:=ZCx hs1 hk1 (fun i=>us (i+1)) (fun i z hi=>(hc (i+1) z (by simpa using hi)).mono hf1)
   refine⟨x'::xs',σ2,m2,hk2,hs2,hf1.trans hf2 h.mapOk,fun i z hi=> ?_⟩
   cases i with
   |zero=>simp at hi;subst hi;exact hc1.mono hf2
   |succ i=>exact hc2 i z (by simpa using hi)
  cases y with
  |own l n=>
   obtain⟨xs',σ2,m2,hk2,hs2,hf2,hc2⟩:=ZCx (ys:=ys) (xs:=xs) h hk (fun i=>us (i+1)) (fun i z hi=>hc (i+1) z (by simpa using hi))
   refine⟨x::xs',σ2,m2,hk2,hs2,hf2,fun i z hi=> ?_⟩
   cases i with
   |zero=>simp at hi;subst hi;exact(hc 0 _ (by simp)).mono hf2
   |succ i=>exact hc2 i z (by simpa using hi)
  |_=>exact gen hk
theorem BCall.enterS {f:FuncId}{fn:Func}{c:Code}{τ τ1:ZE}{args:List AV}{n:Nat}{st0:ASt}(hf:P.funcs[f]? =some fn)(hn:(fn.name== "runtime.NumGoroutine")=false)(hb:fn.body=some c)(hN:fn.ntmps=N)(hargs:args.length<=N)(hτ:τ.length=n)(hτ1:τ1.length=n)(h1:Zn τ.length τ)(h2:AV.closed.closeds τ.length args)(h3:(pack ys).closed (τ1++ZLq news).length)(h4:Zn (τ1++ZLq news).length (τ1++ZLq news))(hp1:ZE4 τ1)(hp2:ZDr news)(hg:Gh B n N ⟨ZBr 0 args,τ⟩ st0)(h:awp P B n N c st0 (hold (ZJ2 P fn (hold (fun r' σ'=>ZJ6 σ' ys (unp ys r') (hold (fun xs' σ'=>ZEH σ' τ1/\ZDO σ' n news xs' ys/\lnd n (ZAV xs' ys)) .mk)) .mk)) .mk)):BCall P B f τ args (pack ys) (τ1++ZLq news):=by
 refine⟨⟨fn,hf,hn,by rw[hb];rfl⟩,h1,h2,h3,h4,by simp;omega,fun m w vs hs hv=>calls_of_wp hf hb ?_⟩
 subst hN hτ
 have hsim0:ASim B τ.length fn.ntmps m w ⟨ZBr 0 args,τ⟩ m ⟨vs++Array.replicate (fn.ntmps-vs.size) undef,[]⟩ w:=
  ⟨hs,ZAW hv hargs,rfl,Fr.refl m w,hs.n,hs.mapOk⟩
 obtain⟨m1,hsim1⟩:=hg _ _ _ _ _ hsim0
 refine wp_mono (Zi c _ _ h m w m1 _ w hsim1) ?_
 rintro e a' w' ⟨st',m',hq,hs'⟩
 have fin:∀(hq:ZDd P st'.σ st'.fr fn.results.toList fun xs=>ZJ6 st'.σ ys (unp ys (pack xs)) fun xs' σ'=>ZEH σ' τ1/\ZDO σ' τ.length news xs' ys/\lnd τ.length (ZAV xs' ys)),
   a'.defers=[]/\∃v,(results fn a'.tmps).run P w'=.ok v w'/\∃u m'' σ',Ending.returned v=.returned u/\ZEH σ' (τ1++ZLq news)/\Sim B m'' σ' w'/\Conc B (Av m'') w' m'' (pack ys) u/\Fr m w m'' w':=by
  intro hq
  obtain⟨xs,u,hY,hrun,hc⟩:=Zd hs' hq
  obtain⟨us,husc,husb⟩:∃us:Nat->Value,(∀i x',(unp ys (pack xs))[i]? =some x'->Conc B (Av m') w' m' x' (us i))/\((ys.length≠1/\(unp ys (pack xs)).length=1)∨∀W m2,(∀i y,ys[i]? =some y->Conc B W w' m2 y (us i))->((unp ys (pack xs)).length=ys.length)->Conc B W w' m2 (pack ys) u):=by
   generalize pack xs=x at hc
   match ys with
   | [y]=>
    refine⟨fun _=>u,fun i x' hi=> ?_,.inr fun W m2 hzc _=>hzc 0 y (by simp)⟩
    cases i with
    |zero=>simp[unp]at hi;subst hi;exact hc
    |succ i=>simp[unp]at hi
   | []=>
    cases x with
    |tup cs=>cases hc with|tup _ us hlen hcc=>exact⟨fun i=>us.getD i undef,hcc,.inr fun W m2 hzc hl=>.tup [] us (hlen.trans hl) hzc⟩
    |_=>exact⟨fun _=>undef,fun i x' hi=>by cases i with
      |zero=>simp[unp]at hi;subst hi;exact .junk _
      |succ i=>simp[unp]at hi,.inl ⟨by simp,by simp[unp]⟩⟩
   |a::b::r=>
    cases x with
    |tup cs=>cases hc with|tup _ us hlen hcc=>exact⟨fun i=>us.getD i undef,hcc,.inr fun W m2 hzc hl=>.tup (a::b::r) us (hlen.trans hl) hzc⟩
    |_=>exact⟨fun _=>undef,fun i x' hi=>by cases i with
      |zero=>simp[unp]at hi;subst hi;exact .junk _
      |succ i=>simp[unp]at hi,.inl ⟨by simp,by simp[unp]⟩⟩
  obtain⟨xs',σ1,m1,⟨k1,k2,k3⟩,hs1,hf1,hc1⟩:=ZCx hs'.sim hY us husc
  rw[←hτ1]at k2 k3
  have hS:=hs1.own k1 hp1 k2 k3 hp2
  have hfr:=hs'.step.trans hf1 hs.mapOk
  have fnew:∀i sz es,news[i]? =some (sz,es)->τ1.length+i<(m1.own τ1.length (ZAV xs' ys) news).n/\(m1.own τ1.length (ZAV xs' ys) news).f (τ1.length+i)=(match ZBq (ZAV xs' ys) i with|some l=>(m1.f l).cut es.length|none=>.nil):=by
   intro i sz es hi
   have hil:i<news.length:=(zD.1 hi).1
   have hd:news.getD i (0,[])=(sz,es):=by rw[zC,hi];rfl
   refine⟨by simp[Map.own];omega,?_⟩
   simp only[Map.own]
   grind
  refine⟨hs'.df,u,hrun,u,_,_,rfl,ZCI _,hS,?_,⟨hfr.size,hfr.keep,fun b ccs ty h1 h2 h3=>hfr.phys b ccs ty h1 (Map.own_wr h2) h3,fun b hb=>hfr.fresh b (Map.own_wr hb),fun l hl=> ?_,?_,hfr.av,hfr.tape,hfr.os,hfr.output⟩⟩
  ·obtain⟨b1,b2⟩:=ZDo hs1 (fun b hb=>Map.own_av hb) k2 fnew us hc1
   obtain⟨xs2,σ2,⟨_,g2,_⟩,g4⟩:=ZFb hY
   have g5:=ZDY g2
   grind
  ·have hl':l<τ1.length:=by rw[hτ1,←hs.n];exact hl
   have e:(m1.own τ1.length (ZAV xs' ys) news).f l=m1.f l:=by simp[Map.own,hl']
   rw[e];exact hfr.ids l hl
  ·have:=hs.n
   simp[Map.own];omega
 cases e with
 |normal=>exact fin hq
 |ret=>exact fin hq
 |_=>exact hq.elim
attribute [simp] ZJl ZHw ZCH ZDO ZAV lnd unp ZLq ZDr ZE4 ZHe
end Go.Vl
