/- A part of the proof. -/
import Derived.Test.YtinfmpljhapfgaaGreatDoorVlBor
set_option linter.all false
namespace Go.Vl
open Go
variable {P : Program} {B nb N : Nat}
def MS.cut (k:Nat):MS->MS
 | .arr b sz _=>.arr b sz k
 |s=>s
theorem MS.cut_has {k:Nat}{s:MS}{b:Nat}:(s.cut k).has b↔s.has b:=by cases s<;>rfl
def ZKl :AV->Option Nat
 | .own l _=>some l
 | .pre l _ _=>some l
 |_=>none
def ZDx (σ:ZA)(x:AV)(sz k:Nat)(es:List (List AV)):Prop:=
 match x with
 | .own l n=>n=k/\es.length=k/\σ[l]? =some (.elems sz es)
 | .pre l n j=>j=k/\k<=n/\∃es0,σ[l]? =some (.elems sz es0)/\es0.length=n/\es=es0.take k/\0<k
 | .lit v=>v=.slice none 0 0/\k=0/\es=[]
 |_=>False
def ownP (σ:ZA):Nat->List (Nat×List (List AV))->List AV->List AV->Prop
 |_,[],[],[]=>True
 |j,news,x::xs,y::ys=>match y,news with
  | .own j' k,(sz,es)::news=>j'=j/\ZDx σ x sz k es/\ownP σ (j+1) news xs ys
  |y,news=>x.le y/\y.pure/\ownP σ j news xs ys
 |_,_,_,_=>False
def ZCW :List AV->List AV->List (Option Nat)
 |x::xs,.own _ _::ys=>ZKl x::ZCW xs ys
 |_::xs,_::ys=>ZCW xs ys
 |_,_=>[]
def lnd (t:Nat):List (Option Nat)->Prop
 | []=>True
 |none::r=>lnd t r
 |some l::r=>t<=l/\(∀o,o∈r->o≠some l)/\lnd t r
def unp :List AV->AV->List AV
 | [_],x=>[x]
 |_,.tup xs=>xs
 |_,_=>[.junk]
def ZOb (news:List (Nat×List (List AV))):ZA:=news.map fun p=>.elems p.1 p.2
def ZDn (ls:List (Option Nat))(i:Nat):Option Nat:=(ls[i]?).bind id
def Map.own (m:Map)(t:Nat)(ls:List (Option Nat))(news:List (Nat×List (List AV))):Map:=
 {m with f:=fun i=>if i<t then m.f i else if i<t+news.length then(match ZDn ls (i-t)with|some l=>(m.f l).cut ((news.getD (i-t) (0,[])).2.length)|none=>.nil)else .dead,n:=t+news.length}
theorem ZEk {t:Nat}:∀{ls:List (Option Nat)} {i l:Nat},lnd t ls->ls[i]? =some (some l)->t<=l
 |none::r,0,l,h,hi=>by simp at hi
 |none::r,i+1,l,h,hi=>ZEk (ls:=r) h (by simpa using hi)
 |some k::r,0,l,h,hi=>by simp at hi;subst hi;exact h.1
 |some k::r,i+1,l,h,hi=>ZEk (ls:=r) h.2.2 (by simpa using hi)
theorem ZGV {t:Nat}:∀{ls:List (Option Nat)} {i j l:Nat},lnd t ls->ls[i]? =some (some l)->ls[j]? =some (some l)->i=j
 | [],i,j,l,h,hi,hj=>by simp at hi
 |none::r,0,j,l,h,hi,hj=>by simp at hi
 |none::r,i+1,0,l,h,hi,hj=>by simp at hj
 |none::r,i+1,j+1,l,h,hi,hj=>congrArg (· +1) (ZGV (l:=l) (ls:=r) h (by simpa using hi) (by simpa using hj))
 |some k::r,0,0,l,h,hi,hj=>rfl
 |some k::r,0,j+1,l,h,hi,hj=>by
  simp at hi;subst hi
  exact absurd rfl (h.2.1 _ (List.mem_of_getElem? (by simpa using hj)))
 |some k::r,i+1,0,l,h,hi,hj=>by
  simp at hj;subst hj
  exact absurd rfl (h.2.1 _ (List.mem_of_getElem? (by simpa using hi)))
 |some k::r,i+1,j+1,l,h,hi,hj=>congrArg (· +1) (ZGV (l:=l) (ls:=r) h.2.2 (by simpa using hi) (by simpa using hj))
theorem ZCB {ls:List (Option Nat)}{i l:Nat}(h:ZDn ls i=some l):ls[i]? =some (some l):=by
 unfold ZDn at h
 cases e:ls[i]? with
 |none=>rw[e]at h;cases h
 |some o=>rw[e]at h;simp at h;rw[h]
theorem Map.own_src {m:Map}{t:Nat}{ls:List (Option Nat)}{news:List (Nat×List (List AV))}{i b:Nat}(h:((m.own t ls news).f i).has b):(i<t/\(m.f i).has b)∨∃l,t<=i/\ZDn ls (i-t)=some l/\(m.f l).has b:=by
 simp only[Map.own]at h
 split at h
 ·next hi=>exact .inl ⟨hi,h⟩
 ·next hi=>
  split at h
  ·cases e:ZDn ls (i-t)with
   |none=>rw[e]at h;exact h.elim
   |some l=>rw[e]at h;exact .inr ⟨l,by omega,rfl,MS.cut_has.1 h⟩
  ·exact h.elim
theorem Map.own_wr {m:Map}{t:Nat}{ls:List (Option Nat)}{news:List (Nat×List (List AV))}{b:Nat}(h:Wr (m.own t ls news) b):Wr m b:=by
 obtain⟨i,hi⟩:=h
 rcases Map.own_src hi with⟨_,h⟩|⟨l,_,_,h⟩
 ·exact⟨i,h⟩
 ·exact⟨l,h⟩
theorem Map.own_av {m:Map}{t:Nat}{ls:List (Option Nat)}{news:List (Nat×List (List AV))}{b:Nat}(h:Av (m.own t ls news) b):Av m b:=h.elim (fun h=>.inl (Map.own_wr h)) .inr
def ZFt :ZA->Prop
 | []=>True
 | .elems _ es::r=>Zg es/\ZFt r
 | .cells cs::r=>AV.pure.pures cs/\ZFt r
 |_::_=>False
theorem ZCf :∀{τ:ZA} {i:Nat} {b:Blk},ZFt τ->τ[i]? =some b->(∃cs,b=.cells cs/\AV.pure.pures cs)∨∃sz es,b=.elems sz es/\Zg es
 | .elems sz es::r,0,b,h,hi=>by simp at hi;exact .inr ⟨sz,es,hi.symm,h.1⟩
 | .cells cs::r,0,b,h,hi=>by simp at hi;exact .inl ⟨cs,hi.symm,h.1⟩
 | .elems sz es::r,i+1,b,h,hi=>ZCf (τ:=r) h.2 (by simpa using hi)
 | .cells cs::r,i+1,b,h,hi=>ZCf (τ:=r) h.2 (by simpa using hi)
theorem ZE7 :∀{σ τ:ZA} {i:Nat} {c:Blk},ZHo σ τ->τ[i]? =some c->∃b,σ[i]? =some b/\b.le c
 |b::r,c::s,0,d,h,hi=>by simp at hi;subst hi;exact⟨b,rfl,h.1⟩
 |b::r,c::s,i+1,d,h,hi=>by simpa using ZE7 (σ:=r) (τ:=s) h.2 (by simpa using hi)
 |_,[],i,d,h,hi=>by simp at hi
 | [],_::_,i,d,h,hi=>h.elim
theorem ZBU :∀{xs:List AV} {k:Nat} {x:AV},AV.pure.pures xs->xs[k]? =some x->x.pure
 |y::r,0,x,h,hk=>by simp at hk;subst hk;exact h.1
 |y::r,k+1,x,h,hk=>ZBU h.2 (by simpa using hk)
theorem BlkSim.leP {m m2:Map}{w:World}{s:MS}{b c:Blk}(h:BlkSim B m w s (some b))(hle:b.le c)(hp:(∃cs,c=.cells cs/\AV.pure.pures cs)∨∃sz es,c=.elems sz es/\Zg es)(hA:∀x,Av m2 x->Av m x):BlkSim B m2 w s (some c):=by
 rcases hp with⟨cs,rfl,hp⟩|⟨sz,es,rfl,hp⟩
 ·cases b with
  |cells ds=>
   obtain⟨b,ccs,ty,a1,a2,a3,a4⟩:=h
   have hl:=ZAm hle
   refine⟨b,ccs,ty,a1,a2,by omega,fun i x hi=> ?_⟩
   obtain⟨x0,hx0,hx1⟩:=ZAn hle hi
   obtain⟨y,hy,hc⟩:=a4 i x0 hx0
   exact⟨y,hy,(hc.le hx1).pure_to (ZBU hp hi) hA⟩
  |_=>exact hle.elim
 ·cases b with
  |elems sz' es'=>
   obtain⟨rfl,rfl⟩:=hle
   obtain⟨h1,h2,h3⟩:=h
   refine⟨h1,h2,h3.imp id ?_⟩
   rintro⟨b,ccs,ty,a1,a2,a3,a4⟩
   refine⟨b,ccs,ty,a1,a2,a3,fun i e k x hi hk=> ?_⟩
   obtain⟨y,hy,hc⟩:=a4 i e k x hi hk
   exact⟨y,hy,hc.pure_to (ZBU (hp e (List.mem_of_getElem? hi)) hk) hA⟩
  |_=>exact hle.elim
theorem ZEf {σ:ZA}:∀{j:Nat} {news:List (Nat×List (List AV))} {xs ys:List AV},ownP σ j news xs ys->∀{i sz:Nat} {es:List (List AV)},news[i]? =some (sz,es)->
  ∃x,ZDx σ x sz es.length es/\ZDn (ZCW xs ys) i=ZKl x
 |j,[],xs,ys,h,i,sz,es,hi=>by simp at hi
 |j,p::news,[],[],h,i,sz,es,hi=>by simp[ownP]at h
 |j,p::news,[],_::_,h,i,sz,es,hi=>by simp[ownP]at h
 |j,p::news,_::_,[],h,i,sz,es,hi=>by simp[ownP]at h
 |j,p::news,x::xs,y::ys,h,i,sz,es,hi=>by
  cases y with
  |own j' k=>
   simp only[ownP]at h
   obtain⟨rfl,h2,h3⟩:=h
   cases i with
   |zero=>
    simp at hi;subst hi
    have hk:k=es.length:=by
     unfold ZDx at h2
     split at h2
     ·exact h2.2.1.symm
     ·obtain⟨_,h5,es0,_,h6,rfl,_⟩:=h2;simp;omega
     ·obtain⟨_,rfl,rfl⟩:=h2;rfl
     ·exact h2.elim
    subst hk
    exact⟨x,h2,by simp[ZDn,ZCW]⟩
   |succ i=>
    obtain⟨x',q1,q2⟩:=ZEf (xs:=xs) (ys:=ys) h3 (i:=i) (by simpa using hi)
    exact⟨x',q1,by simpa[ZDn,ZCW]using q2⟩
  |_=>
   simp only[ownP]at h
   obtain⟨x',q1,q2⟩:=ZEf (xs:=xs) (ys:=ys) h.2.2 hi
   exact⟨x',q1,by simpa[ZDn,ZCW]using q2⟩
theorem ZHn {m:Map}{σ:ZA}{w:World}(h:Sim B m σ w){m2:Map}(hA:∀x,Av m2 x->Av m x){x:AV}{sz:Nat}{es:List (List AV)}(hx:ZDx σ x sz es.length es)(hp:Zg es):
  BlkSim B m2 w (match ZKl x with|some l=>(m.f l).cut es.length|none=>.nil) (some (.elems sz es)):=by
 have key:∀l es0,σ[l]? =some (.elems sz es0)->es=es0.take es.length->BlkSim B m2 w ((m.f l).cut es.length) (some (.elems sz es)):=by
  intro l es0 hl he
  have hle:es.length<=es0.length:=by rw[he];simp;omega
  have hb:=h.blk l
  rw[hl]at hb
  obtain⟨h1,h2,h3⟩:=hb
  have hget:∀(i:Nat) (e:List AV),es[i]? =some e->es0[i]? =some e:=by
   intro i e hi
   rw[he,List.getElem?_take]at hi
   split at hi
   ·exact hi
   ·cases hi
  refine⟨fun e he'=>h1 e (by rw[he]at he';exact List.mem_of_mem_take he'),by omega,?_⟩
  rcases h3 with⟨q,rfl⟩|⟨b,ccs,ty,a1,a2,a3,a4⟩
  ·rw[q];exact .inl ⟨rfl,by rw[he];simp⟩
  ·rw[a1]
   refine .inr ⟨b,ccs,ty,rfl,a2,Nat.le_trans (Nat.mul_le_mul_right _ hle) a3,fun i e k x hi hk=> ?_⟩
   obtain⟨y,hy,hc⟩:=a4 i e k x (hget i e hi) hk
   exact⟨y,hy,hc.pure_to (ZBU (hp e (List.mem_of_getElem? hi)) hk) hA⟩
 unfold ZDx at hx
 split at hx
 ·exact key _ es hx.2.2 (by simp)
 ·obtain⟨_,_,es0,g1,g2,g3,_⟩:=hx;exact key _ es0 g1 g3
 ·obtain⟨_,_,rfl⟩:=hx;exact⟨by simp,by simp,.inl ⟨rfl,rfl⟩⟩
 ·exact hx.elim
theorem ZKi {news:List (Nat×List (List AV))}{i:Nat}:(ZOb news)[i]? =(news[i]?).map fun p=>.elems p.1 p.2:=by simp[ZOb]
def ZEi :List (Nat×List (List AV))->Prop
 | []=>True
 |p::r=>Zg p.2/\ZEi r
theorem ZDK :∀{news:List (Nat×List (List AV))} {i sz:Nat} {es:List (List AV)},ZEi news->news[i]? =some (sz,es)->Zg es
 |p::r,0,sz,es,h,hi=>by simp at hi;subst hi;exact h.1
 |p::r,i+1,sz,es,h,hi=>ZDK (news:=r) h.2 (by simpa using hi)
theorem Sim.own {m:Map}{σ:ZA}{w:World}(h:Sim B m σ w){τ1:ZA}{news:List (Nat×List (List AV))}{xs ys:List AV}(hst:ZHo σ τ1)(hp1:ZFt τ1)(hP:ownP σ τ1.length news xs ys)(hl:lnd τ1.length (ZCW xs ys))(hn:ZEi news):
  Sim B (m.own τ1.length (ZCW xs ys) news) (τ1++ZOb news) w:=by
 have fnew:∀i sz es,news[i]? =some (sz,es)->(m.own τ1.length (ZCW xs ys) news).f (τ1.length+i)=(match ZDn (ZCW xs ys) i with|some l=>(m.f l).cut es.length|none=>.nil):=by
  intro i sz es hi
  have hil:i<news.length:=(List.getElem?_eq_some_iff.1 hi).1
  have hd:news.getD i (0,[])=(sz,es):=by rw[List.getD_eq_getElem?_getD,hi];rfl
  simp only[Map.own]
  rw[if_neg (by omega),if_pos (by omega),Nat.add_sub_cancel_left,hd]
 refine⟨by simp[Map.own,ZOb],fun i=> ?_,fun i i' b h1 h2=> ?_,fun b hb=>h.sep b (Map.own_wr hb),h.avlt⟩
 ·by_cases hi:i<τ1.length
  ·rw[List.getElem?_append_left hi,List.getElem?_eq_getElem hi]
   obtain⟨b,hb,hle⟩:=ZE7 hst (List.getElem?_eq_getElem hi)
   have hbs:=h.blk i
   rw[hb]at hbs
   have e:(m.own τ1.length (ZCW xs ys) news).f i=m.f i:=by simp[Map.own,hi]
   rw[e]
   exact BlkSim.leP hbs hle (ZCf hp1 (List.getElem?_eq_getElem hi)) fun b hb=>Map.own_av hb
  ·obtain⟨k,rfl⟩:∃k,i=τ1.length+k:=⟨i-τ1.length,by omega⟩
   rw[List.getElem?_append_right (by omega),Nat.add_sub_cancel_left,ZKi]
   cases hk:news[k]? with
   |none=>
    have hk':news.length<=k:=List.getElem?_eq_none_iff.1 hk
    have e:(m.own τ1.length (ZCW xs ys) news).f (τ1.length+k)=.dead:=by simp only[Map.own];rw[if_neg (by omega),if_neg (by omega)]
    rw[e];rfl
   |some p=>
    obtain⟨sz,es⟩:=p
    obtain⟨x,q1,q2⟩:=ZEf hP hk
    rw[fnew k sz es hk,q2]
    exact ZHn h (fun b hb=>Map.own_av hb) q1 (ZDK hn hk)
 ·rcases Map.own_src h1 with⟨a1,a2⟩|⟨l,a1,a2,a3⟩<;>rcases Map.own_src h2 with⟨b1,b2⟩|⟨l',b1,b2,b3⟩
  ·exact h.inj _ _ _ a2 b2
  ·have:=h.inj _ _ _ a2 b3
   have:=ZEk hl (ZCB b2)
   omega
  ·have:=h.inj _ _ _ b2 a3
   have:=ZEk hl (ZCB a2)
   omega
  ·have e:=h.inj _ _ _ a3 b3
   subst e
   have:=ZGV hl (ZCB a2) (ZCB b2)
   omega
def ZNZ (σ:ZA):List AV->List AV->(List AV->ZA->Prop)->Prop
 | [],xs,K=>K xs σ
 |_::_,[],K=>K [] σ
 |y::ys,x::xs,K=>match y with
  | .own _ _=>ZNZ σ ys xs fun xs' σ'=>K (x::xs') σ'
  |_=>ZJo σ x fun x' σ'=>ZNZ σ' ys xs fun xs' σ''=>K (x'::xs') σ''
theorem ZIR {σ:ZA}{xs:List AV}{K:List AV->ZA->Prop}{k:Box K}:ZNZ σ [] xs (hold K k)=K xs σ:=rfl
theorem ZGk {σ:ZA}{x y:AV}{xs ys:List AV}{K:List AV->ZA->Prop}{k:Box K}:ZNZ σ (y::ys) (x::xs) (hold K k)=(match y with
  | .own _ _=>ZNZ σ ys xs (hold (fun xs' σ'=>K (x::xs') σ') .mk)
  |_=>ZJo σ x (hold (fun x' σ'=>ZNZ σ' ys xs (hold (fun xs' σ''=>K (x'::xs') σ'') .mk)) .mk)):=by cases y<;>rfl
attribute [simp] ZIR ZGk ZDx ownP ZCW lnd unp ZOb ZEi ZFt ZKl
end Go.Vl
