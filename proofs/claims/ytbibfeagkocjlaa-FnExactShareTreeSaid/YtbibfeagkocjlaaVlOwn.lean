/- Calls whose results hold slices that the caller owns. -/
import Derived.Test.YtbibfeagkocjlaaVlBor
set_option linter.all false
namespace Go.Vl
open Go
variable {P : Program} {B nb N : Nat}
def MS.cut (k:Nat):MS→MS
  | .arr b sz _=>.arr b sz k
  |s=>s
theorem MS.cut_has {k:Nat}{s:MS}{b:Nat}:(s.cut k).has b↔s.has b:=by cases s<;>rfl
def ZJr :AV→Option Nat
  | .own l _=>some l
  | .pre l _ _=>some l
  |_=>none
def ZDY (σ:ZA)(x:AV)(sz k:Nat)(es:List (List AV)):Prop:=
  match x with
  | .own l n=>n=k∧es.length=k∧σ[l]? =some (.elems sz es)
  | .pre l n j=>j=k∧k≤n∧∃es0,σ[l]? =some (.elems sz es0)∧es0.length=n∧es=es0.take k∧0<k
  | .lit v=>v=.slice none 0 0∧k=0∧es=[]
  |_=>False
def ownP (σ:ZA):Nat→List (Nat×List (List AV))→List AV→List AV→Prop
  |_,[],[],[]=>True
  |j,news,x::xs,y::ys=>match y,news with
    | .own j' k,(sz,es)::news=>j'=j∧ZDY σ x sz k es∧ownP σ (j+1) news xs ys
    |y,news=>x.le y∧y.pure∧ownP σ j news xs ys
  |_,_,_,_=>False
def ZCK :List AV→List AV→List (Option Nat)
  |x::xs,.own _ _::ys=>ZJr x::ZCK xs ys
  |_::xs,_::ys=>ZCK xs ys
  |_,_=>[]
def lnd (t:Nat):List (Option Nat)→Prop
  | []=>True
  |none::r=>lnd t r
  |some l::r=>t≤l∧(∀o,o∈r→o≠some l)∧lnd t r
def unp :List AV→AV→List AV
  | [_],x=>[x]
  |_,.tup xs=>xs
  |_,_=>[.junk]
def ZNK (news:List (Nat×List (List AV))):ZA:=news.map fun p=>.elems p.1 p.2
def ZDO (ls:List (Option Nat))(i:Nat):Option Nat:=(ls[i]?).bind id
def Map.own (m:Map)(t:Nat)(ls:List (Option Nat))(news:List (Nat×List (List AV))):Map:=
  {m with f:=fun i=>if i<t then m.f i else if i<t+news.length then(match ZDO ls (i-t)with|some l=>(m.f l).cut ((news.getD (i-t) (0,[])).2.length)|none=>.nil)else .dead,n:=t+news.length}
theorem ZEC {t:Nat}:∀{ls:List (Option Nat)} {i l:Nat},lnd t ls→ls[i]? =some (some l)→t≤l
  |none::r,0,l,h,hi=>by simp at hi
  |none::r,i+1,l,h,hi=>ZEC (ls:=r) h (by simpa using hi)
  |some k::r,0,l,h,hi=>by simp at hi;subst hi;exact h.1
  |some k::r,i+1,l,h,hi=>ZEC (ls:=r) h.2.2 (by simpa using hi)
theorem ZFr {t:Nat}:∀{ls:List (Option Nat)} {i j l:Nat},lnd t ls→ls[i]? =some (some l)→ls[j]? =some (some l)→i=j
  | [],i,j,l,h,hi,hj=>by simp at hi
  |none::r,0,j,l,h,hi,hj=>by simp at hi
  |none::r,i+1,0,l,h,hi,hj=>by simp at hj
  |none::r,i+1,j+1,l,h,hi,hj=>congrArg (· +1) (ZFr (l:=l) (ls:=r) h (by simpa using hi) (by simpa using hj))
  |some k::r,0,0,l,h,hi,hj=>rfl
  |some k::r,0,j+1,l,h,hi,hj=>by
    simp at hi;subst hi
    exact absurd rfl (h.2.1 _ (List.mem_of_getElem? (by simpa using hj)))
  |some k::r,i+1,0,l,h,hi,hj=>by
    simp at hj;subst hj
    exact absurd rfl (h.2.1 _ (List.mem_of_getElem? (by simpa using hi)))
  |some k::r,i+1,j+1,l,h,hi,hj=>congrArg (· +1) (ZFr (l:=l) (ls:=r) h.2.2 (by simpa using hi) (by simpa using hj))
theorem ZB5 {ls:List (Option Nat)}{i l:Nat}(h:ZDO ls i=some l):ls[i]? =some (some l):=by
  unfold ZDO at h
  cases e:ls[i]? with
  |none=>rw[e]at h;cases h
  |some o=>rw[e]at h;simp at h;rw[h]
theorem Map.own_src {m:Map}{t:Nat}{ls:List (Option Nat)}{news:List (Nat×List (List AV))}{i b:Nat}(h:((m.own t ls news).f i).has b):(i<t∧(m.f i).has b)∨∃l,t≤i∧ZDO ls (i-t)=some l∧(m.f l).has b:=by
  simp only[Map.own]at h
  split at h
  · next hi=>exact .inl ⟨hi,h⟩
  · next hi=>
    split at h
    · cases e:ZDO ls (i-t)with
      |none=>rw[e]at h;exact h.elim
      |some l=>rw[e]at h;exact .inr ⟨l,by omega,rfl,MS.cut_has.1 h⟩
    · exact h.elim
theorem Map.own_wr {m:Map}{t:Nat}{ls:List (Option Nat)}{news:List (Nat×List (List AV))}{b:Nat}(h:Wr (m.own t ls news) b):Wr m b:=by
  obtain⟨i,hi⟩:=h
  rcases Map.own_src hi with⟨_,h⟩|⟨l,_,_,h⟩
  · exact⟨i,h⟩
  · exact⟨l,h⟩
theorem Map.own_av {m:Map}{t:Nat}{ls:List (Option Nat)}{news:List (Nat×List (List AV))}{b:Nat}(h:Av (m.own t ls news) b):Av m b:=h.elim (fun h=>.inl (Map.own_wr h)) .inr
def ZFE :ZA→Prop
  | []=>True
  | .elems _ es::r=>ZZ es∧ZFE r
  | .cells cs::r=>AV.pure.pures cs∧ZFE r
  |_::_=>False
theorem ZCQ :∀{τ:ZA} {i:Nat} {b:Blk},ZFE τ→τ[i]? =some b→(∃cs,b=.cells cs∧AV.pure.pures cs)∨∃sz es,b=.elems sz es∧ZZ es
  | .elems sz es::r,0,b,h,hi=>by simp at hi;exact .inr ⟨sz,es,hi.symm,h.1⟩
  | .cells cs::r,0,b,h,hi=>by simp at hi;exact .inl ⟨cs,hi.symm,h.1⟩
  | .elems sz es::r,i+1,b,h,hi=>ZCQ (τ:=r) h.2 (by simpa using hi)
  | .cells cs::r,i+1,b,h,hi=>ZCQ (τ:=r) h.2 (by simpa using hi)
theorem ZEW :∀{σ τ:ZA} {i:Nat} {c:Blk},ZEU σ τ→τ[i]? =some c→∃b,σ[i]? =some b∧b.le c
  |b::r,c::s,0,d,h,hi=>by simp at hi;subst hi;exact⟨b,rfl,h.1⟩
  |b::r,c::s,i+1,d,h,hi=>by simpa using ZEW (σ:=r) (τ:=s) h.2 (by simpa using hi)
  |_,[],i,d,h,hi=>by simp at hi
  | [],_::_,i,d,h,hi=>h.elim
theorem ZAo :∀{xs:List AV} {k:Nat} {x:AV},AV.pure.pures xs→xs[k]? =some x→x.pure
  |y::r,0,x,h,hk=>by simp at hk;subst hk;exact h.1
  |y::r,k+1,x,h,hk=>ZAo h.2 (by simpa using hk)
theorem BlkSim.leP {m m2:Map}{w:World}{s:MS}{b c:Blk}(h:BlkSim B m w s (some b))(hle:b.le c)(hp:(∃cs,c=.cells cs∧AV.pure.pures cs)∨∃sz es,c=.elems sz es∧ZZ es)(hA:∀x,Av m2 x→Av m x):BlkSim B m2 w s (some c):=by
  rcases hp with⟨cs,rfl,hp⟩|⟨sz,es,rfl,hp⟩
  · cases b with
    |tcells ot ds=>
      obtain⟨rfl,hle⟩:ot=none∧AV.le.les ds cs:=hle
      obtain⟨b,ccs,ty,a1,a2,a3,a4⟩:=h
      have hl:=ZAj hle
      refine⟨b,ccs,ty,a1,a2,by omega,fun i x hi=> ?_⟩
      obtain⟨x0,hx0,hx1⟩:=ZAk hle hi
      obtain⟨y,hy,hc⟩:=a4 i x0 hx0
      exact⟨y,hy,(hc.le hx1).pure_to (ZAo hp hi) hA⟩
    |_=>exact hle.elim
  · cases b with
    |telems oe' sz' es'=>
      obtain⟨rfl,rfl,rfl⟩:oe'=none∧sz'=sz∧es'=es:=hle
      obtain⟨h1,h2,h3⟩:=h
      refine⟨h1,h2,h3.imp id ?_⟩
      rintro⟨b,ccs,ty,a1,a2,a3,a4⟩
      refine⟨b,ccs,ty,a1,a2,a3,fun i e k x hi hk=> ?_⟩
      obtain⟨y,hy,hc⟩:=a4 i e k x hi hk
      exact⟨y,hy,hc.pure_to (ZAo (hp e (List.mem_of_getElem? hi)) hk) hA⟩
    |_=>exact hle.elim
theorem ZD8 {σ : ZA} : ∀ {j : Nat} {news : List (Nat × List (List AV))} {xs ys : List AV}, ownP σ j news xs ys → ∀ {i sz : Nat} {es : List (List AV)}, news[i]? = some (sz, es) →
    ∃x,ZDY σ x sz es.length es∧ZDO (ZCK xs ys) i=ZJr x
  |j,[],xs,ys,h,i,sz,es,hi=>by simp at hi
  |j,p::news,[],[],h,i,sz,es,hi=>by simp[ownP]at h
  |j,p::news,[],_::_,h,i,sz,es,hi=>by simp[ownP]at h
  |j,p::news,_::_,[],h,i,sz,es,hi=>by simp[ownP]at h
  |j,p::news,x::xs,y::ys,h,i,sz,es,hi=>by
    cases y with
    |own j' k=>
      simp only[ownP]at h
      obtain⟨rfl,h2,h3⟩:=h
      cases i with
      |zero=>
        simp at hi;subst hi
        have hk:k=es.length:=by
          unfold ZDY at h2
          split at h2
          · exact h2.2.1.symm
          · obtain⟨_,h5,es0,_,h6,rfl,_⟩:=h2;simp;omega
          · obtain⟨_,rfl,rfl⟩:=h2;rfl
          · exact h2.elim
        subst hk
        exact⟨x,h2,by simp[ZDO,ZCK]⟩
      |succ i=>
        obtain⟨x',q1,q2⟩:=ZD8 (xs:=xs) (ys:=ys) h3 (i:=i) (by simpa using hi)
        exact⟨x',q1,by simpa[ZDO,ZCK]using q2⟩
    |_=>
      simp only[ownP]at h
      obtain⟨x',q1,q2⟩:=ZD8 (xs:=xs) (ys:=ys) h.2.2 hi
      exact⟨x',q1,by simpa[ZDO,ZCK]using q2⟩
theorem ZG8 {m : Map} {σ : ZA} {w : World} (h : Sim B m σ w) {m2 : Map} (hA : ∀ x, Av m2 x → Av m x) {x : AV} {sz : Nat} {es : List (List AV)} (hx : ZDY σ x sz es.length es) (hp : ZZ es) :
    BlkSim B m2 w (match ZJr x with|some l=>(m.f l).cut es.length|none=>.nil) (some (.elems sz es)):=by
  have key:∀l es0,σ[l]? =some (.elems sz es0)→es=es0.take es.length→BlkSim B m2 w ((m.f l).cut es.length) (some (.elems sz es)):=by
    intro l es0 hl he
    have hle:es.length≤es0.length:=by rw[he];simp;omega
    have hb:=h.blk l
    rw[hl]at hb
    obtain⟨h1,h2,h3⟩:=hb
    have hget:∀(i:Nat) (e:List AV),es[i]? =some e→es0[i]? =some e:=by
      intro i e hi
      rw[he,List.getElem?_take]at hi
      split at hi
      · exact hi
      · cases hi
    refine⟨fun e he'=>h1 e (by rw[he]at he';exact List.mem_of_mem_take he'),by omega,?_⟩
    rcases h3 with⟨q,rfl⟩|⟨b,ccs,ty,a1,a2,a3,a4⟩
    · rw[q];exact .inl ⟨rfl,by rw[he];simp⟩
    · rw[a1]
      refine .inr ⟨b,ccs,ty,rfl,a2,Nat.le_trans (Nat.mul_le_mul_right _ hle) a3,fun i e k x hi hk=> ?_⟩
      obtain⟨y,hy,hc⟩:=a4 i e k x (hget i e hi) hk
      exact⟨y,hy,hc.pure_to (ZAo (hp e (List.mem_of_getElem? hi)) hk) hA⟩
  unfold ZDY at hx
  split at hx
  · exact key _ es hx.2.2 (by simp)
  · obtain⟨_,_,es0,g1,g2,g3,_⟩:=hx;exact key _ es0 g1 g3
  · obtain⟨_,_,rfl⟩:=hx;exact⟨by simp,by simp,.inl ⟨rfl,rfl⟩⟩
  · exact hx.elim
theorem ZJp {news:List (Nat×List (List AV))}{i:Nat}:(ZNK news)[i]? =(news[i]?).map fun p=>.elems p.1 p.2:=by simp[ZNK]
def ZEA :List (Nat×List (List AV))→Prop
  | []=>True
  |p::r=>ZZ p.2∧ZEA r
theorem ZCy :∀{news:List (Nat×List (List AV))} {i sz:Nat} {es:List (List AV)},ZEA news→news[i]? =some (sz,es)→ZZ es
  |p::r,0,sz,es,h,hi=>by simp at hi;subst hi;exact h.1
  |p::r,i+1,sz,es,h,hi=>ZCy (news:=r) h.2 (by simpa using hi)
theorem Sim.own {m : Map} {σ : ZA} {w : World} (h : Sim B m σ w) {τ1 : ZA} {news : List (Nat × List (List AV))} {xs ys : List AV} (hst : ZEU σ τ1) (hp1 : ZFE τ1) (hP : ownP σ τ1.length news xs ys) (hl : lnd τ1.length (ZCK xs ys)) (hn : ZEA news) :
    Sim B (m.own τ1.length (ZCK xs ys) news) (τ1++ZNK news) w:=by
  have fnew:∀i sz es,news[i]? =some (sz,es)→(m.own τ1.length (ZCK xs ys) news).f (τ1.length+i)=(match ZDO (ZCK xs ys) i with|some l=>(m.f l).cut es.length|none=>.nil):=by
    intro i sz es hi
    have hil:i<news.length:=(List.getElem?_eq_some_iff.1 hi).1
    have hd:news.getD i (0,[])=(sz,es):=by rw[List.getD_eq_getElem?_getD,hi];rfl
    simp only[Map.own]
    rw[if_neg (by omega),if_pos (by omega),Nat.add_sub_cancel_left,hd]
  refine⟨by simp[Map.own,ZNK],fun i=> ?_,fun i i' b h1 h2=> ?_,fun b hb=>h.sep b (Map.own_wr hb),h.avlt,h.tb.sub fun b hb=>Map.own_wr hb⟩
  · by_cases hi:i<τ1.length
    · rw[List.getElem?_append_left hi,List.getElem?_eq_getElem hi]
      obtain⟨b,hb,hle⟩:=ZEW hst (List.getElem?_eq_getElem hi)
      have hbs:=h.blk i
      rw[hb]at hbs
      have e:(m.own τ1.length (ZCK xs ys) news).f i=m.f i:=by simp[Map.own,hi]
      rw[e]
      exact BlkSim.leP hbs hle (ZCQ hp1 (List.getElem?_eq_getElem hi)) fun b hb=>Map.own_av hb
    · obtain⟨k,rfl⟩:∃k,i=τ1.length+k:=⟨i-τ1.length,by omega⟩
      rw[List.getElem?_append_right (by omega),Nat.add_sub_cancel_left,ZJp]
      cases hk:news[k]? with
      |none=>
        have hk':news.length≤k:=List.getElem?_eq_none_iff.1 hk
        have e:(m.own τ1.length (ZCK xs ys) news).f (τ1.length+k)=.dead:=by simp only[Map.own];rw[if_neg (by omega),if_neg (by omega)]
        rw[e];rfl
      |some p=>
        obtain⟨sz,es⟩:=p
        obtain⟨x,q1,q2⟩:=ZD8 hP hk
        rw[fnew k sz es hk,q2]
        exact ZG8 h (fun b hb=>Map.own_av hb) q1 (ZCy hn hk)
  · rcases Map.own_src h1 with⟨a1,a2⟩|⟨l,a1,a2,a3⟩<;>rcases Map.own_src h2 with⟨b1,b2⟩|⟨l',b1,b2,b3⟩
    · exact h.inj _ _ _ a2 b2
    · have:=h.inj _ _ _ a2 b3
      have:=ZEC hl (ZB5 b2)
      omega
    · have:=h.inj _ _ _ b2 a3
      have:=ZEC hl (ZB5 a2)
      omega
    · have e:=h.inj _ _ _ a3 b3
      subst e
      have:=ZFr hl (ZB5 a2) (ZB5 b2)
      omega
def ZMN (σ:ZA):List AV→List AV→(List AV→ZA→Prop)→Prop
  | [],xs,K=>K xs σ
  |_::_,[],K=>K [] σ
  |y::ys,x::xs,K=>match y with
    | .own _ _=>ZMN σ ys xs fun xs' σ'=>K (x::xs') σ'
    |_=>ZIy σ x fun x' σ'=>ZMN σ' ys xs fun xs' σ''=>K (x'::xs') σ''
theorem ZHf {σ:ZA}{xs:List AV}{K:List AV→ZA→Prop}{k:Box K}:ZMN σ [] xs (hold K k)=K xs σ:=rfl
theorem ZGA {σ : ZA} {x y : AV} {xs ys : List AV} {K : List AV → ZA → Prop} {k : Box K} : ZMN σ (y :: ys) (x :: xs) (hold K k) = (match y with
    | .own _ _=>ZMN σ ys xs (hold (fun xs' σ'=>K (x::xs') σ') .mk)
    |_=>ZIy σ x (hold (fun x' σ'=>ZMN σ' ys xs (hold (fun xs' σ''=>K (x'::xs') σ'') .mk)) .mk)):=by cases y<;>rfl
attribute [simp] ZHf ZGA ZDY ownP ZCK lnd unp ZNK ZEA ZFE ZJr
end Go.Vl
