/- The value-level layer, part 15b: weaker values, steps of the proof alone that weaken, loops that unroll. -/
import Derived.Test.YtbibfeagkocjlaaVlGhost
set_option linter.all false
namespace Go.Vl
open Go Go.RowKit
def AV.le :AV→AV→Prop
  |_,.junk=>True
  | .lit v,.lit u=>v=u
  | .lit v,.arr es=>v=.slice none 0 0∧es=[]
  | .agg xs,.agg ys=>les xs ys
  | .tup xs,.tup ys=>les xs ys
  |x,y=>x=y
where les:List AV→List AV→Prop
  | [],[]=>True
  |x::r,y::s=>x.le y∧les r s
  |_,_=>False
theorem ZAj :∀{xs ys:List AV},AV.le.les xs ys→xs.length=ys.length
  | [],[],_=>rfl
  |_::_,_::_,h=>by simp[ZAj h.2]
  | [],_::_,h=>h.elim
  |_::_,[],h=>h.elim
theorem ZAk :∀{xs ys:List AV} {i:Nat} {y:AV},AV.le.les xs ys→ys[i]? =some y→∃x,xs[i]? =some x∧x.le y
  |x::r,z::s,0,y,h,hi=>by simp at hi;subst hi;exact⟨x,rfl,h.1⟩
  |x::r,z::s,i+1,y,h,hi=>by simpa using ZAk h.2 (by simpa using hi)
  | [],[],i,y,_,hi=>by simp at hi
  | [],_::_,_,_,h,_=>h.elim
  |_::_,[],_,_,h,_=>h.elim
mutual
theorem AV.le_refl :∀x:AV,x.le x
  | .lit _=>by simp[AV.le]
  | .junk=>by simp[AV.le]
  | .arr _=>by simp[AV.le]
  | .rptr _ _=>by simp[AV.le]
  | .own _ _=>by simp[AV.le]
  | .pre _ _ _=>by simp[AV.le]
  | .ptr _ _=>by simp[AV.le]
  | .eptr _ _ _ _=>by simp[AV.le]
  | .agg cs=>by simp only[AV.le];exact AV.les_refl cs
  | .tup cs=>by simp only[AV.le];exact AV.les_refl cs
  | .fn _ _ _=>by simp[AV.le]
theorem AV.les_refl :∀xs:List AV,AV.le.les xs xs
  | []=>trivial
  |x::r=>⟨AV.le_refl x,AV.les_refl r⟩
end
theorem Conc.le {B:Nat}{W:Nat→Prop}{w:World}{m:Map}{x:AV}{v:Value}(h:Conc B W w m x v):∀{y:AV},x.le y→Conc B W w m y v:=by
  induction h with
  |lit v=>
    intro y hy
    cases y with
    |lit u=>simp[AV.le]at hy;subst hy;exact .lit _
    |junk=>exact .junk _
    |arr es=>simp[AV.le]at hy;obtain⟨rfl,rfl⟩:=hy;exact .arrNil _ _
    |_=>simp[AV.le]at hy
  |junk v=>intro y hy;cases y<;>simp[AV.le]at hy;exact .junk _
  |agg cs us hlen hx ih=>
    intro y hy
    cases y with
    |junk=>exact .junk _
    |agg ys=>
      simp only[AV.le]at hy
      exact .agg ys us (by rw[hlen,ZAj hy]) fun i x hi=>by
        obtain⟨z,hz,hle⟩:=ZAk hy hi
        exact ih i z hz hle
    |_=>simp[AV.le]at hy
  |tup cs us hlen hx ih=>
    intro y hy
    cases y with
    |junk=>exact .junk _
    |tup ys=>
      simp only[AV.le]at hy
      exact .tup ys us (by rw[hlen,ZAj hy]) fun i x hi=>by
        obtain⟨z,hz,hle⟩:=ZAk hy hi
        exact ih i z hz hle
    |_=>simp[AV.le]at hy
  |arr es b off sz cap ys hB hsz hWb hb hcap hc hx ih=>
    intro y hy
    cases y<;>simp[AV.le]at hy
    · exact .junk _
    · subst hy;exact .arr es b off sz cap ys hB hsz hWb hb hcap hc hx
  |arrNil a cap=>
    intro y hy
    cases y<;>simp[AV.le]at hy
    · exact .junk _
    · subst hy;exact .arrNil a cap
  |rptr e off b o ys hWb hb hc hx ih=>
    intro y hy
    cases y<;>simp[AV.le]at hy
    · exact .junk _
    · obtain⟨rfl,rfl⟩:=hy;exact .rptr e off b o ys hWb hb hc hx
  |preOther l n k v hl hh=>
    intro y hy
    cases y<;>simp[AV.le]at hy
    · exact .junk _
    · obtain⟨rfl,rfl,rfl⟩:=hy;exact .preOther l n k v hl hh
  |preNil l a hl hh=>
    intro y hy
    cases y<;>simp[AV.le]at hy
    · exact .junk _
    · obtain⟨rfl,rfl,rfl⟩:=hy;exact .preNil l a hl hh
  |preArr l b sz len k cap ccs ty hl hh hk h1 h2 h3=>
    intro y hy
    cases y<;>simp[AV.le]at hy
    · exact .junk _
    · obtain⟨rfl,rfl,rfl⟩:=hy;exact .preArr l b sz len k cap ccs ty hl hh hk h1 h2 h3
  |ownOther l n a cap hl hh hcap=>
    intro y hy
    cases y<;>simp[AV.le]at hy
    · exact .junk _
    · obtain⟨rfl,rfl⟩:=hy;exact .ownOther l n a cap hl hh hcap
  |ownNil l a hl hh=>
    intro y hy
    cases y<;>simp[AV.le]at hy
    · exact .junk _
    · obtain⟨rfl,rfl⟩:=hy;exact .ownNil l a hl hh
  |ownArr l b sz len cap ccs ty hl hh h1 h2 h3 h4=>
    intro y hy
    cases y<;>simp[AV.le]at hy
    · exact .junk _
    · obtain⟨rfl,rfl⟩:=hy;exact .ownArr l b sz len cap ccs ty hl hh h1 h2 h3 h4
  |ptrOther l off v hl hh=>
    intro y hy
    cases y<;>simp[AV.le]at hy
    · exact .junk _
    · obtain⟨rfl,rfl⟩:=hy;exact .ptrOther l off v hl hh
  |ptrBox l off b hl hh=>
    intro y hy
    cases y<;>simp[AV.le]at hy
    · exact .junk _
    · obtain⟨rfl,rfl⟩:=hy;exact .ptrBox l off b hl hh
  |eptrOther l n i off v hl hh=>
    intro y hy
    cases y<;>simp[AV.le]at hy
    · exact .junk _
    · obtain⟨rfl,rfl,rfl,rfl⟩:=hy;exact .eptrOther l n i off v hl hh
  |eptrArr l n i off b sz hl hh=>
    intro y hy
    cases y<;>simp[AV.le]at hy
    · exact .junk _
    · obtain⟨rfl,rfl,rfl,rfl⟩:=hy;exact .eptrArr l n i off b sz hl hh
  |fn f xs ys us vs g1 g2 hx hy ihx ihy=>
    intro y hy
    cases y<;>simp[AV.le]at hy
    · exact .junk _
    · obtain⟨rfl,rfl,rfl⟩:=hy;exact .fn f xs ys us vs g1 g2 hx hy
def ZNa (n:Nat)(fr:Frm):Frm→Prop
  | []=>True
  |(i,v)::r=>(lk fr i).le v∧v.closed n∧ZNa n fr r
def Blk.le :Blk→Blk→Prop
  |_,.dead=>True
  | .tcells ot cs,.tcells ot' ds=>ot=ot'∧AV.le.les cs ds
  | .telems oe sz es,.telems oe' sz' es'=>oe=oe'∧sz=sz'∧es=es'
  | .pack xs vs,.pack xs' vs'=>xs=xs'∧vs=vs'
  |_,_=>False
def ZEU :ZA→ZA→Prop
  |_,[]=>True
  |b::r,b'::r'=>b.le b'∧ZEU r r'
  | [],_::_=>False
theorem ZGb :∀{σ s:ZA} {i:Nat} {b:Blk},ZEU σ s→s[i]? =some b→∃a,σ[i]? =some a∧a.le b
  |a::r,b'::s,0,b,h,hi=>by simp at hi;subst hi;exact⟨a,rfl,h.1⟩
  |a::r,b'::s,i+1,b,h,hi=>by simpa using ZGb h.2 (by simpa using hi)
  |_,[],_,_,_,hi=>by simp at hi
  | [],_::_,_,_,h,_=>h.elim
theorem ZGq {n:Nat}{fr:Frm}:∀{fr':Frm} (_:ZNa n fr fr') (i:Nat),lk fr' i=.junk∨((lk fr i).le (lk fr' i)∧(lk fr' i).closed n)
  | [],_,i=>.inl rfl
  |(j,v)::r,h,i=>by
    simp only[lk]
    by_cases e:j=i
    · subst e;rw[if_pos rfl];exact .inr ⟨h.1,h.2.1⟩
    · rw[if_neg e];exact ZGq h.2.2 i
def Map.to (m:Map)(s:ZA):Map:=⟨fun l=>match s[l]? with|some (.tcells _ _)=>m.f l|some (.telems _ _ _)=>m.f l|some (.pack _ _)=>m.f l|_=>.dead,s.length,m.av⟩
theorem Map.to_cases (m:Map)(s:ZA)(l:Nat):(m.to s).f l=m.f l∨(m.to s).f l=.dead:=by
  simp only[Map.to]
  split<;>simp
theorem ZG6 {m:Map}{s:ZA}:∀b,Wr (m.to s) b→Wr m b:=by
  rintro b ⟨l,hl⟩
  rcases m.to_cases s l with h|h<;>rw[h]at hl
  · exact⟨l,hl⟩
  · simp[MS.has]at hl
theorem ZJS {m:Map}{s:ZA}:∀b,Av (m.to s) b→Av m b:=fun b hb=>hb.elim (fun h=>.inl (ZG6 b h)) .inr
theorem Conc.to {B:Nat}{W:Nat→Prop}{w:World}{m:Map}{x:AV}{u:Value}(h:Conc B W w m x u){s:ZA}(W':Nat→Prop)(hW:∀b,W' b→W b):x.closed s.length→Conc B W' w (m.to s) x u:=by
  induction h with
  |lit v=>intro _;exact .lit v
  |junk v=>intro _;exact .junk v
  |arr es b off sz cap ys hB hsz hWb hb hcap hc hx ih=>
    intro _
    exact .arr es b off sz cap ys hB hsz (fun hw=>hWb (hW b hw)) hb hcap hc fun i e k x hi hk=>(hx i e k x hi hk).weaken hW
  |arrNil a cap=>intro _;exact .arrNil a cap
  |rptr e off b o ys hWb hb hc hx ih=>
    intro _
    exact .rptr e off b o ys (fun hw=>hWb (hW b hw)) hb hc fun k x hk=>(hx k x hk).weaken hW
  | @preOther m l n' k' v hl hk=>
    intro hc;simp only[AV.closed]at hc
    exact .preOther l n' k' v hc (by rcases m.to_cases s l with h|h<;>rw[h];exact hk;simp[MS.len])
  | @preNil m l a hl hk=>
    intro hc;simp only[AV.closed]at hc
    rcases m.to_cases s l with h|h
    · exact .preNil l a hc (h.trans hk)
    · exact .preOther l 0 0 _ hc (by rw[h];simp[MS.len])
  | @preArr m l b sz len k' cap ccs ty hl hk hk' hh hcap hlen=>
    intro hc;simp only[AV.closed]at hc
    rcases m.to_cases s l with h|h
    · exact .preArr l b sz len k' cap ccs ty hc (h.trans hk) hk' hh hcap hlen
    · exact .preOther l len k' _ hc (by rw[h];simp[MS.len])
  | @ownOther m l n' a cap hl hk hcap=>
    intro hc;simp only[AV.closed]at hc
    exact .ownOther l n' a cap hc (by rcases m.to_cases s l with h|h<;>rw[h];exact hk;simp[MS.len]) hcap
  | @ownNil m l a hl hk=>
    intro hc;simp only[AV.closed]at hc
    rcases m.to_cases s l with h|h
    · exact .ownNil l a hc (h.trans hk)
    · exact .ownOther l 0 _ _ hc (by rw[h];simp[MS.len]) (Nat.le_refl _)
  | @ownArr m l b sz len cap ccs ty hl hk hh hcap hlen hz=>
    intro hc;simp only[AV.closed]at hc
    rcases m.to_cases s l with h|h
    · exact .ownArr l b sz len cap ccs ty hc (h.trans hk) hh hcap hlen hz
    · exact .ownOther l len _ _ hc (by rw[h];simp[MS.len]) hlen
  | @ptrOther m l off v hl hk=>
    intro hc;simp only[AV.closed]at hc
    exact .ptrOther l off v hc (by rcases m.to_cases s l with h|h<;>rw[h];exact hk;simp)
  | @ptrBox m l off b hl hk=>
    intro hc;simp only[AV.closed]at hc
    rcases m.to_cases s l with h|h
    · exact .ptrBox l off b hc (h.trans hk)
    · exact .ptrOther l off _ hc (by rw[h];simp)
  | @eptrOther m l n' i off v hl hk=>
    intro hc;simp only[AV.closed]at hc
    exact .eptrOther l n' i off v hc (by rcases m.to_cases s l with h|h<;>rw[h];exact hk;simp[MS.len])
  | @eptrArr m l n' i off b sz hl hk=>
    intro hc;simp only[AV.closed]at hc
    rcases m.to_cases s l with h|h
    · exact .eptrArr l n' i off b sz hc (h.trans hk)
    · exact .eptrOther l n' i off _ hc (by rw[h];simp[MS.len])
  |agg cs us hlen hx ih=>intro hc;simp only[AV.closed]at hc;exact .agg cs us hlen fun i x hi=>ih i x hi (ZJ hc hi)
  |tup cs us hlen hx ih=>intro hc;simp only[AV.closed]at hc;exact .tup cs us hlen fun i x hi=>ih i x hi (ZJ hc hi)
  |fn f xs ys us vs g1 g2 hx hy ihx ihy=>
    intro hc;simp only[AV.closed]at hc
    exact .fn f xs ys us vs g1 g2 (fun i x hi=>ihx i x hi (ZJ hc.1 hi)) (fun i x hi=>ihy i x hi (ZJ hc.2 hi))
theorem Sim.to {B:Nat}{m:Map}{σ s:ZA}{w:World}(h:Sim B m σ w)(hs:ZEU σ s)(hc:Zo s.length s):Sim B (m.to s) s w where
  n:=rfl
  blk l:=by
    cases hl:s[l]? with
    |none=>simp[BlkSim,Map.to,hl]
    |some k=>
      obtain⟨a,ha,hle⟩:=ZGb hs hl
      have hb:=h.blk l
      rw[ha]at hb
      have hcl:=ZAV hc hl
      cases k with
      |dead=>simp[BlkSim,Map.to,hl]
      |pack xs vs=>
        have hf:(m.to s).f l=m.f l:=by simp[Map.to,hl]
        rw[hf]
        cases a with
        |pack xs' vs'=>
          obtain⟨rfl,rfl⟩:=hle
          exact hb
        |_=>exact hle.elim
      |tcells ot ds=>
        have hf:(m.to s).f l=m.f l:=by simp[Map.to,hl]
        rw[hf]
        cases a with
        |tcells ot cs=>
          simp only[Blk.le]at hle
          obtain⟨rfl,hle⟩:=hle
          obtain⟨b,ccs,ty,g1,g2,g3,g4⟩:=hb
          refine⟨b,ccs,ty,g1,g2,by rw[g3,ZAj hle],fun i x hi=> ?_⟩
          obtain⟨z,hz,hzx⟩:=ZAk hle hi
          obtain⟨y,hy,hxy⟩:=g4 i z hz
          exact⟨y,hy,(hxy.le hzx).to _ ZJS (ZJ hcl hi)⟩
        |_=>exact hle.elim
      |telems oe sz es=>
        have hf:(m.to s).f l=m.f l:=by simp[Map.to,hl]
        rw[hf]
        cases a with
        |telems oe' sz' es'=>
          obtain⟨rfl,rfl,rfl⟩:=hle
          obtain⟨g0,g0',hb⟩:=hb
          refine⟨g0,g0',?_⟩
          rcases hb with hb|⟨b,ccs,ty,g1,g2,g3,g4⟩
          · exact .inl hb
          · refine .inr ⟨b,ccs,ty,g1,g2,g3,fun i e k x hi hk=> ?_⟩
            obtain⟨y,hy,hxy⟩:=g4 i e k x hi hk
            exact⟨y,hy,hxy.to _ ZJS (ZJ (hcl e (List.mem_of_getElem? hi)) hk)⟩
        |_=>exact hle.elim
  inj l l' b h1 h2:=by
    rcases m.to_cases s l with e|e<;>rw[e]at h1
    · rcases m.to_cases s l' with e'|e'<;>rw[e']at h2
      · exact h.inj l l' b h1 h2
      · simp[MS.has]at h2
    · simp[MS.has]at h1
  sep b hb:=h.sep b (ZG6 b hb)
  avlt:=h.avlt
  tb:=h.tb.sub ZG6
theorem Fr.to {m m0:Map}{w w0:World}(h:Fr m0 w0 m w){s:ZA}(hn:m0.n≤s.length):Fr m0 w0 (m.to s) w where
  size:=h.size
  keep:=h.keep
  phys b ccs ty hw hw2 hh:=h.phys b ccs ty hw (ZG6 b hw2) hh
  fresh b hb:=h.fresh b (ZG6 b hb)
  ids l hl:=by
    rcases m.to_cases s l with e|e<;>rw[e]
    · exact h.ids l hl
    · exact .inr (.inl rfl)
  n:=hn
  av:=h.av
  tape:=h.tape
  os:=h.os
  output:=h.output
section
variable {P : Program} {B nb N : Nat}
theorem Gh.to {fr fr':Frm}{σ s:ZA}(hn:nb≤s.length)(hs:ZEU σ s)(hc:Zo s.length s)(hf:ZNa s.length fr fr'):Gh B nb N ⟨fr,σ⟩ ⟨fr',s⟩:=by
  intro m0 w0 m a w h
  refine⟨m.to s,h.sim.to hs hc,⟨h.fr.1,fun i=> ?_⟩,h.df,h.step.to (by rw[h.base];exact hn),h.base,h.ok⟩
  rcases ZGq hf i with hj|⟨he,hcl⟩
  · show Conc B _ w _ (lk fr' i) _
    rw[hj];exact .junk _
  · have h2:Conc B (Av m) w m (lk fr i) (a.tmps.getD i undef):=h.fr.2 i
    exact(h2.le he).to _ ZJS hcl
def ZNN (P:Program)(c:Code)(Q:Exit→Act→World→Prop)(a:Act)(w:World):Prop:=
  ∀(b:Frame) (k:List Item) (cs:List Frame),∃e a' w',Q e a' w'∧Arrives P (lone (b.at a (.code c:: .inLoop c::k)) cs w) b k cs e a' w'
theorem ZEw {c:Code}{Q:Exit→Act→World→Prop}{a:Act}{w:World}(h:ZNN P c Q a w):(Code.loop c).wp P Q a w:=by
  intro b k cs
  obtain⟨e,a',w',hq,harr⟩:=h b k cs
  exact⟨e,a',w',hq,.of_steps (.one step_loop) harr⟩
theorem ZC3 {c:Code}{Q:Exit→Act→World→Prop}{a:Act}{w:World}(h:c.wp P (Exit.then (ZNN P c Q) Q) a w):ZNN P c Q a w:=by
  intro b k cs
  obtain⟨e,a₁,w₁,hq,harr⟩:=h b (.inLoop c::k) cs
  cases e with
  |normal=>
    obtain⟨e₂,a₂,w₂,hq₂,harr₂⟩:=hq b k cs
    exact⟨e₂,a₂,w₂,hq₂,.of_steps (Steps.trans harr (.one step_inLoop)) harr₂⟩
  |exit id=>exact⟨_,a₁,w₁,hq,.pass (x:=.inLoop c) rfl (fun _ _=>.inl (by simp)) harr⟩
  |goto l=>exact⟨_,a₁,w₁,hq,.pass (x:=.inLoop c) rfl (fun _ _=>.inl (by simp)) harr⟩
  |ret=>exact⟨_,a₁,w₁,hq,.pass (x:=.inLoop c) rfl (fun _ _=>.inl (by simp)) harr⟩
  |panic ch=>exact⟨_,a₁,w₁,hq,.pass (x:=.inLoop c) rfl (fun _ _=>.inl (by simp)) harr⟩
  |outgrown=>exact⟨_,a₁,w₁,hq,.pass (x:=.inLoop c) rfl (fun _ _=>.inl (by simp)) harr⟩
def ALoopU (P:Program)(B nb N:Nat)(c:Code)(st:ASt)(Q:Exit→ASt→Prop):Prop:=
  ∀m0 w0 m a w,ASim B nb N m0 w0 st m a w→ZNN P c (fun e a' w'=>∃st' m',Q e st'∧ASim B nb N m0 w0 st' m' a' w') a w
def Again (P:Program)(B nb N:Nat)(c:Code)(Q:Exit→ASt→Prop)(st':ASt):Prop:=∃st2,Gh B nb N st' st2∧ALoopU P B nb N c st2 Q
def Leave (B nb N:Nat)(Q:Exit→ASt→Prop)(e:Exit)(st':ASt):Prop:=∃st2,Gh B nb N st' st2∧Q e st2
def ZEa (P:Program)(B nb N:Nat)(c:Code)(Q:Exit→ASt→Prop)(e:Exit)(st':ASt):Prop:=
  match e with
  | .normal=>Again P B nb N c Q st'
  |e=>Leave B nb N Q e st'
theorem ALoopU.unroll {c:Code}{st:ASt}{Q:Exit→ASt→Prop}(h:awp P B nb N c st (ZEa P B nb N c Q)):ALoopU P B nb N c st Q:=by
  intro m0 w0 m a w hs
  refine ZC3 (wp_mono (ZQ c st _ h m0 w0 m a w hs) ?_)
  rintro e a' w' ⟨st',m',hq,hs'⟩
  cases e with
  |normal=>
    obtain⟨st2,hg,hl⟩:=hq
    obtain⟨m2,h2⟩:=hg m0 w0 m' a' w' hs'
    exact hl m0 w0 m2 a' w' h2
  |_=>
    obtain⟨st2,hg,hl⟩:=hq
    obtain⟨m2,h2⟩:=hg m0 w0 m' a' w' hs'
    exact⟨st2,m2,hl,h2⟩
theorem ALoopU.loop {c:Code}{st st0:ASt}{Q:Exit→ASt→Prop}(hg:Gh B nb N st st0)(h:ALoopU P B nb N c st0 Q):ALoop P B nb N c st Q:=by
  intro m0 w0 m a w hs
  obtain⟨m1,h1⟩:=hg m0 w0 m a w hs
  exact ZEw (h m0 w0 m1 a w h1)
def Blk.bnd (B:Nat):Blk→Prop
  | .tcells _ cs=>AV.bnd.bnds B cs
  | .telems _ _ es=>es.length≤bd B
  | .pack _ _=>True
  | .dead=>True
theorem ALoopU.know {c:Code}{st:ASt}{Q:Exit→ASt→Prop}(h:(∀i,(lk st.fr i).bnd B)→(∀(l:Nat) b,st.σ[l]? =some b→b.bnd B)→ALoopU P B nb N c st Q):ALoopU P B nb N c st Q:=by
  intro m0 w0 m a w hs
  refine h (fun i=>(hs.fr.2 i).bnd) (fun l b hb=> ?_) m0 w0 m a w hs
  have hs2:=hs.sim.blk l
  rw[hb]at hs2
  cases b with
  |dead=>trivial
  |pack xs vs=>trivial
  |tcells ot cs=>
    obtain⟨_,_,_,_,_,_,g4⟩:=hs2
    simp only[Blk.bnd]
    have:∀(k:List AV),(∀x,x∈k→x.bnd B)→AV.bnd.bnds B k:=by
      intro k
      induction k with
      |nil=>intro _;simp[AV.bnd.bnds]
      |cons a r ih2=>intro hl;simp only[AV.bnd.bnds];exact⟨hl a (by simp),ih2 fun x hx=>hl x (List.mem_cons_of_mem _ hx)⟩
    refine this cs fun x hx=> ?_
    obtain⟨i,hi⟩:=List.getElem?_of_mem hx
    obtain⟨_,_,hc⟩:=g4 i x hi
    exact hc.bnd
  |telems oe sz es=>exact hs2.2.1
theorem PureCall.introLe {f : FuncId} {fn : Func} {c : Code} {args : List AV} {r : AV} (hf : P.funcs[f]? = some fn) (hn : (fn.name == "runtime.NumGoroutine") = false) (hb : fn.body = some c)
    (hN:fn.ntmps=N) (hargs:args.length≤N) (hr:r.pure) (h:awp P B 0 N c ⟨ZBF 0 args,[]⟩ (ZBb P fn fun r' _=>r'.le r)):PureCall P B f args r:=by
  refine⟨⟨fn,hf,hn,by rw[hb];rfl⟩,hr,fun av w vs hav hv=>calls_of_wp hf hb ?_⟩
  subst hN
  let m0:Map:=⟨fun _=>.dead,0,av⟩
  have hWr:∀b,¬Wr m0 b:=by rintro b ⟨l,hl⟩;simp[m0,MS.has]at hl
  have hAv:∀b,Av m0 b→av b:=fun b hb=>hb.resolve_left (hWr b)
  have hsim:Sim B m0 [] w:=⟨rfl,fun l=>by simp[BlkSim,m0],fun l l' b hl=>by simp[m0,MS.has]at hl,fun b hb=>absurd hb (hWr b),hav.1,hav.2.ok fun b hb=>absurd hb (hWr b)⟩
  have hv':RelL B (Av m0) m0 w args vs:=⟨hv.1,fun i x hi=>((hv.2 i x hi).weaken hAv).shift m0⟩
  have hsim0:ASim B 0 fn.ntmps m0 w ⟨ZBF 0 args,[]⟩ m0 ⟨vs++Array.replicate (fn.ntmps-vs.size) undef,[]⟩ w:=
    ⟨hsim,Zy hv' hargs,rfl,Fr.refl m0 w,rfl,fun b hb=>absurd hb (hWr b)⟩
  refine wp_mono (ZQ c _ _ h m0 w m0 _ w hsim0) ?_
  rintro e a' w' ⟨st',m',hq,hs⟩
  have fin:∀(hq:ZBI P st'.σ st'.fr fn.results.toList fun xs=>ZIx st'.σ (pack xs) fun r' _=>r'.le r),
      a'.defers=[]∧∃v,(results fn a'.tmps).run P w'=.ok v w'∧∃u,Ending.returned v=.returned u∧Conc B av w' M0 r u∧Below w.heap.size w w':=by
    intro hq
    obtain⟨xs,u,hK,hrun,hc⟩:=ZN hs hq
    obtain⟨r',σ',m'',hle,hs2,hf2,hc2⟩:=ZAs hs.sim hK hc
    have hfr:=hs.step
    refine⟨hs.df,u,hrun,u,rfl,?_,hfr.os,hfr.tape,hfr.output,hfr.size,fun b hb=>hfr.keep b hb (hWr b)⟩
    refine((hc2.le hle).toM0 hr).weaken fun b hb=>.inr ?_
    rw[hf2.av,hfr.av];exact hb
  cases e with
  |normal=>exact fin hq
  |ret=>exact fin hq
  |_=>exact hq.elim
end
end Go.Vl
