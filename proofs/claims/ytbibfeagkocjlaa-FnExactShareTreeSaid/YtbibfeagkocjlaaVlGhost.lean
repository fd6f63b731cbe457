/- The value-level layer, part 14: steps of the proof alone. -/
import Derived.Test.YtbibfeagkocjlaaVlEntry
set_option linter.all false
namespace Go.Vl
open Go Go.RowKit
def ZT (n:Nat)(es:List (List AV)):Prop:=∀e,e∈es→AV.closed.closeds n e
def Blk.closed (n:Nat):Blk→Prop
  | .tcells _ cs=>AV.closed.closeds n cs
  | .telems _ _ es=>ZT n es
  | .pack _ _=>True
  | .dead=>True
def Zo (n:Nat):ZA→Prop
  | []=>True
  |b::r=>b.closed n∧Zo n r
def ZKA (n:Nat)(fr:Frm):Frm→Prop
  | []=>True
  |(i,v)::r=>lk fr i=v∧v.closed n∧ZKA n fr r
def Map.restr (m:Map)(n:Nat):Map:=⟨fun l=>if l<n then m.f l else .dead,n,m.av⟩
theorem ZJ {n:Nat}:∀{cs:List AV} {i:Nat} {x:AV},AV.closed.closeds n cs→cs[i]? =some x→x.closed n
  |c::r,0,x,h,hi=>by simp at hi;subst hi;simp[AV.closed.closeds]at h;exact h.1
  |c::r,i+1,x,h,hi=>by simp[AV.closed.closeds]at h;exact ZJ h.2 (by simpa using hi)
theorem ZAV {n:Nat}:∀{s:ZA} {i:Nat} {b:Blk},Zo n s→s[i]? =some b→b.closed n
  |c::r,0,x,h,hi=>by simp at hi;subst hi;exact h.1
  |c::r,i+1,x,h,hi=>ZAV h.2 (by simpa using hi)
theorem ZE0 {n:Nat}{fr:Frm}:∀{fr':Frm} (_:ZKA n fr fr') (i:Nat),lk fr' i=.junk∨(lk fr' i=lk fr i∧(lk fr' i).closed n)
  | [],_,i=>.inl rfl
  |(j,v)::r,h,i=>by
    simp only[lk]
    by_cases e:j=i
    · subst e;rw[if_pos rfl];exact .inr ⟨h.1.symm,h.2.1⟩
    · rw[if_neg e];exact ZE0 h.2.2 i
section
variable {B : Nat} {W : Nat → Prop} {w : World} {m : Map}
theorem Conc.restr {x:AV}{u:Value}(h:Conc B W w m x u){n:Nat}(W':Nat→Prop)(hW:∀b,W' b→W b):n≤m.n→x.closed n→Conc B W' w (m.restr n) x u:=by
  induction h with
  |lit v=>intro _ _;exact .lit v
  |junk v=>intro _ _;exact .junk v
  |arr es b off sz cap ys hB hsz hWb hb hcap hc hx ih=>
    intro _ _
    exact .arr es b off sz cap ys hB hsz (fun hw=>hWb (hW b hw)) hb hcap hc fun i e k x hi hk=>(hx i e k x hi hk).weaken hW
  |arrNil a cap=>intro _ _;exact .arrNil a cap
  |rptr e off b o ys hWb hb hc hx ih=>
    intro _ _
    exact .rptr e off b o ys (fun hw=>hWb (hW b hw)) hb hc fun k x hk=>(hx k x hk).weaken hW
  |preOther l n' k' v hl hk=>intro hn hc;simp only[AV.closed]at hc;exact .preOther l n' k' v (by simpa[Map.restr]using hc) (by simpa[Map.restr,hc]using hk)
  |preNil l a hl hk=>intro hn hc;simp only[AV.closed]at hc;exact .preNil l a (by simpa[Map.restr]using hc) (by simpa[Map.restr,hc]using hk)
  |preArr l b sz len k' cap ccs ty hl hk hk' hh hcap hlen=>
    intro hn hc;simp only[AV.closed]at hc
    exact .preArr l b sz len k' cap ccs ty (by simpa[Map.restr]using hc) (by simpa[Map.restr,hc]using hk) hk' hh hcap hlen
  |ownOther l n' a cap hl hk hcap=>intro hn hc;simp only[AV.closed]at hc;exact .ownOther l n' a cap (by simpa[Map.restr]using hc) (by simpa[Map.restr,hc]using hk) hcap
  |ownNil l a hl hk=>intro hn hc;simp only[AV.closed]at hc;exact .ownNil l a (by simpa[Map.restr]using hc) (by simpa[Map.restr,hc]using hk)
  |ownArr l b sz len cap ccs ty hl hk hh hcap hlen hz=>
    intro hn hc;simp only[AV.closed]at hc
    exact .ownArr l b sz len cap ccs ty (by simpa[Map.restr]using hc) (by simpa[Map.restr,hc]using hk) hh hcap hlen hz
  |ptrOther l off v hl hk=>intro hn hc;simp only[AV.closed]at hc;exact .ptrOther l off v (by simpa[Map.restr]using hc) (by simpa[Map.restr,hc]using hk)
  |ptrBox l off b hl hk=>intro hn hc;simp only[AV.closed]at hc;exact .ptrBox l off b (by simpa[Map.restr]using hc) (by simpa[Map.restr,hc]using hk)
  |eptrOther l n' i off v hl hk=>intro hn hc;simp only[AV.closed]at hc;exact .eptrOther l n' i off v (by simpa[Map.restr]using hc) (by simpa[Map.restr,hc]using hk)
  |eptrArr l n' i off b sz hl hk=>intro hn hc;simp only[AV.closed]at hc;exact .eptrArr l n' i off b sz (by simpa[Map.restr]using hc) (by simpa[Map.restr,hc]using hk)
  |agg cs us hlen hx ih=>intro hn hc;simp only[AV.closed]at hc;exact .agg cs us hlen fun i x hi=>ih i x hi hn (ZJ hc hi)
  |tup cs us hlen hx ih=>intro hn hc;simp only[AV.closed]at hc;exact .tup cs us hlen fun i x hi=>ih i x hi hn (ZJ hc hi)
  |fn f xs ys us vs g1 g2 hx hy ihx ihy=>
    intro hn hc;simp only[AV.closed]at hc
    exact .fn f xs ys us vs g1 g2 (fun i x hi=>ihx i x hi hn (ZJ hc.1 hi)) (fun i x hi=>ihy i x hi hn (ZJ hc.2 hi))
end
theorem ZBx {m:Map}{n:Nat}:∀b,Wr (m.restr n) b→Wr m b:=by
  rintro b ⟨l,hl⟩
  simp only[Map.restr]at hl
  split at hl
  · exact⟨l,hl⟩
  · simp[MS.has]at hl
theorem ZDz {m:Map}{n:Nat}:∀b,Av (m.restr n) b→Av m b:=fun b hb=>hb.elim (fun h=>.inl (ZBx b h)) .inr
theorem Sim.restr {B:Nat}{m:Map}{s g:ZA}{w:World}(h:Sim B m (s++g) w)(hc:Zo s.length s):Sim B (m.restr s.length) s w where
  n:=rfl
  blk l:=by
    have hn:s.length≤m.n:=by rw[h.n];simp
    by_cases hl:l<s.length
    · have hb:=h.blk l
      rw[List.getElem?_append_left hl]at hb
      have hf:(m.restr s.length).f l=m.f l:=by simp[Map.restr,hl]
      rw[hf]
      cases hs:s[l]? with
      |none=>rw[hs]at hb;exact hb
      |some k=>
        rw[hs]at hb
        have hcl:=ZAV hc hs
        cases k with
        |dead=>exact hb
        |pack xs vs=>exact hb
        |tcells ot cs=>
          obtain⟨b,ccs,ty,g1,g2,g3,g4⟩:=hb
          refine⟨b,ccs,ty,g1,g2,g3,fun i x hi=> ?_⟩
          obtain⟨y,hy,hxy⟩:=g4 i x hi
          exact⟨y,hy,hxy.restr _ ZDz hn (ZJ hcl hi)⟩
        |telems oe sz es=>
          obtain⟨g0,g0',hb⟩:=hb
          refine⟨g0,g0',?_⟩
          rcases hb with hb|⟨b,ccs,ty,g1,g2,g3,g4⟩
          · exact .inl hb
          · refine .inr ⟨b,ccs,ty,g1,g2,g3,fun i e k x hi hk=> ?_⟩
            obtain⟨y,hy,hxy⟩:=g4 i e k x hi hk
            exact⟨y,hy,hxy.restr _ ZDz hn (ZJ (hcl e (List.mem_of_getElem? hi)) hk)⟩
    · rw[List.getElem?_eq_none (by omega)]
      simp[Map.restr,hl,BlkSim]
  inj l l' b h1 h2:=by
    simp only[Map.restr]at h1 h2
    split at h1
    · split at h2
      · exact h.inj l l' b h1 h2
      · simp[MS.has]at h2
    · simp[MS.has]at h1
  sep b hb:=h.sep b (ZBx b hb)
  avlt:=h.avlt
  tb:=h.tb.sub ZBx
theorem Fr.restr {m m0:Map}{w w0:World}(h:Fr m0 w0 m w){n:Nat}(hn:m0.n≤n):Fr m0 w0 (m.restr n) w where
  size:=h.size
  keep:=h.keep
  phys b ccs ty hw hw2 hh:=h.phys b ccs ty hw (ZBx b hw2) hh
  fresh b hb:=h.fresh b (ZBx b hb)
  ids l hl:=by
    have:l<n:=by omega
    simp only[Map.restr,this,if_true]
    exact h.ids l hl
  n:=hn
  av:=h.av
  tape:=h.tape
  os:=h.os
  output:=h.output
section
variable {B nb N : Nat}
theorem Gh.refl (st:ASt):Gh B nb N st st:=fun _ _ m _ _ h=>⟨m,h⟩
theorem Gh.trans {a b c:ASt}(h:Gh B nb N a b)(h':Gh B nb N b c):Gh B nb N a c:=fun m0 w0 m ac w hs=>
  let⟨m1,h1⟩:=h m0 w0 m ac w hs
  h' m0 w0 m1 ac w h1
theorem Gh.sub {fr fr':Frm}{s:ZA}(g:ZA)(hn:nb≤s.length)(hc:Zo s.length s)(hf:ZKA s.length fr fr'):Gh B nb N ⟨fr,s++g⟩ ⟨fr',s⟩:=by
  intro m0 w0 m a w h
  have hm:s.length≤m.n:=by rw[h.sim.n];simp
  refine⟨m.restr s.length,h.sim.restr hc,⟨h.fr.1,fun i=> ?_⟩,h.df,h.step.restr (by rw[h.base];exact hn),h.base,h.ok⟩
  rcases ZE0 hf i with hj|⟨he,hcl⟩
  · show Conc B _ w _ (lk fr' i) _
    rw[hj];exact .junk _
  · have:=h.fr.2 i
    have h2:Conc B (Av m) w m (lk fr i) (a.tmps.getD i undef):=this
    rw[←he]at h2
    exact h2.restr _ ZDz hm hcl
theorem Gh.nil {fr:Frm}{σ:ZA}(i sz:Nat)(hi:lk fr i=.lit (.slice none 0 0)):Gh B nb N ⟨fr,σ⟩ ⟨(i,.own σ.length 0)::fr,σ++[.elems sz []]⟩:=by
  intro m0 w0 m a w h
  have hfr:Fr m w (m.push .nil) w:=Fr.push h.sim _ (Nat.le_refl _) (fun _ _=>rfl) (fun b hb=>by simp[MS.has]at hb) rfl rfl rfl
  have hs:=h.sim.push .nil (.elems sz []) hfr (fun _ _=>rfl) (fun b hb=>by simp[MS.has]at hb) ⟨by simp,by simp,.inl ⟨rfl,rfl⟩⟩
  refine⟨m.push .nil,hs,⟨h.fr.1,fun j=> ?_⟩,h.df,h.step.trans hfr h.ok,h.base,h.ok⟩
  simp only[lk]
  by_cases e:i=j
  · subst e
    rw[if_pos rfl]
    have hv:Conc B (Av m) w m (lk fr i) (a.tmps.getD i undef):=h.fr.2 i
    rw[hi]at hv
    rw[Conc.lit_inv hv]
    have:m.n=σ.length:=h.sim.n
    rw[←this]
    exact .ownNil m.n none (by simp[Map.push]) (Map.push_new _ _)
  · rw[if_neg e]
    exact(h.fr.2 j).mono hfr
end
end Go.Vl
