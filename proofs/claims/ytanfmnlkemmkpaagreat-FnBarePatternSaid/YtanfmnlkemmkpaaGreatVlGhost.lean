/- A part of the proof. -/
import Derived.Test.YtanfmnlkemmkpaaGreatVlEntry
set_option linter.all false
namespace Go.Vl
open Go Go.RowKit
def Zn (n:Nat)(es:List (List AV)):Prop:=∀e,e∈es->AV.closed.closeds n e
def Blk.closed (n:Nat):Blk->Prop
 | .cells cs=>AV.closed.closeds n cs
 | .elems _ es=>Zn n es
 | .pack _ _=>True
 | .dead=>True
def Zz (n:Nat):ZA->Prop
 | []=>True
 |b::r=>b.closed n/\Zz n r
def ZOn (n:Nat)(fr:Frm):Frm->Prop
 | []=>True
 |(i,v)::r=>lk fr i=v/\v.closed n/\ZOn n fr r
def Map.restr (m:Map)(n:Nat):Map:=⟨fun l=>if l<n then m.f l else .dead,n,m.av⟩
theorem ZL {n:Nat}:∀{cs:List AV} {i:Nat} {x:AV},AV.closed.closeds n cs->cs[i]? =some x->x.closed n
 |c::r,0,x,h,hi=>by simp at hi;subst hi;simp[AV.closed.closeds]at h;exact h.1
 |c::r,i+1,x,h,hi=>by simp[AV.closed.closeds]at h;exact ZL h.2 (by simpa using hi)
theorem ZAu {n:Nat}:∀{s:ZA} {i:Nat} {b:Blk},Zz n s->s[i]? =some b->b.closed n
 |c::r,0,x,h,hi=>by simp at hi;subst hi;exact h.1
 |c::r,i+1,x,h,hi=>ZAu h.2 (by simpa using hi)
section
variable {B : Nat} {W : Nat -> Prop} {w : World} {m : Map}
theorem Conc.restr {x:AV}{u:Value}(h:Conc B W w m x u){n:Nat}(W':Nat->Prop)(hW:∀b,W' b->W b):n<=m.n->x.closed n->Conc B W' w (m.restr n) x u:=by
 induction h with
 |lit v=>intro _ _;exact .lit v
 |junk v=>intro _ _;exact .junk v
 |arr es b off sz cap ys hB hsz hWb hb hcap hc hx ih=>
  intro _ _
  exact .arr es b off sz cap ys hB hsz (fun hw=>hWb (hW b hw)) hb hcap hc fun i e k x hi hk=>(hx i e k x hi hk).weaken hW
 |arrNil a cap=>intro _ _;exact .arrNil a cap
 |rptr e off b o ys hWb hb hc hx ih=>
  intro _ _
  exact .rptr e off b o ys (fun hw=>hWb (hW b hw)) hb hc fun k x hk=>(hx k x hk).weaken hW
 |preOther l n' k' v hl hk=>intro hn hc;simp only[AV.closed]at hc;exact .preOther l n' k' v (by simpa[Map.restr]using hc) (by simpa[Map.restr,hc]using hk)
 |preNil l a hl hk=>intro hn hc;simp only[AV.closed]at hc;exact .preNil l a (by simpa[Map.restr]using hc) (by simpa[Map.restr,hc]using hk)
 |preArr l b sz len k' cap ccs ty hl hk hk' hh hcap hlen=>
  intro hn hc;simp only[AV.closed]at hc
  exact .preArr l b sz len k' cap ccs ty (by simpa[Map.restr]using hc) (by simpa[Map.restr,hc]using hk) hk' hh hcap hlen
 |ownOther l n' a cap hl hk hcap=>intro hn hc;simp only[AV.closed]at hc;exact .ownOther l n' a cap (by simpa[Map.restr]using hc) (by simpa[Map.restr,hc]using hk) hcap
 |ownNil l a hl hk=>intro hn hc;simp only[AV.closed]at hc;exact .ownNil l a (by simpa[Map.restr]using hc) (by simpa[Map.restr,hc]using hk)
 |ownArr l b sz len cap ccs ty hl hk hh hcap hlen hz=>
  intro hn hc;simp only[AV.closed]at hc
  exact .ownArr l b sz len cap ccs ty (by simpa[Map.restr]using hc) (by simpa[Map.restr,hc]using hk) hh hcap hlen hz
 |ptrOther l off v hl hk=>intro hn hc;simp only[AV.closed]at hc;exact .ptrOther l off v (by simpa[Map.restr]using hc) (by simpa[Map.restr,hc]using hk)
 |ptrBox l off b hl hk=>intro hn hc;simp only[AV.closed]at hc;exact .ptrBox l off b (by simpa[Map.restr]using hc) (by simpa[Map.restr,hc]using hk)
 |eptrOther l n' i off v hl hk=>intro hn hc;simp only[AV.closed]at hc;exact .eptrOther l n' i off v (by simpa[Map.restr]using hc) (by simpa[Map.restr,hc]using hk)
 |eptrArr l n' i off b sz hl hk=>intro hn hc;simp only[AV.closed]at hc;exact .eptrArr l n' i off b sz (by simpa[Map.restr]using hc) (by simpa[Map.restr,hc]using hk)
 |agg cs us hlen hx ih=>intro hn hc;simp only[AV.closed]at hc;exact .agg cs us hlen fun i x hi=>ih i x hi hn (ZL hc hi)
 |tup cs us hlen hx ih=>intro hn hc;simp only[AV.closed]at hc;exact .tup cs us hlen fun i x hi=>ih i x hi hn (ZL hc hi)
 |fn f xs ys us vs g1 g2 hx hy ihx ihy=>
  intro hn hc;simp only[AV.closed]at hc
  exact .fn f xs ys us vs g1 g2 (fun i x hi=>ihx i x hi hn (ZL hc.1 hi)) (fun i x hi=>ihy i x hi hn (ZL hc.2 hi))
end
section
variable {B nb N : Nat}
theorem Gh.refl (st:ASt):Gh B nb N st st:=fun _ _ m _ _ h=>⟨m,h⟩
theorem Gh.trans {a b c:ASt}(h:Gh B nb N a b)(h':Gh B nb N b c):Gh B nb N a c:=fun m0 w0 m ac w hs=>
 let⟨m1,h1⟩:=h m0 w0 m ac w hs
 h' m0 w0 m1 ac w h1
theorem Gh.nil {fr:Frm}{σ:ZA}(i sz:Nat)(hi:lk fr i=.lit (.slice none 0 0)):Gh B nb N ⟨fr,σ⟩ ⟨(i,.own σ.length 0)::fr,σ++[.elems sz []]⟩:=by
 intro m0 w0 m a w h
 have hfr:Fr m w (m.push .nil) w:=Fr.push h.sim _ (Nat.le_refl _) (fun _ _=>rfl) (fun b hb=>by simp[MS.has]at hb) rfl rfl rfl
 have hs:=h.sim.push .nil (.elems sz []) hfr (fun _ _=>rfl) (fun b hb=>by simp[MS.has]at hb) ⟨by simp,by simp,.inl ⟨rfl,rfl⟩⟩
 refine⟨m.push .nil,hs,⟨h.fr.1,fun j=> ?_⟩,h.df,h.step.trans hfr h.ok,h.base,h.ok⟩
 simp only[lk]
 by_cases e:i=j
 ·subst e
  rw[if_pos rfl]
  have hv:Conc B (Av m) w m (lk fr i) (a.tmps.getD i undef):=h.fr.2 i
  rw[hi]at hv
  rw[Conc.lit_inv hv]
  have:m.n=σ.length:=h.sim.n
  rw[←this]
  exact .ownNil m.n none (by simp[Map.push]) (Map.push_new _ _)
 ·rw[if_neg e]
  exact(h.fr.2 j).mono hfr
end
end Go.Vl
