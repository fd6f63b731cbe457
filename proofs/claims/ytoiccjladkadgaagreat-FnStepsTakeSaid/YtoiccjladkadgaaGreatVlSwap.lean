/- A part of the proof. -/
import Derived.Test.YtoiccjladkadgaaGreatVlOwn
set_option linter.all false
namespace Go.Vl
open Go Go.RowKit
variable {P : Program} {B nb N : Nat}
theorem Conc.closedN {W:Nat->Prop}{w:World}{m:Map}{x:AV}{v:Value}(h:Conc B W w m x v):x.closed m.n:=by
 have all:∀(cs:List AV),(∀(i:Nat) (x:AV),cs[i]? =some x->x.closed m.n)->AV.closed.closeds m.n cs:=by
  intro cs
  induction cs with
  |nil=>intro _;exact trivial
  |cons c r ih=>intro hc;exact⟨hc 0 c rfl,ih fun i x hi=>hc (i+1) x (by simpa using hi)⟩
 induction h with
 |agg cs us hlen hx ih=>exact all cs fun i x hi=>ih i x hi all
 |tup cs us hlen hx ih=>exact all cs fun i x hi=>ih i x hi all
 |fn f xs ys us vs g1 g2 hx hy ihx ihy=>exact⟨all xs fun i x hi=>ihx i x hi all,all ys fun i x hi=>ihy i x hi all⟩
 |_=>first|exact trivial|assumption
def swp (l l2 i:Nat):Nat:=if i=l then l2 else if i=l2 then l else i
def rnF (π:Nat->Nat):Frm->Frm
 | []=>[]
 |(k,x)::r=>(k,x.ren π)::rnF π r
theorem ZLo {π:Nat->Nat}:∀{fr:Frm} {i:Nat},lk (rnF π fr) i=(lk fr i).ren π
 | [],i=>rfl
 |(k,x)::r,i=>by
  simp only[rnF,lk]
  split
  ·rfl
  ·exact ZLo
def swS (l l2:Nat)(σ:ZB):ZB:=((σ.set l (σ.getD l2 .dead)).set l2 (σ.getD l .dead)).map (Blk.ren (swp l l2))
theorem ZLy {l l2:Nat}{σ:ZB}:(swS l l2 σ).length=σ.length:=by simp[swS]
theorem ZLz {l l2:Nat}{σ:ZB}(h:l<σ.length)(h2:l2<σ.length)(i:Nat):(swS l l2 σ)[i]? =(σ[swp l l2 i]?).map (Blk.ren (swp l l2)):=by
 simp only[swS,List.getElem?_map,List.getD_eq_getElem?_getD]
 congr 1
 by_cases e2:i=l2
 ·subst e2
  rw[List.getElem?_set_self (by simpa using h2)]
  have:swp l i i=l:=by simp only[swp];split<;>simp_all
  rw[this,List.getElem?_eq_getElem h];rfl
 ·rw[List.getElem?_set_ne (Ne.symm e2)]
  by_cases e1:i=l
  ·subst e1
   rw[List.getElem?_set_self h]
   have:swp i l2 i=l2:=by simp[swp]
   rw[this,List.getElem?_eq_getElem h2];rfl
  ·rw[List.getElem?_set_ne (Ne.symm e1)]
   have:swp l l2 i=i:=by simp[swp,e1,e2]
   rw[this]
theorem ZGD (l l2 i:Nat):swp l l2 (swp l l2 i)=i:=by
 simp only[swp]
 by_cases e1:i=l
 ·subst e1;simp only[if_true];by_cases e:l2=i<;>simp[e]
 ·by_cases e2:i=l2
  ·subst e2;simp[e1]
  ·simp[e1,e2]
theorem Gh.swap {fr:Frm}{σ:ZB}(l l2:Nat)(h1:nb<=l)(h2:nb<=l2)(h3:l<σ.length)(h4:l2<σ.length)(hp:ZBU σ):Gh B nb N ⟨fr,σ⟩ ⟨rnF (swp l l2) fr,swS l l2 σ⟩:=by
 intro m0 w0 m a w h
 have hn:m.n=σ.length:=h.sim.n
 have hlt:∀i,i<m.n->swp l l2 i<m.n:=fun i hi=>by simp only[swp];split<;>(try split)<;>omega
 let m':Map:=⟨fun i=>m.f (swp l l2 i),m.n,m.av⟩
 have hf:∀i,i<m.n->m'.f (swp l l2 i)=m.f i:=fun i _=>by show m.f _=_;rw[ZGD]
 have hwr:∀b,Wr m' b->Wr m b:=fun b ⟨i,hi⟩=>⟨_,hi⟩
 have hav:∀b,Av m' b->Av m b:=fun b hb=>hb.imp (hwr b) id
 have conv:∀{x:AV} {u:Value},Conc B (Av m) w m x u->Conc B (Av m') w m' (x.ren (swp l l2)) u:=fun hc=>Conc.ren_of (m2:=m') (n:=m.n) (Av m') hav hlt hf hc hc.closedN
 refine⟨m',⟨by rw[ZLy];exact hn,fun i=> ?_,fun i i' b a1 a2=> ?_,fun b hb=>h.sim.sep b (hwr b hb),h.sim.avlt⟩,⟨h.fr.1,fun i=>by rw[ZLo];exact conv (h.fr.2 i)⟩,h.df,⟨h.step.size,h.step.keep,h.step.phys,fun b hb=>h.step.fresh b (hwr b hb),fun i hi=> ?_,h.step.n,h.step.av,h.step.tape,h.step.os,h.step.output⟩,h.base,h.ok⟩
 ·show BlkSim B m' w (m.f (swp l l2 i)) (swS l l2 σ)[i]?
  rw[ZLz h3 h4]
  have hb:=h.sim.blk (swp l l2 i)
  generalize hj:swp l l2 i=j at hb
  cases hσ:σ[j]? with
  |none=>rw[hσ]at hb;exact hb
  |some c=>
   rw[hσ]at hb
   cases c with
   |dead=>exact hb
   |pack xs vs=>exact hb
   |cells cs=>
    obtain⟨b,ccs,ty,g1,g2,g3,g4⟩:=hb
    refine⟨b,ccs,ty,g1,g2,by rw[g3,Zs],fun k x hk=> ?_⟩
    rw[Zt]at hk
    obtain⟨y,hy,rfl⟩:=Option.map_eq_some_iff.1 hk
    obtain⟨v,hv,hc⟩:=g4 k y hy
    exact⟨v,hv,conv hc⟩
   |elems sz es=>
    have hpe:=ZAY hp hσ
    obtain⟨g0,g0',hb⟩:=hb
    refine⟨g0,g0',hb.imp id ?_⟩
    rintro⟨b,ccs,ty,g1,g2,g3,g4⟩
    refine⟨b,ccs,ty,g1,g2,g3,fun i e k x hi hk=> ?_⟩
    obtain⟨y,hy,hc⟩:=g4 i e k x hi hk
    exact⟨y,hy,hc.pure_to (ZAk (hpe e (List.mem_of_getElem? hi)) hk) hav⟩
 ·have:=h.sim.inj _ _ b a1 a2
  rw[←ZGD l l2 i,this,ZGD]
 ·have hb:=h.base
  have e:swp l l2 i=i:=by simp only[swp];rw[if_neg (by omega),if_neg (by omega)]
  show(m0.f i).le (m.f (swp l l2 i))
  rw[e]
  exact h.step.ids i hi
def GhK (B nb N:Nat)(K:ASt->Prop)(st:ASt):Prop:=∃st',Gh B nb N st st'/\K st'
attribute [simp] rnF swp swS
end Go.Vl
