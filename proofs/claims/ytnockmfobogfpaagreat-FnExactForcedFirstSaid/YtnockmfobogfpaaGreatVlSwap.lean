/- Part. -/
import Derived.Test.YtnockmfobogfpaaGreatVlOwn
set_option linter.all false
open List renaming mem_of_mem_take->zA,mem_of_mem_drop->zB,getElem?_eq_getElem->zC,getElem?_set_self->zD,getElem?_set_ne->zE
namespace Go.Vl
open Go Go.RowKit
variable {P : Program} {B nb N : Nat}
theorem Conc.closedN {W:Nat->Prop}{w:World}{m:Map}{x:AV}{v:Value}(h:Conc B W w m x v):x.closed m.n:=by
 have all:∀(cs:List AV),(∀(i:Nat) (x:AV),cs[i]? =some x->x.closed m.n)->AV.closed.closeds m.n cs:=by
  intro cs
  induction cs with
  |nil=>intro _;exact trivial
  |cons c r ih=>intro hc;exact⟨hc 0 c rfl,ih fun i x hi=>hc (i+1) x (by simpa using hi)⟩
 induction h with
 |agg cs us hlen hx ih=>exact all cs fun i x hi=>ih i x hi all
 |tup cs us hlen hx ih=>exact all cs fun i x hi=>ih i x hi all
 |fn f xs ys us vs g1 g2 hx hy ihx ihy=>exact⟨all xs fun i x hi=>ihx i x hi all,all ys fun i x hi=>ihy i x hi all⟩
 |_=>first|exact trivial|assumption
def swp (l l2 i:Nat):Nat:=if i=l then l2 else if i=l2 then l else i
def rnF (π:Nat->Nat):Frm->Frm
 | []=>[]
 |(k,x)::r=>(k,x.ren π)::rnF π r
theorem ZM9 {π:Nat->Nat}:∀{fr:Frm} {i:Nat},lk (rnF π fr) i=(lk fr i).ren π
 | [],i=>rfl
 |(k,x)::r,i=>by
  simp only[rnF,lk]
  split
  ·rfl
  ·exact ZM9
def swS (l l2:Nat)(σ:ZE):ZE:=((σ.set l (σ.getD l2 .dead)).set l2 (σ.getD l .dead)).map (Blk.ren (swp l l2))
variable {σ:ZE}
theorem ZNI {l l2:Nat}:(swS l l2 σ).length=σ.length:=by simp[swS]
theorem ZNJ {l l2:Nat}(h:l<σ.length)(h2:l2<σ.length)(i:Nat):(swS l l2 σ)[i]? =(σ[swp l l2 i]?).map (Blk.ren (swp l l2)):=by
 simp only[swS,List.getElem?_map,List.getD_eq_getElem?_getD]
 congr 1
 by_cases e2:i=l2
 ·subst e2
  rw[zD (by simpa using h2)]
  have:swp l i i=l:=by simp only[swp];split<;>simp_all
  rw[this,zC h];rfl
 ·rw[zE (Ne.symm e2)]
  by_cases e1:i=l
  ·subst e1
   rw[zD h]
   have:swp i l2 i=l2:=by simp[swp]
   rw[this,zC h2];rfl
  ·rw[zE (Ne.symm e1)]
   have:swp l l2 i=i:=by simp[swp,e1,e2]
   rw[this]
theorem ZG9 (l l2 i:Nat):swp l l2 (swp l l2 i)=i:=by
 simp only[swp]
 by_cases e1:i=l
 ·subst e1;simp only[if_true];by_cases e:l2=i<;>simp[e]
 ·by_cases e2:i=l2
  ·subst e2;simp[e1]
  ·simp[e1,e2]
theorem Gh.swap {fr:Frm}(l l2:Nat)(h1:nb<=l)(h2:nb<=l2)(h3:l<σ.length)(h4:l2<σ.length)(hp:ZAZ σ):Gh B nb N ⟨fr,σ⟩ ⟨rnF (swp l l2) fr,swS l l2 σ⟩:=by
 intro m0 w0 m a w h
 have hn:m.n=σ.length:=h.sim.n
 have hlt:∀i,i<m.n->swp l l2 i<m.n:=fun i hi=>by simp only[swp];split<;>(try split)<;>omega
 let m':Map:=⟨fun i=>m.f (swp l l2 i),m.n,m.av⟩
 have hf:∀i,i<m.n->m'.f (swp l l2 i)=m.f i:=fun i _=>by show m.f _=_;rw[ZG9]
 have hwr:∀b,Wr m' b->Wr m b:=fun b ⟨i,hi⟩=>⟨_,hi⟩
 have hav:∀b,Av m' b->Av m b:=fun b hb=>hb.imp (hwr b) id
 have conv:∀{x:AV} {u:Value},Conc B (Av m) w m x u->Conc B (Av m') w m' (x.ren (swp l l2)) u:=fun hc=>Conc.ren_of (m2:=m') (n:=m.n) (Av m') hav hlt hf hc hc.closedN
 refine⟨m',⟨by rw[ZNI];exact hn,fun i=> ?_,fun i i' b a1 a2=> ?_,fun b hb=>h.sim.sep b (hwr b hb),h.sim.avlt,h.sim.tb.sub hwr⟩,⟨h.fr.1,fun i=>by rw[ZM9];exact conv (h.fr.2 i)⟩,h.df,⟨h.step.size,h.step.keep,fun b ccs ty h1 h2 h3=>h.step.phys b ccs ty h1 (hwr b h2) h3,fun b hb=>h.step.fresh b (hwr b hb),fun i hi=> ?_,h.step.n,h.step.av,h.step.tape,h.step.os,h.step.output⟩,h.base,h.ok⟩
 ·show BlkSim B m' w (m.f (swp l l2 i)) (swS l l2 σ)[i]?
  rw[ZNJ h3 h4]
  have hb:=h.sim.blk (swp l l2 i)
  generalize hj:swp l l2 i=j at hb
  cases hσ:σ[j]? with
  |none=>rw[hσ]at hb;exact hb
  |some c=>
   rw[hσ]at hb
   cases c with
   |dead=>exact hb
   |pack xs vs=>exact hb
   |tcells ot cs=>
    obtain⟨b,ccs,ty,g1,g2,g3,g4⟩:=hb
    refine⟨b,ccs,ty,g1,g2,by rw[g3,Zy],fun k x hk=> ?_⟩
    rw[Zz]at hk
    obtain⟨y,hy,rfl⟩:=Option.map_eq_some_iff.1 hk
    obtain⟨v,hv,hc⟩:=g4 k y hy
    exact⟨v,hv,conv hc⟩
   |telems oe sz es=>
    have hpe:=ZAq hp hσ
    obtain⟨g0,g0',hb⟩:=hb
    refine⟨g0,g0',hb.imp id ?_⟩
    rintro⟨b,ccs,ty,g1,g2,g3,g4⟩
    refine⟨b,ccs,ty,g1,g2,g3,fun i e k x hi hk=> ?_⟩
    obtain⟨y,hy,hc⟩:=g4 i e k x hi hk
    exact⟨y,hy,hc.pure_to (ZA6 (hpe e (List.mem_of_getElem? hi)) hk) hav⟩
 ·have:=h.sim.inj _ _ b a1 a2
  rw[←ZG9 l l2 i,this,ZG9]
 ·have hb:=h.base
  have e:swp l l2 i=i:=by simp only[swp];rw[iN (by omega),iN (by omega)]
  show(m0.f i).le (m.f (swp l l2 i))
  rw[e]
  exact h.step.ids i hi
def GhK (B nb N:Nat)(K:ASt->Prop)(st:ASt):Prop:=∃st',Gh B nb N st st'/\K st'
theorem GhK.go {st st':ASt}{K:ASt->Prop}{b:Box K}(hg:Gh B nb N st st')(h:K st'):GhK B nb N (hold K b) st:=⟨st',hg,h⟩
variable {n k:Nat}{l:List (List AV)}
@[simp] theorem ZKp (h:ZFS n l):ZFS n (l.take k):=fun e he=>h e (zA he)
@[simp] theorem ZKq (h:ZFS n l):ZFS n (l.drop k):=fun e he=>h e (zB he)
@[simp] theorem ZHL (h:Zb l):Zb (l.take k):=fun e he=>h e (zA he)
@[simp] theorem ZHM (h:Zb l):Zb (l.drop k):=fun e he=>h e (zB he)
@[simp] theorem ZFb (h:ZX n l):ZX n (l.take k):=fun e he=>h e (zA he)
@[simp] theorem ZFc (h:ZX n l):ZX n (l.drop k):=fun e he=>h e (zB he)
@[simp] theorem ZJL (h:ZBN σ l):ZBN σ (l.take k):=fun e he=>h e (zA he)
@[simp] theorem ZJM (h:ZBN σ l):ZBN σ (l.drop k):=fun e he=>h e (zB he)
variable {j:Nat}
@[simp] theorem ZRK (h:ZFS n l):ZFS n ((l.drop j).take k):=ZKp (ZKq h)
@[simp] theorem ZPK (h:Zb l):Zb ((l.drop j).take k):=ZHL (ZHM h)
@[simp] theorem ZOi (h:ZX n l):ZX n ((l.drop j).take k):=ZFb (ZFc h)
@[simp] theorem ZQi (h:ZBN σ l):ZBN σ ((l.drop j).take k):=ZJL (ZJM h)
attribute [simp] rnF swp swS
end Go.Vl
