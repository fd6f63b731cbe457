/- Part. -/
import Derived.Test.YtnockmfobogfpaaGreatVlDrawX
set_option linter.all false
open Array renaming getElem?_eq_some_iff->zA,getD_eq_getD_getElem?->zB,getElem?_eq_getElem->zC,getElem?_setIfInBounds_ne->zD,replicate->zE
open List renaming getElem?_eq_getElem->zF,getElem?_eq_some_iff->zG,range->zH,all_eq_true->zI,getElem?_eq_none->zJ,mem_cons_of_mem->zK,mem_cons_self->zL,eq_nil_of_length_eq_zero->zM,getD_eq_getElem?_getD->zN,getElem?_append_left->zO,mem_filter->zP
open Nat renaming lt_or_ge->zQ,lt_trans->zR,lt_trichotomy->zS,le_refl->zT,le_trans->zU,lt_of_lt_of_le->zV,strongRecOn->zW,le_zero->zX
open Bool renaming and_eq_true->zY,or_eq_true->zZ
open Option.some renaming inj->yA
open Classical renaming byContradiction->yB
namespace Go.Vl
open Go Go.RowKit
open Go.Region renaming ready->yC,binds->yD,wanted->yE
section
variable {P : Program} {B nb N : Nat} {fs : List FuncId} {Q : Exit -> Act -> World -> Prop}
variable {a:Act}
theorem ZKT {d:Option Nat}{v:Value}{t:Nat}(h:d≠some t):(a.put d v).tmps.getD t undef=a.tmps.getD t undef:=by
 cases d with
 |none=>rfl
 |some k=>
  have:k≠t:=fun e=>h (by rw[e])
  simp[Act.put,zB,zD this]
variable {ops:Array Oper}{i:Nat}{w:World}{K:Act->World->Prop}
theorem ZLt {K':Act->World->Prop}(h:∀a' w',(∀t,(ops[i]?).bind (·.dst)≠some t->a'.tmps.getD t undef=a.tmps.getD t undef)->K a' w'->K' a' w')(hh:wpOp P ops Q i K a w):wpOp P ops Q i K' a w:=by
 unfold wpOp at*
 cases ho:ops[i]? with
 |none=>rw[ho]at hh;exact h _ _ (fun _ _=>rfl) hh
 |some o=>
  rw[ho]at hh h
  simp only at hh ⊢
  have hp:∀v w',K (a.put o.dst v) w'->K' (a.put o.dst v) w':=fun v w' hk=>h _ _ (fun t ht=>ZKT ht) hk
  split
  ·next hw=>
   rw[iP hw]at hh
   refine hh.imp (fun hh=> ?_) id
   unfold Oper.wp at*
   generalize(execOp a.eval o).run P w=r at*
   cases r with
   |ok n w'=>
    cases n<;>simp only[Oper.upon]at hh ⊢<;>
     first
      |exact hp _ _ hh
      |exact h _ _ (fun t ht=>(ZKT ht).trans rfl) hh
      |exact Calls.mono hh (fun e w'' he=>by cases e<;>first|exact hp _ _ he|exact he)
      |exact Rows.mono hh (fun _ _ he=>hp _ _ he)
   |halt x w'=>cases x<;>simp only[Oper.upon]at hh ⊢<;>exact hh
  ·next hw=>rw[iN hw]at hh;exact hp _ _ hh
variable {listed:Array Bool}
theorem ZAn (es:List (Nat×Nat)){k:Nat}:∀{ops:Array Oper},k∈yC .any (ZY es ops) listed↔k∈yC .any ops listed/\∀e,e∈es->k=e.2->listed.getD e.1 false=true:=by
 induction es with
 |nil=>intro ops;exact⟨fun h=>⟨h,fun e he=>by simp at he⟩,fun h=>h.1⟩
 |cons e r ih=>
  obtain⟨i,j⟩:=e
  intro ops
  show k∈yC .any (ZY r (ZEU ops i j)) listed↔_
  rw[ih,Zo]
  constructor
  ·rintro⟨⟨h1,h2⟩,h3⟩
   refine⟨h1,fun e he hk=> ?_⟩
   rcases List.mem_cons.1 he with rfl|he
   ·exact h2 hk
   ·exact h3 e he hk
  ·rintro⟨h1,h2⟩
   exact⟨⟨h1,fun hk=>h2 _ (zL ..) hk⟩,fun e he hk=>h2 e (zK _ he) hk⟩
theorem ZC9 (es:List (Nat×Nat)){k:Nat}:∀{ops:Array Oper},wpOp P (ZY es ops) Q k K a w↔wpOp P ops Q k K a w:=by
 induction es with
 |nil=>intro ops;exact Iff.rfl
 |cons e r ih=>obtain⟨i,j⟩:=e;intro ops;exact(ih (ops:=ZEU ops i j)).trans ZA9
theorem ZI1 (es:List (Nat×Nat)){fuel:Nat}:∀{ops:Array Oper},(∀e,e∈es->listed.getD e.1 false=true)->wpAny P .any (ZY es ops) Q fuel listed a w->wpAny P .any ops Q fuel listed a w:=by
 induction es with
 |nil=>intro ops _ h;exact h
 |cons e r ih=>obtain⟨i,j⟩:=e;intro ops hl h;exact ZCF fuel listed a w (hl _ (zL ..)) (ih (ops:=ZEU ops i j) (fun e he=>hl e (zK _ he)) h)
theorem Conc.closed_n {W:Nat->Prop}{m:Map}{x:AV}{v:Value}(h:Conc B W w m x v):x.closed m.n:=by
 have all:∀(cs:List AV),(∀(i:Nat) (x:AV),cs[i]? =some x->x.closed m.n)->AV.closed.closeds m.n cs:=by
  intro cs
  induction cs with
  |nil=>intro _;exact trivial
  |cons c r ih=>intro hc;exact⟨hc 0 c rfl,ih fun i x hi=>hc (i+1) x (by simpa using hi)⟩
 induction h with
 |agg cs us hlen hx ih=>exact all cs fun i x hi=>ih i x hi all
 |tup cs us hlen hx ih=>exact all cs fun i x hi=>ih i x hi all
 |fn f xs ys us vs g1 g2 hx hy ihx ihy=>exact⟨all xs fun i x hi=>ihx i x hi all,all ys fun i x hi=>ihy i x hi all⟩
 |_=>first|exact trivial|assumption
def Map.hide (m:Map)(n b:Nat):Map:=⟨fun l=>if l<n then m.f l else .dead,n,fun x=>m.av x∨x=b⟩
structure Hid (B nb N:Nat)(m0:Map)(w0:World)(m1 mh:Map)(wh:World)(n b d:Nat)(vs:List Value)(ccs:Array Value)(ty:TypeId):Prop where
 heap:wh.heap[b]? =some (.cells ccs ty (0,0))
 size:ccs.size=vs.length
 vals:∀(i:Nat) (v:Value),vs[i]? =some v->ccs[i]? =some v
 mh:mh=m1.hide n b
 sim1:∃σ1,Sim B m1 σ1 wh
 box:m1.f n=.box b
 n1:m1.n=n+1
 n0:m0.n<=n
 step:Fr m0 w0 m1 wh
 base:m0.n=nb
 ok:ZNT m0 w0
variable {fr:Frm}{σ:ZE}{vs:List Value}
theorem hide {m0 m m':Map}{w0 w':World}{a':Act}{fr':Frm}{d:Nat}(hpre:ASim B nb N m0 w0 ⟨fr,σ⟩ m a w)(h:ASim B nb N m0 w0 ⟨fr',σ++[.cells (vs.map .lit)]⟩ m' a' w')(hfr:∀t,lk fr' t=if some d=some t then .ptr σ.length 0 else lk fr t)(hj:lk fr d=.junk):
  ∃b ccs ty,Hid B nb N m0 w0 m' (m'.hide σ.length b) w' σ.length b d vs ccs ty/\a'.tmps.getD d undef=.pointer (some ⟨b,0,none⟩)/\ASim B σ.length N (m'.hide σ.length b) w' ⟨fr,σ⟩ (m'.hide σ.length b) a' w':=by
 have hn:m.n=σ.length:=hpre.sim.n
 have hn':m'.n=σ.length+1:=by rw[h.sim.n];simp
 have hb:=h.sim.blk σ.length
 rw[show(σ++[Blk.cells (vs.map AV.lit)])[σ.length]? =some (.cells (vs.map .lit)) by simp]at hb
 obtain⟨b,ccs,ty,g1,g2,g3,g4⟩:=hb
 have hlow:∀l,l<σ.length->(m'.hide σ.length b).f l=m'.f l:=fun l hl=>by simp[Map.hide,hl]
 have hwr:∀x,Wr (m'.hide σ.length b) x->Wr m' x/\x≠b:=by
  rintro x ⟨l,hl⟩
  by_cases q:l<σ.length
  ·rw[hlow l q]at hl
   refine⟨⟨l,hl⟩,fun e=> ?_⟩
   subst e
   have:=h.sim.inj l σ.length x hl (by rw[g1];rfl)
   omega
  ·simp only[Map.hide]at hl;rw[iN q]at hl;exact hl.elim
 have hav:∀x,Av (m'.hide σ.length b) x->Av m' x:=by
  rintro x (hx|hx|rfl)
  ·exact .inl (hwr x hx).1
  ·exact .inr hx
  ·exact .inl ⟨σ.length,by rw[g1];rfl⟩
 have conv:∀x y,x.closed σ.length->Conc B (Av m') w' m' x y->Conc B (Av (m'.hide σ.length b)) w' (m'.hide σ.length b) x y:=by
  intro x y hc hx
  have h1:Conc B (Av m') w' (m'.restr σ.length) x y:=hx.restr (Av m') (fun _ h=>h) (by omega) hc
  have h2:=h1.weaken (W':=Av (m'.hide σ.length b)) hav
  exact h2.mono' (zT _) (fun _ _ _=>rfl) (fun _ _ h=>h) _ (fun l _=>.inl rfl) (zT _) (fun _ _ _ _ ccs _ _ _ _ hh=>⟨ccs,hh,rfl⟩)
 have hS:Sim B (m'.hide σ.length b) σ w':=by
  refine⟨rfl,fun l=> ?_,fun l l' x h1 h2=> ?_,fun x hx hh=> ?_,fun x hx=> ?_,h.sim.tb.sub fun x hx=>(hwr x hx).1⟩
  ·by_cases q:l<σ.length
   ·rw[hlow l q]
    have hbl:=h.sim.blk l
    rw[zO q]at hbl
    have hpl:=hpre.sim.blk l
    cases hσ:σ[l]? with
    |none=>rw[hσ]at hbl;exact hbl
    |some k=>
     rw[hσ]at hbl hpl
     cases k with
     |dead=>exact hbl
     |pack xs us=>exact hbl
     |tcells ot cs=>
      obtain⟨c,cc,ty2,q1,q2,q3,q5⟩:=hbl
      obtain⟨_,_,_,_,_,_,p5⟩:=hpl
      refine⟨c,cc,ty2,q1,q2,q3,fun i x hi=> ?_⟩
      obtain⟨y,hy,hc⟩:=q5 i x hi
      obtain⟨y',_,hc'⟩:=p5 i x hi
      have:=hc'.closed_n
      rw[hn]at this
      exact⟨y,hy,conv x y this hc⟩
     |telems oe sz es=>
      obtain⟨q1,q2,q3⟩:=hbl
      obtain⟨_,_,p3⟩:=hpl
      refine⟨q1,q2,q3.imp id ?_⟩
      rintro⟨c,ccs,ty,r1,r2,r3,r4⟩
      refine⟨c,ccs,ty,r1,r2,r3,fun i e k x hi hk=> ?_⟩
      obtain⟨y,hy,hc⟩:=r4 i e k x hi hk
      rcases p3 with⟨_,rfl⟩|⟨_,_,_,_,_,_,p4⟩
      ·simp at hi
      ·obtain⟨y',_,hc'⟩:=p4 i e k x hi hk
       have:=hc'.closed_n
       rw[hn]at this
       exact⟨y,hy,conv x y this hc⟩
   ·have e1:(m'.hide σ.length b).f l=.dead:=by simp[Map.hide,q]
    rw[e1,zJ (by omega)];rfl
  ·have key:∀l x,((m'.hide σ.length b).f l).has x->(m'.f l).has x:=fun l x hx=>by
    by_cases q:l<σ.length
    ·rwa[hlow l q]at hx
    ·simp only[Map.hide]at hx;rw[iN q]at hx;exact hx.elim
   exact h.sim.inj l l' x (key l x h1) (key l' x h2)
  ·obtain⟨h1,h2⟩:=hwr x hx
   rcases hh with hh|hh
   ·exact h.sim.sep x h1 hh
   ·exact h2 hh
  ·rcases hx with hx|rfl
   ·exact h.sim.avlt x hx
   ·exact(zA.1 g2).1
 have hd:a'.tmps.getD d undef=.pointer (some ⟨b,0,none⟩):=by
  have:=h.fr.2 d
  rw[show lk fr' d=.ptr σ.length 0 by rw[hfr];simp]at this
  generalize a'.tmps.getD d undef=v at this
  cases this with
  |ptrOther _ _ _ hl hh=>exact absurd g1 (hh b)
  |ptrBox _ _ b' hl hh=>rw[g1]at hh;injection hh with hh;rw[hh]
 refine⟨b,ccs,ty,⟨g2,by simpa using g3,fun i v hi=> ?_,rfl,⟨_,h.sim⟩,g1,hn',by rw[←hn];exact hpre.step.n,h.step,h.base,h.ok⟩,hd,⟨hS,⟨h.fr.1,fun t=> ?_⟩,h.df,Fr.refl _ _,rfl,hS.mapOk⟩⟩
 ·obtain⟨y,hy,hc⟩:=g4 i (.lit v) (by simp[hi])
  rw[hy,Conc.lit_inv hc]
 ·by_cases q:d=t
  ·subst q;show Conc B _ _ _ (lk fr d) _;rw[hj];exact .junk _
  ·have h1:=h.fr.2 t
   rw[show lk fr' t=lk fr t by rw[hfr,iN (by simpa using q)]]at h1
   have:=(hpre.fr.2 t).closed_n
   rw[hn]at this
   exact conv _ _ this h1
theorem ZPl {m0 m1 mh m:Map}{w0 wh:World}{fr':Frm}{n b d nb':Nat}{ccs:Array Value}{ty:TypeId}(hh:Hid B nb N m0 w0 m1 mh wh n b d vs ccs ty)(h:ASim B nb' N mh wh ⟨fr,σ⟩ m a w)(hd:a.tmps.getD d undef=.pointer (some ⟨b,0,none⟩))(hfr:∀t,lk fr' t=if some d=some t then .ptr σ.length 0 else lk fr t):
  ∃m',ASim B nb N m0 w0 ⟨fr',σ++[.cells (vs.map .lit)]⟩ m' a w:=by
 obtain⟨σ1,hs1⟩:=hh.sim1
 have hmn:m.n=σ.length:=h.sim.n
 have hav:m.av=fun x=>m1.av x∨x=b:=by rw[h.step.av,hh.mh];rfl
 have hbav:m.av b:=by rw[hav];exact .inr rfl
 have hnb:¬Wr m b:=fun q=>h.sim.sep b q hbav
 have hlow:∀l,l<n->mh.f l=m1.f l:=fun l hl=>by rw[hh.mh];simp[Map.hide,hl]
 have hwrh:∀x,Wr mh x->Wr m1 x:=by
  rintro x ⟨l,hl⟩
  rw[hh.mh]at hl
  simp only[Map.hide]at hl
  split at hl
  ·exact⟨l,hl⟩
  ·exact hl.elim
 have hbw:¬Wr mh b:=by
  rintro⟨l,hl⟩
  rw[hh.mh]at hl
  simp only[Map.hide]at hl
  split at hl
  ·have:=hs1.inj l n b hl (by rw[hh.box];rfl);omega
  ·exact hl.elim
 have hblt:b<wh.heap.size:=(zA.1 hh.heap).1
 have hheap:w.heap[b]? =some (.cells ccs ty (0,0)):=by rw[h.step.keep b hblt hbw];exact hh.heap
 let mu:Map:=⟨fun l=>if l=σ.length then .box b else m.f l,σ.length+1,m1.av⟩
 have mulow:∀l,l≠σ.length->mu.f l=m.f l:=fun l hl=>by simp[mu,hl]
 have hwr:∀x,Wr mu x->Wr m x∨x=b:=by
  rintro x ⟨l,hl⟩
  by_cases q:l=σ.length
  ·simp only[mu]at hl;rw[iP q]at hl;exact .inr hl.symm
  ·rw[mulow l q]at hl;exact .inl ⟨l,hl⟩
 have hAv:∀x,Av mu x->Av m x:=by
  rintro x (hx|hx)
  ·rcases hwr x hx with hx|rfl
   ·exact .inl hx
   ·exact .inr hbav
  ·exact .inr (by rw[hav];exact .inl hx)
 have conv:∀x y,Conc B (Av m) w m x y->Conc B (Av mu) w mu x y:=fun x y hx=>
  hx.mono' (zT _) (fun _ _ _=>rfl) (fun x _ hx=>hAv x hx) mu (fun l hl=>by rw[mulow l (by omega)];exact .inl rfl) (by show m.n<=σ.length+1;omega) (fun _ _ _ _ ccs _ _ _ _ hh=>⟨ccs,hh,rfl⟩)
 have hS:Sim B mu (σ++[.cells (vs.map .lit)]) w:=by
  refine⟨by simp[mu],fun l=> ?_,fun l l' x h1 h2=> ?_,fun x hx hx2=> ?_,fun x hx=>h.sim.avlt x (by rw[hav];exact .inl hx),fun g hg=>⟨fun hw=>(hwr g hw).elim (h.sim.tb g hg).1 (fun e=>(hs1.tb g hg).1 ⟨n,by rw[hh.box,e];rfl⟩),(h.sim.tb g hg).2⟩⟩
  ·by_cases q:l=σ.length
   ·subst q
    have e:mu.f σ.length=.box b:=by simp[mu]
    rw[e,show(σ++[Blk.cells (vs.map AV.lit)])[σ.length]? =some (.cells (vs.map .lit)) by simp]
    refine⟨b,ccs,ZSP ty,rfl,hheap,by simpa using hh.size,fun i x hi=> ?_⟩
    rw[List.getElem?_map]at hi
    obtain⟨v,hv,rfl⟩:=Option.map_eq_some_iff.1 hi
    exact⟨v,hh.vals i v hv,.lit v⟩
   ·rw[mulow l q]
    have hbl:=h.sim.blk l
    have e:(σ++[Blk.cells (vs.map AV.lit)])[l]? =σ[l]? :=by
     by_cases q2:l<σ.length
     ·rw[zO q2]
     ·rw[zJ (by simp;omega),zJ (by omega)]
    rw[e]
    cases hσ:σ[l]? with
    |none=>rw[hσ]at hbl;exact hbl
    |some k=>
     rw[hσ]at hbl
     cases k with
     |dead=>exact hbl
     |pack xs us=>exact hbl
     |tcells ot cs=>
      obtain⟨c,cc,ty2,q1,q2,q3,q5⟩:=hbl
      refine⟨c,cc,ty2,q1,q2,q3,fun i x hi=> ?_⟩
      obtain⟨y,hy,hc⟩:=q5 i x hi
      exact⟨y,hy,conv x y hc⟩
     |telems oe sz es=>
      obtain⟨q1,q2,q3⟩:=hbl
      refine⟨q1,q2,q3.imp id ?_⟩
      rintro⟨c,ccs,ty,r1,r2,r3,r4⟩
      refine⟨c,ccs,ty,r1,r2,r3,fun i e k x hi hk=> ?_⟩
      obtain⟨y,hy,hc⟩:=r4 i e k x hi hk
      exact⟨y,hy,conv x y hc⟩
  ·by_cases q:l=σ.length
   ·by_cases q':l'=σ.length
    ·omega
    ·exfalso
     rw[mulow l' q']at h2
     simp only[mu]at h1;rw[iP q]at h1
     have e:b=x:=h1
     subst e;exact hnb ⟨l',h2⟩
   ·by_cases q':l'=σ.length
    ·exfalso
     rw[mulow l q]at h1
     simp only[mu]at h2;rw[iP q']at h2
     have e:b=x:=h2
     subst e;exact hnb ⟨l,h1⟩
    ·rw[mulow l q]at h1;rw[mulow l' q']at h2
     exact h.sim.inj l l' x h1 h2
  ·rcases hwr x hx with hx|rfl
   ·exact h.sim.sep x hx (by rw[hav];exact .inl hx2)
   ·exact hs1.sep x ⟨n,by rw[hh.box];rfl⟩ hx2
 refine⟨mu,hS,⟨h.fr.1,fun t=> ?_⟩,h.df,?_,hh.base,hh.ok⟩
 ·show Conc B _ w mu (lk fr' t) _
  rw[hfr]
  by_cases q:d=t
  ·subst q;rw[iP rfl,hd];exact .ptrBox σ.length 0 b (by show _<σ.length+1;omega) (by simp[mu])
  ·rw[iN (by simpa using q)];exact conv _ _ (h.fr.2 t)
 ·have s1:=hh.step;have s2:=h.step
  refine⟨zU s1.size s2.size,fun x hx hw=> ?_,fun x c ty' hx hx2 hc=> ?_,fun x hx=> ?_,fun l hl=> ?_,?_,?_,s2.tape.trans s1.tape,s2.os.trans s1.os,s2.output.trans s1.output⟩
  ·rw[s2.keep x (zV hx s1.size) fun q=>(s1.fresh x (hwrh x q)).elim hw (fun q=>by omega)]
   exact s1.keep x hx hw
  ·have hlt:x<w0.heap.size:=(zA.1 hc).1
   have hx1:Wr m1 x:=by
    rcases hwr x hx2 with q|rfl
    ·exact hwrh x ((s2.fresh x q).resolve_right (by have:=s1.size;omega))
    ·exact⟨n,by rw[hh.box];rfl⟩
   obtain⟨c1,q1,q2⟩:=s1.phys x c ty' hx hx1 hc
   by_cases q:Wr mh x
   ·have hxm:Wr m x:=(hwr x hx2).resolve_right fun e=>hbw (e▸q)
    obtain⟨c2,q3,q4⟩:=s2.phys x c1 ty' q hxm q1
    exact⟨c2,q3,by omega⟩
   ·exact⟨c1,by rw[s2.keep x (zA.1 q1).1 q];exact q1,q2⟩
  ·rcases hwr x hx with hx|rfl
   ·rcases s2.fresh x hx with hx|hx
    ·exact s1.fresh x (hwrh x hx)
    ·exact .inr (zU s1.size hx)
   ·exact s1.fresh x ⟨n,by rw[hh.box];rfl⟩
  ·have hln:l<n:=zV hl hh.n0
   have hmhn:mh.n=n:=by rw[hh.mh];rfl
   have h1:=s1.ids l hl
   have h2:=s2.ids l (by omega)
   rw[hlow l hln]at h2
   have hnl:=s2.n
   rw[mulow l (by omega)]
   exact MS.le_trans h1 h2
  ·have:=s2.n;have hmhn:mh.n=n:=by rw[hh.mh];rfl
   have:=hh.n0
   show m0.n<=σ.length+1;omega
  ·show m1.av=m0.av
   exact s1.av
def ZLF (fs:List FuncId)(ops:Array Oper)(es:List (Nat×Nat))(F:Nat):Bool:=
 (match ops[F]? with
  |some o=>(match o.op with| .alloc _=>true|_=>false)&& o.guard.isNone&& o.dst.isSome
  |none=>false)&&
 es.all (fun e=>e.2==F&& decide (e.1<F)&& (match ops[e.1]? with|some o=>ZO fs o.op|none=>false))&&
 (zH ops.size).all (fun j=>decide (F<=j)|| !(match ops[j]? with|some o=>ZO fs o.op|none=>false)||(es.contains (j,F)&& (zH ops.size).all fun k=>decide (k<=F)||waitB ops j ops.size k))&&
 (zH ops.size).all fun i=>match ops[i]? with
  |some o=>o.after.toList.all fun e=> !yD .any e||decide (e.on<i)
  |none=>true
structure FloatOk (fs:List FuncId)(ops:Array Oper)(es:List (Nat×Nat))(F:Nat):Prop where
 at':∃o t d,ops[F]? =some o/\o.op=.alloc t/\o.guard=none/\o.dst=some d
 edge:∀e,e∈es->e.2=F/\e.1<F/\∃o,ops[e.1]? =some o/\ZO fs o.op=true
 cov:∀(j:Nat) (o:Oper),ops[j]? =some o->ZO fs o.op=true->j<F->(j,F)∈es/\∀(k:Nat) (p:Oper),ops[k]? =some p->F<k->waitB ops j ops.size k=true
 low:∀(i:Nat) (o:Oper),ops[i]? =some o->∀e∈o.after,yD .any e=true->e.on<i
theorem FloatOk.of {es:List (Nat×Nat)}{F:Nat}(h:ZLF fs ops es F=true):FloatOk fs ops es F:=by
 unfold ZLF at h
 rw[zY,zY,zY]at h
 obtain⟨⟨⟨h1,h2⟩,h3⟩,h4⟩:=h
 refine⟨?_,fun e he=> ?_,fun j o ho he hj=> ?_,fun i o ho e he hb=> ?_⟩
 ·cases ho:ops[F]? with
  |none=>rw[ho]at h1;cases h1
  |some o=>
   rw[ho]at h1
   simp only[zY,Option.isNone_iff_eq_none,Option.isSome_iff_exists]at h1
   obtain⟨⟨q1,q2⟩,d,q3⟩:=h1
   split at q1
   ·next t ht=>exact⟨o,t,d,rfl,ht,q2,q3⟩
   ·cases q1
 ·have:=zI.1 h2 e he
  simp only[zY,beq_iff_eq,decide_eq_true_eq]at this
  obtain⟨⟨q1,q2⟩,q3⟩:=this
  refine⟨q1,q2,?_⟩
  split at q3
  ·next o ho=>exact⟨o,ho,q3⟩
  ·cases q3
 ·have hin:=(zA.1 ho).1
  have:=zI.1 h3 j (by simpa using hin)
  rw[ho]at this
  simp only[he,Bool.not_true,Bool.or_false,zZ,decide_eq_true_eq,zY]at this
  rcases this with q|⟨q1,q2⟩
  ·omega
  ·refine⟨by simpa using q1,fun k p hk hlt=> ?_⟩
   have:=zI.1 q2 k (by simpa using(zA.1 hk).1)
   rw[zZ,decide_eq_true_eq]at this
   rcases this with q|q
   ·omega
   ·exact q
 ·have:=zI.1 h4 i (by simpa using(zA.1 ho).1)
  rw[ho]at this
  have:=zI.1 this e (by simpa using he)
  rw[hb]at this
  simpa using this
theorem ZM9 (es:List (Nat×Nat))(h:∀e,e∈es->e.2≠i):∀{ops:Array Oper},(ZY es ops)[i]? =ops[i]? :=by
 induction es with
 |nil=>intro ops;rfl
 |cons e r ih=>
  obtain⟨a,b⟩:=e
  intro ops
  have hb:i≠b:=fun q=>h (a,b) (zL ..) q.symm
  refine(ih (fun e he=>h e (zK _ he)) (ops:=ZEU ops a b)).trans ?_
  rw[ZCi]
  cases ops[i]? with
  |none=>rfl
  |some o=>simp[hb]
theorem ZAs {k:Nat}{v d:Bool}(h:k≠i):(listed.setIfInBounds k v).getD i d=listed.getD i d:=by
 simp only[zB,zD h]
theorem ZB7 (h:i<listed.size):listed.getD i true=listed.getD i false:=by simp[h]
structure FL (fs:List FuncId)(P:Program)(B N:Nat)(ops:Array Oper)(es:List (Nat×Nat))(F xc:Nat)(fr0 frN:Frm)(infos:List Info)(Sg:Nat->ZE)(S:Nat)(K:ASt->Prop)(eF:Info)(dF:Nat)(vs:List Value):Prop where
 ok:FloatOk fs ops es F
 hd:ZA5 fs (ZY es ops)=true
 hp:PlanX xc fs P B N (ZY es ops) fr0 infos Sg S
 hN:FrX (fun _=>True) fr0 infos frN
 hK:K ⟨frN,Sg S⟩
 hxc:xc=ops.size
 eff:∀(i:Nat) (e:Info),infos[i]? =some e->e.eff=ZO fs e.o.op
 heF:infos[F]? =some eF
 hef:eF.eff=true
 hw:eF.want=true
 hdF:eF.o.dst=some dF
 hjk:lk fr0 dF=.junk
 hV:eF.V=.ptr (Sg eF.rank).length 0
 hS1:Sg (eF.rank+1)=Sg eF.rank++[.cells (vs.map .lit)]
 hex:∀(o:Oper) (ρ:Operand->AV) (σ:ZE),ops[F]? =some o->OpEx P B o ρ σ (.ptr σ.length 0) (σ++[.cells (vs.map .lit)])
section
variable {ops : Array Oper} {es : List (Nat × Nat)} {F xc : Nat} {fr0 frN : Frm} {infos : List Info} {Sg : Nat -> ZE} {S : Nat} {K : ASt -> Prop} {eF : Info} {dF : Nat} {vs : List Value}
theorem FL.nox (b:FL fs P B N ops es F xc fr0 frN infos Sg S K eF dF vs){e:Info}:infos[xc]?≠some e:=by
 intro h
 have:=(zG.1 h).1
 rw[b.hp.len,ZR,b.hxc]at this
 omega
theorem FL.ltF (b:FL fs P B N ops es F xc fr0 frN infos Sg S K eF dF vs):F<ops.size:=by
 obtain⟨o,t,d,h,_⟩:=b.ok.at'
 exact(zA.1 h).1
theorem FL.other (b:FL fs P B N ops es F xc fr0 frN infos Sg S K eF dF vs){i:Nat}(h:i≠F):(ZY es ops)[i]? =ops[i]? :=
 ZM9 es fun e he q=>h (q.symm.trans (b.ok.edge e he).1)
theorem FL.eff_lt (b:FL fs P B N ops es F xc fr0 frN infos Sg S K eF dF vs){j:Nat}{f:Info}(hj:infos[j]? =some f)(hf:f.eff=true):f.rank<eF.rank↔j<F:=by
 constructor
 ·intro h
  rcases zS j F with q|q|q
  ·exact q
  ·subst q;rw[b.heF]at hj;obtain rfl:=yA hj;omega
  ·have:=b.hp.mono F j eF f b.heF hj b.hef hf q;omega
 ·intro h;exact b.hp.mono j F f eF hj b.heF hf b.hef h
variable {m0:Map}{w0:World}
theorem FL.rest (b:FL fs P B N ops es F xc fr0 frN infos Sg S K eF dF vs)(hn:∀st' m' a' w',K st'->ASim B nb N m0 w0 st' m' a' w'->Q .normal a' w'){fuel:Nat}{listed:Array Bool}{fr fr':Frm}{m:Map}{a:Act}{w:World}(hsz:listed.size=ops.size)(hlF:listed.getD F true=false)(hcnt:((zH ops.size).filter fun i=> !(listed.setIfInBounds F true).getD i true).length<=fuel)(hrdy:F∈yC .any (ZY es ops) listed)(hcl:∀(i:Nat) (o:Oper),(ZY es ops)[i]? =some o->listed.getD i true=true->∀e∈o.after,yD .any e=true->listed.getD e.on false=true)(hfr:FrX (fun j=>listed.getD j true=true) fr0 infos fr)(hst:∀(j:Nat) (e:Info),infos[j]? =some e->e.eff=true->(listed.getD j true=true↔e.rank<eF.rank))(hlk:∀t,lk fr' t=if eF.o.dst=some t then eF.V else lk fr t)(h:ASim B nb N m0 w0 ⟨fr',Sg (eF.rank+1)⟩ m a w):wpAny P .any ops Q fuel (listed.setIfInBounds F true) a w:=by
 obtain⟨_,o,ho,hall⟩:=mem_ready.1 hrdy
 obtain⟨hset,hcl'⟩:=ZEs ho (by rw[ZR];exact hsz) hcl hall
 have hl:=(ZAn es).1 hrdy
 refine ZI1 es (fun e he=> ?_) (ZJr b.hd b.hp b.hN b.hK hn (fun e he=>absurd he b.nox) (fun e he=>absurd he b.nox) fuel (listed.setIfInBounds F true) fr' (eF.rank+1) m a w (by simpa[ZR]using hsz) ?_ (by rw[ZR];exact hcnt) hcl'
  (ZIn b.hd b.hp.op b.heF hset hfr hlk) (b.hp.eff F eF b.heF b.hef).1 (fun j e hj he=> ?_) h)
 ·exact getD_set_true (hl.2 e he (b.ok.edge e he).1.symm)
 ·rw[hset];left
  rw[zB,Array.getElem?_eq_none (by rw[hsz,b.hxc];omega)];rfl
 ·rw[hset,hst j e hj he]
  constructor
  ·rintro(q|rfl)
   ·omega
   ·rw[b.heF]at hj;obtain rfl:=yA hj;omega
  ·intro q
   rcases zQ e.rank eF.rank with q'|q'
   ·exact .inl q'
   ·right
    rcases zS j F with h'|h'|h'
    ·have:=b.hp.mono j F e eF hj b.heF he b.hef h';omega
    ·exact h'
    ·have:=b.hp.mono F j eF e b.heF hj b.hef he h';omega
theorem FL.hid (b:FL fs P B N ops es F xc fr0 frN infos Sg S K eF dF vs){m1 mh:Map}{wh:World}(hn:∀st' m' a' w',K st'->ASim B nb N m0 w0 st' m' a' w'->Q .normal a' w'){n bb nb':Nat}{ccs:Array Value}{ty:TypeId}(hH:Hid B nb N m0 w0 m1 mh wh n bb dF vs ccs ty):
  ∀(fuel:Nat) (listed:Array Bool) (fr:Frm) (s:Nat) (m:Map) (a:Act) (w:World),listed.size=ops.size->listed.getD F true=false->
   ((zH ops.size).filter fun i=> !(listed.setIfInBounds F true).getD i true).length<=fuel->ZC2 ops (listed.setIfInBounds F true)->F∈yC .any ops listed->
   (∀(i:Nat) (o:Oper),(ZY es ops)[i]? =some o->listed.getD i true=true->∀e∈o.after,yD .any e=true->listed.getD e.on false=true)->
   FrX (fun j=>listed.getD j true=true) fr0 infos fr->s<eF.rank->
   (∀(j:Nat) (e:Info),infos[j]? =some e->e.eff=true->(listed.getD j true=true↔e.rank<s))->
   a.tmps.getD dF undef=.pointer (some ⟨bb,0,none⟩)->ASim B nb' N mh wh ⟨fr,Sg s⟩ m a w->wpAny P .any ops Q fuel (listed.setIfInBounds F true) a w:=by
 intro fuel
 induction fuel with
 |zero=>
  intro listed fr s m a w hsz hlF hcnt hc hrF hcl hfr hs hst htie h
  exfalso
  obtain⟨j,f,hj,hf,hrk⟩:=b.hp.ranks s (zR hs (b.hp.eff F eF b.heF b.hef).1)
  have hjF:j<F:=(b.eff_lt hj hf).1 (by omega)
  have hnl:listed.getD j true=false:=by
   cases q:listed.getD j true with
   |false=>rfl
   |true=>have:=(hst j f hj hf).1 q;omega
  have:j∈(zH ops.size).filter fun i=> !(listed.setIfInBounds F true).getD i true:=by
   rw[zP]
   refine⟨by have:=b.ltF;simp;omega,?_⟩
   rw[ZAs (by omega),hnl];rfl
  rw[zM (zX.1 hcnt)]at this
  simp at this
 |succ fuel ih=>
  intro listed fr s m a w hsz hlF hcnt hc hrF hcl hfr hs hst htie h
  obtain⟨j,f,hj,hf,hrk⟩:=b.hp.ranks s (zR hs (b.hp.eff F eF b.heF b.hef).1)
  have hjF:j<F:=(b.eff_lt hj hf).1 (by omega)
  have hjs:j<ops.size:=zR hjF b.ltF
  have hnl:listed.getD j true=false:=by
   cases q:listed.getD j true with
   |false=>rfl
   |true=>have:=(hst j f hj hf).1 q;omega
  refine⟨fun hr=> ?_,fun i hi=> ?_⟩
  ·exfalso
   have all:∀i,i<F->listed.getD i true=true:=by
    intro i
    induction i using zW with
    |_ i ihi=>
     intro hiF
     cases hl:listed.getD i true with
     |true=>rfl
     |false=>
      have hin:i<ops.size:=zR hiF b.ltF
      have:i∈yC .any ops (listed.setIfInBounds F true):=mem_ready.2 ⟨by rw[ZAs (by omega)];exact hl,ops[i],zC hin,fun e he hb=>by
       have hlt:=b.ok.low i _ (zC hin) e he hb
       rw[ZAs (by omega),←ZB7 (by omega)]
       exact ihi e.on hlt (by omega)⟩
      rw[hr]at this;simp at this
   rw[all j hjF]at hnl;cases hnl
  ·obtain⟨h0,o,ho,hall⟩:=mem_ready.1 hi
   have hin:i<ops.size:=(zA.1 ho).1
   have hiF:i≠F:=by
    rintro rfl
    simp[hsz,hin]at h0
   have hilt:i<F:=by
    rcases zQ i F with q|q
    ·exact q
    ·exfalso
     have hjo:=b.hp.op j f hj
     rw[b.other (by omega)]at hjo
     have:=ZFD hc ops.size i o ho hall ((b.ok.cov j f.o hjo (by rw[←b.eff j f hj];exact hf) hjF).2 i o ho (by omega))
     rw[ZAs (by omega),←ZB7 (by omega),hnl]at this
     cases this
   have h0':listed.getD i true=false:=by rwa[ZAs (by omega)]at h0
   have hall':∀e∈o.after,yD .any e=true->listed.getD e.on false=true:=fun e he hb=>by
    have:=hall e he hb
    have hlt:=b.ok.low i o ho e he hb
    rwa[ZAs (by omega)]at this
   have hi1:i∈yC .any ops listed:=mem_ready.2 ⟨h0',o,ho,hall'⟩
   have hi2:i∈yC .any (ZY es ops) listed:=(ZAn es).2 ⟨hi1,fun e he q=>absurd (q.trans (b.ok.edge e he).1) hiF⟩
   have hoo:(ZY es ops)[i]? =some o:=(b.other hiF).trans ho
   obtain⟨hset,hcl'⟩:=ZEs hoo (by rw[ZR];exact hsz) hcl hall'
   have hcomm:(listed.setIfInBounds F true).setIfInBounds i true=(listed.setIfInBounds i true).setIfInBounds F true:=Array.setIfInBounds_comm _ _ (Ne.symm hiF)
   have hcnt':=ZHj hin h0 (ZEs ho (by simpa using hsz) (fun i o ho hl e he hb=>hc i o ho (by rw[←ZB7 (by have:=(zA.1 ho).1;simp;omega)];exact hl) e he hb) hall).1 hcnt
   have hcl2:=ZCC hc hi
   rw[hcomm]at hcnt' hcl2 ⊢
   refine(ZC9 es).1 ?_
   refine ZLt (K:=fun a' w'=>a'.tmps.getD dF undef=.pointer (some ⟨bb,0,none⟩)->wpAny P .any ops Q fuel ((listed.setIfInBounds i true).setIfInBounds F true) a' w') (fun a' w' ht hk=>hk ?_) ?_
   ·rw[ht dF ?_];exact htie
    rw[hoo]
    have:=(Zg b.hd (b.hp.op F eF b.heF) hoo).2 (Ne.symm hiF)
    exact this.1 dF b.hdF
   refine ZCb b.hd b.hp (by rw[ZR];exact hsz) hcl hfr (Nat.le_of_lt (zR hs (b.hp.eff F eF b.heF b.hef).1)) hst h hi2 (fun e he hix=>absurd (hix▸he) b.nox) (fun e he _ fr' s' m' a' w' q1 q2 _ q3 q4 htie'=> ?_) (fun e he=>absurd he b.nox) (fun e he=>absurd he b.nox)
   have hst':∀(j:Nat) (e:Info),infos[j]? =some e->e.eff=true->((listed.setIfInBounds i true).getD j true=true↔e.rank<s'):=fun j f hj hf=>by rw[hset];exact q3 j f hj hf
   have hfr':=ZIn b.hd b.hp.op he hset hfr q1
   have hlF':(listed.setIfInBounds i true).getD F true=false:=by rw[ZAs (by omega)];exact hlF
   have hsF:s'<=eF.rank:=by
    rcases zQ eF.rank s' with q|q
    ·have:=(hst' F eF b.heF b.hef).2 q;rw[hlF']at this;cases this
    ·exact q
   have hrF':F∈yC .any ops (listed.setIfInBounds i true):=by
    obtain⟨_,oF,hoF,haF⟩:=mem_ready.1 hrF
    exact mem_ready.2 ⟨hlF',oF,hoF,fun e he hb=>getD_set_true (haF e he hb)⟩
   rcases zQ s' eF.rank with hlt|hge
   ·exact ih (listed.setIfInBounds i true) fr' s' m' a' w' (by simpa using hsz) hlF' hcnt' hcl2 hrF' hcl' hfr' hlt hst' htie' q4
   ·obtain rfl:s'=eF.rank:=by omega
    have hlk:∀t,lk ((dF,eF.V)::fr') t=if some dF=some t then .ptr (Sg eF.rank).length 0 else lk fr' t:=fun t=>by
     rw[b.hV]
     by_cases q:dF=t
     ·subst q;simp[lk]
     ·simp[lk,q]
    obtain⟨m2,hm2⟩:=ZPl (fr':=(dF,eF.V)::fr') hH q4 htie' hlk
    rw[←b.hS1]at hm2
    refine b.rest hn (by simpa using hsz) hlF' hcnt' ((ZAn es).2 ⟨hrF',fun e he _=> ?_⟩) hcl' hfr' hst' (fun t=> ?_) hm2
    ·obtain⟨_,h2,o2,ho2,he2⟩:=b.ok.edge e he
     have hlt2:e.1<infos.length:=by rw[b.hp.len,ZR];exact(zA.1 ho2).1
     have hfo:=b.hp.op e.1 _ (zF hlt2)
     rw[b.other (by omega),ho2]at hfo
     have hff:infos[e.1].eff=true:=by rw[b.eff _ _ (zF hlt2),←yA hfo];exact he2
     rw[←ZB7 (by have:=(zA.1 ho2).1;simp;omega)]
     exact(hst' e.1 _ (zF hlt2) hff).2 ((b.eff_lt (zF hlt2) hff).2 h2)
    ·rw[hlk,b.hV,b.hdF]
theorem FL.run (b:FL fs P B N ops es F xc fr0 frN infos Sg S K eF dF vs)(hn:∀st' m' a' w',K st'->ASim B nb N m0 w0 st' m' a' w'->Q .normal a' w'):
  ∀(fuel:Nat) (listed:Array Bool) (fr:Frm) (s:Nat) (m:Map) (a:Act) (w:World),listed.size=ops.size->listed.getD F true=false->
   ((zH ops.size).filter fun i=> !listed.getD i true).length<=fuel->ZC2 ops listed->
   (∀(i:Nat) (o:Oper),(ZY es ops)[i]? =some o->listed.getD i true=true->∀e∈o.after,yD .any e=true->listed.getD e.on false=true)->
   FrX (fun j=>listed.getD j true=true) fr0 infos fr->s<=S->
   (∀(j:Nat) (e:Info),infos[j]? =some e->e.eff=true->(listed.getD j true=true↔e.rank<s))->
   ASim B nb N m0 w0 ⟨fr,Sg s⟩ m a w->wpAny P .any ops Q fuel listed a w:=by
 intro fuel
 induction fuel with
 |zero=>
  intro listed fr s m a w hsz hlF hcnt hc hcl hfr hs hst h
  exfalso
  have:F∈(zH ops.size).filter fun i=> !listed.getD i true:=by
   rw[zP]
   exact⟨by have:=b.ltF;simpa using this,by rw[hlF];rfl⟩
  rw[zM (zX.1 hcnt)]at this
  simp at this
 |succ fuel ih=>
  intro listed fr s m a w hsz hlF hcnt hc hcl hfr hs hst h
  refine⟨fun hr=> ?_,fun i hi=> ?_⟩
  ·exfalso
   have all:∀i,i<=F->listed.getD i true=true:=by
    intro i
    induction i using zW with
    |_ i ihi=>
     intro hiF
     cases hl:listed.getD i true with
     |true=>rfl
     |false=>
      have hin:i<ops.size:=Nat.lt_of_le_of_lt hiF b.ltF
      have:i∈yC .any ops listed:=mem_ready.2 ⟨hl,ops[i],zC hin,fun e he hb=>by
       have hlt:=b.ok.low i _ (zC hin) e he hb
       rw[←ZB7 (by omega)]
       exact ihi e.on hlt (by omega)⟩
      rw[hr]at this;simp at this
   rw[all F (zT _)]at hlF;cases hlF
  ·obtain⟨h0,o,ho,hall⟩:=mem_ready.1 hi
   have hin:i<ops.size:=(zA.1 ho).1
   have hcl2:=ZCC hc hi
   have hcnt':=ZHj hin h0 (ZEs ho hsz (fun i o ho hl e he hb=>hc i o ho (by rw[←ZB7 (by have:=(zA.1 ho).1;omega)];exact hl) e he hb) hall).1 hcnt
   by_cases hiF:i=F
   ·subst hiF
    by_cases hes:∀e,e∈es->listed.getD e.1 false=true
    ·have hi2:i∈yC .any (ZY es ops) listed:=(ZAn es).2 ⟨hi,fun e he _=>hes e he⟩
     refine(ZC9 es).1 ?_
     refine ZCb b.hd b.hp (by rw[ZR];exact hsz) hcl hfr hs hst h hi2 (fun e he hix=>absurd (hix▸he) b.nox) (fun e he _ fr' s' m' a' w' q1 q2 q5 q3 q4=> ?_) (fun e he=>absurd he b.nox) (fun e he=>absurd he b.nox)
     rw[b.heF]at he;obtain rfl:=yA he
     rw[iP b.hef]at q5
     subst q5
     refine b.rest hn hsz hlF hcnt' hi2 hcl hfr (fun j f hj hf=> ?_) q1 q4
     have:=q3 j f hj hf
     constructor
     ·intro q
      have:=this.1 (.inl q)
      rcases zQ f.rank eF.rank with q'|q'
      ·exact q'
      ·exfalso
       rcases zS j i with h'|h'|h'
       ·have:=(b.eff_lt hj hf).2 h';omega
       ·subst h';rw[hlF]at q;cases q
       ·have:=b.hp.mono i j eF f b.heF hj b.hef hf h';omega
     ·intro q
      rcases this.2 (by omega)with q'|q'
      ·exact q'
      ·subst q';rw[b.heF]at hj;obtain rfl:=yA hj;omega
    ·have hsr:s<eF.rank:=by
      obtain⟨e,he,hne⟩:∃e,e∈es/\¬listed.getD e.1 false=true:=yB fun q=>hes fun e he=>yB fun q'=>q ⟨e,he,q'⟩
      obtain⟨_,h2,o2,ho2,he2⟩:=b.ok.edge e he
      have hlt2:e.1<infos.length:=by rw[b.hp.len,ZR];exact(zA.1 ho2).1
      have hfo:=b.hp.op e.1 _ (zF hlt2)
      rw[b.other (by omega),ho2]at hfo
      have hff:infos[e.1].eff=true:=by rw[b.eff _ _ (zF hlt2),←yA hfo];exact he2
      have hr2:=(b.eff_lt (zF hlt2) hff).2 h2
      rcases zQ infos[e.1].rank s with q|q
      ·exfalso
       have:=(hst e.1 _ (zF hlt2) hff).2 q
       rw[ZB7 (by have:=(zA.1 ho2).1;omega)]at this
       exact hne this
      ·omega
     obtain⟨oF,t,d,k1,k2,k3,k4⟩:=b.ok.at'
     rw[ho]at k1;obtain rfl:=yA k1
     have hdd:o.dst=some dF:=by
      obtain⟨g,g1,g2⟩:=ZA8 es i ops
      have:=b.hp.op i eF b.heF
      rw[g2,ho]at this
      have e1:g o=eF.o:=yA this
      rw[←(g1 o).2.1,e1];exact b.hdF
     have hnd:∀d,o.dst=some d->d<N:=fun d hd=>b.hp.dst i eF d b.heF (by rw[b.hdF,←hdd];exact hd)
     unfold wpOp
     rw[ho]
     simp only
     have hwant:yE o (yielded ops a.tmps)=true:=by unfold yE;rw[k3]
     rw[iP hwant]
     left
     refine OpEx.wp (b.hex o (ev fr) (Sg s) ho) h hnd fun fr' m' a' w' q1 q2=> ?_
     simp only at q1 q2
     have hj0:lk fr dF=.junk:=by
      rw[(hfr dF).2 (fun j f hj hl hdj=> ?_)]
      ·exact b.hjk
      ·by_cases q:j=i
       ·subst q;have hl2:listed.getD j true=true:=hl;rw[hlF]at hl2;cases hl2
       ·exact((Zg b.hd (b.hp.op j f hj) (b.hp.op i eF b.heF)).2 q).1 dF hdj b.hdF
     obtain⟨bb,ccs,ty,hH,htie,hsim⟩:=hide h q2 (d:=dF) (fun t=>by rw[q1,hdd]) hj0
     exact b.hid hn hH fuel listed fr s _ a' w' hsz hlF hcnt' hcl2 hi hcl hfr hsr hst htie hsim
   ·have hi2:i∈yC .any (ZY es ops) listed:=(ZAn es).2 ⟨hi,fun e he q=>absurd (q.trans (b.ok.edge e he).1) hiF⟩
    have hoo:(ZY es ops)[i]? =some o:=(b.other hiF).trans ho
    obtain⟨hset,hcl'⟩:=ZEs hoo (by rw[ZR];exact hsz) hcl hall
    refine(ZC9 es).1 ?_
    refine ZCb b.hd b.hp (by rw[ZR];exact hsz) hcl hfr hs hst h hi2 (fun e he hix=>absurd (hix▸he) b.nox) (fun e he _ fr' s' m' a' w' q1 q2 _ q3 q4=> ?_) (fun e he=>absurd he b.nox) (fun e he=>absurd he b.nox)
    exact ih (listed.setIfInBounds i true) fr' s' m' a' w' (by simpa using hsz) (by rw[ZAs hiF];exact hlF) hcnt' hcl2 hcl' (ZIn b.hd b.hp.op he hset hfr q1) q2 (fun j f hj hf=>by rw[hset];exact q3 j f hj hf) q4
end
theorem ADraw.effL {bo:Box ops}{K:ASt->Prop}{b':Box K}(es:List (Nat×Nat))(F:Nat)(fs:List FuncId)(tab:List (Nat×Nat))(xs:List Nat)(hm:P.follows .mixedOrders=true)(hd:ZA5 fs (ZY es ops)=true)(ht:ZNX fs (ZY es ops) tab=true)(hx:ZDI fs (ZY es ops) tab (xs.map (· ==1))=true)(hfl:ZLF fs ops es F=true)(hjk:∀d,(ops[F]?).bind (fun o:Oper=>o.dst)=some d->lk fr d=.junk)(hnz:∀t i,(ops[F]?).map (fun o:Oper=>o.op)=some (.alloc t)->Zm P t=some i->ZBJ t i.zero=.cells (i.zero.map .lit))(h:aL fs P B N (hold ops .mk) ops.toList xs tab fr [σ] [] [] (hold (fun fr' σ'=>K ⟨fr',σ'⟩) .mk)):ADraw P B nb N (hold ops bo) ⟨fr,σ⟩ (hold K b'):=by
 refine⟨hm,fun m0 w0 m a w hs Q hn=> ?_⟩
 have hok:=FloatOk.of hfl
 have hdst:∀j:Nat,((ZY es ops)[j]?).bind (·.dst)=(ops[j]?).bind (·.dst):=by
  intro j
  obtain⟨g,h1,h2⟩:=ZA8 es j ops
  rw[h2]
  cases ops[j]? with
  |none=>rfl
  |some o=>exact(h1 o).2.1
 have h':aL fs P B N (ZY es ops) (ZY es ops).toList xs tab fr [σ] [] [] (fun fr' σ'=>K ⟨fr',σ'⟩):=by
  refine ZLo (ops:=ops) ops.toList _ xs tab fr [σ] [] [] (by simp[ZR]) (fun i o o' ho ho'=> ?_) h
  obtain⟨g,h1,h2⟩:=ZA8 es i ops
  rw[Array.getElem?_toList]at ho ho'
  rw[h2,ho]at ho'
  obtain rfl:=yA ho'
  refine⟨(h1 o).1,(h1 o).2.1,?_⟩
  rw[(h1 o).2.2]
  cases hg:o.guard with
  |none=>exact .inl ⟨rfl,rfl⟩
  |some p=>obtain⟨j,w⟩:=p;exact .inr ⟨j,j,w,rfl,rfl,hdst j⟩
 have h2:=ZBG (XS:=xs) (TS:=tab) (K:=K) (ZY es ops).toList xs tab fr [] [σ] [] [] (by simp) rfl rfl (fun i e x hi=>by simp at hi) h'
 have lex0:Lex fs P B N (ZY es ops) (ZY es ops).size fr ([]:List Info).reverse fr [σ]:=by
  refine⟨by simp,?_,?_,?_,?_,?_,?_,?_,?_,?_,fun t=>⟨fun j e hj=>by simp at hj,fun _=>rfl⟩,by simp[effCnt]⟩<;>(intro i e hi;simp at hi)
 obtain⟨acc,ss,frN,⟨hfok,hK⟩,hl,hlen,hmore⟩:=ZIy hd (ZY es ops).toList fr [] [σ] h2 (by simp) lex0
 have hSlen:ss.length=effCnt fs (ZY es ops).toList+1:=by
  have:=hl.st
  rw[List.length_reverse,hlen]at this
  rw[this];congr 2;apply List.take_of_length_le;simp
 have hlast:ss.reverse.getD (effCnt fs (ZY es ops).toList) []=ss.headD []:=by
  cases ss with
  |nil=>simp at hSlen
  |cons a r=>simp at hSlen;simp[zN,←hSlen]
 have hfirst:ss.reverse.getD 0 []=σ:=by
  obtain⟨m,rfl⟩:=hmore
  simp[zN]
 have nox:∀e,acc.reverse[(ZY es ops).size]? =some e->e.eff=true:=fun e he=>by
  have:=(zG.1 he).1
  simp[hlen]at this
 have plan:=ZOL hl hlen hSlen nox (ZO5 tab ht _ hx hl hlen hSlen hfok)
 obtain⟨oF,t,d,k1,k2,k3,k4⟩:=hok.at'
 have hFs:F<ops.size:=(zA.1 k1).1
 have hFl:F<acc.reverse.length:=by simp[hlen,ZR];exact hFs
 have heF:=zF hFl
 obtain⟨g,g1,g2⟩:=ZA8 es F ops
 have hoF:g oF=acc.reverse[F].o:=by
  have:=hl.op F _ heF
  rw[g2,k1]at this;exact yA this
 have hop:acc.reverse[F].o.op=.alloc t:=by rw[←hoF,(g1 oF).1];exact k2
 have hgd:acc.reverse[F].o.guard=none:=by rw[←hoF,(g1 oF).2.2];exact k3
 have hdd:acc.reverse[F].o.dst=some d:=by rw[←hoF,(g1 oF).2.1];exact k4
 have hef:acc.reverse[F].eff=true:=by rw[hl.eff F _ heF,hop];rfl
 have hw:acc.reverse[F].want=true:=by have:=hl.guard F _ heF;rw[hgd]at this;exact this
 obtain⟨_,_,hx3⟩:=plan.eff F _ heF hef
 have hx3:=hx3 (by rw[ZR];omega)
 rw[iP hw]at hx3
 unfold OpEx at hx3
 rw[hop]at hx3
 simp only[aef]at hx3
 cases hti:Zm P t with
 |none=>rw[hti]at hx3;exact hx3.elim
 |some i=>
  rw[hti]at hx3
  obtain⟨hz,e1,e2⟩:=hx3
  have hnz:=hnz t i (by rw[k1];exact congrArg some k2) hti
  rw[hnz]at e2
  have b:FL fs P B N ops es F (ZY es ops).size fr frN acc.reverse (fun s=>ss.reverse.getD s []) (effCnt fs (ZY es ops).toList) K acc.reverse[F] d i.zero:=
   ⟨hok,hd,plan,hl.cur,by show K ⟨frN,ss.reverse.getD (effCnt fs (ZY es ops).toList) []⟩;rw[hlast];exact hK,ZR es ops,hl.eff,heF,hef,hw,hdd,hjk d (by rw[k1];exact k4),e1.symm,e2.symm,fun o ρ σ ho=>by
    rw[k1]at ho;obtain rfl:=yA ho
    unfold OpEx
    rw[k2]
    simp[aef,hti,hz,hnz]⟩
  have hnil:∀(x:Nat) (d:Bool),x<ops.size->(zE ops.size false).getD x d=false:=fun x d hx=>by rw[zB,Array.getElem?_replicate,iP hx];rfl
  refine b.run hn ops.size (zE ops.size false) fr 0 m a w (by simp) (hnil F true hFs) (zU (List.length_filter_le _ _) (by simp)) (fun k o ho hlk=> ?_) (fun k o ho hlk=> ?_) (fun t=>⟨fun j e hj hx=> ?_,fun _=>rfl⟩) (Nat.zero_le _) (fun j e hj he=> ?_) (by show ASim B nb N m0 w0 ⟨fr,ss.reverse.getD 0 []⟩ m a w;rw[hfirst];exact hs)
  ·rw[hnil k false (zA.1 ho).1]at hlk;cases hlk
  ·have:=(zA.1 ho).1
   rw[ZR]at this
   rw[hnil k true this]at hlk;cases hlk
  ·have:=(zG.1 hj).1
   simp[hlen,ZR]at this
   have hx2:(zE ops.size false).getD j true=true:=hx
   rw[hnil j true this]at hx2;cases hx2
  ·have:=(zG.1 hj).1
   simp[hlen,ZR]at this
   rw[hnil j true this]
   exact⟨fun q=>(by cases q),fun q=>absurd q (Nat.not_lt_zero _)⟩
end
end Go.Vl
