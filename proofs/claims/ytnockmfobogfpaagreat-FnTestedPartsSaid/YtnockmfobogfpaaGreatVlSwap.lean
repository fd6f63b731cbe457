/- Part. -/
import Derived.Test.YtnockmfobogfpaaGreatVlOwn
set_option linter.all false
open List renaming mem_of_mem_take->zA,mem_of_mem_drop->zB,getElem?_eq_getElem->zC,getElem?_set_self->zD,getElem?_set_ne->zE
namespace Go.Vl
open Go Go.RowKit
variable {P : Program} {B nb N : Nat}
theorem Conc.closedN {W:Nat->Prop}{w:World}{m:Map}{x:AV}{v:Value}(h:Conc B W w m x v):x.closed m.n:=by
 have all:∀(cs:List AV),(∀(i:Nat) (x:AV),cs[i]? =some x->x.closed m.n)->AV.closed.closeds m.n cs:=by
  intro cs
  induction cs with
  |nil=>intro _;exact trivial
  |cons c r ih=>intro hc;exact⟨hc 0 c rfl,ih fun i x hi=>hc (i+1) x (by simpa using hi)⟩
 induction h with
 |agg cs us hlen hx ih=>exact all cs fun i x hi=>ih i x hi all
 |tup cs us hlen hx ih=>exact all cs fun i x hi=>ih i x hi all
 |fn f xs ys us vs g1 g2 hx hy ihx ihy=>exact⟨all xs fun i x hi=>ihx i x hi all,all ys fun i x hi=>ihy i x hi all⟩
 |_=>first|exact trivial|assumption
def swp (l l2 i:Nat):Nat:=if i=l then l2 else if i=l2 then l else i
def rnF (π:Nat->Nat):Frm->Frm
 | []=>[]
 |(k,x)::r=>(k,x.ren π)::rnF π r
theorem ZNj {π:Nat->Nat}:∀{fr:Frm} {i:Nat},lk (rnF π fr) i=(lk fr i).ren π
 | [],i=>rfl
 |(k,x)::r,i=>by
  simp only[rnF,lk]
  split
  ·rfl
  ·exact ZNj
def swS (l l2:Nat)(σ:ZE):ZE:=((σ.set l (σ.getD l2 .dead)).set l2 (σ.getD l .dead)).map (Blk.ren (swp l l2))
variable {σ:ZE}
theorem ZNx {l l2:Nat}:(swS l l2 σ).length=σ.length:=by simp[swS]
theorem ZNy {l l2:Nat}(h:l<σ.length)(h2:l2<σ.length)(i:Nat):(swS l l2 σ)[i]? =(σ[swp l l2 i]?).map (Blk.ren (swp l l2)):=by
 simp only[swS,List.getElem?_map,List.getD_eq_getElem?_getD]
 congr 1
 by_cases e2:i=l2
 ·subst e2
  rw[zD (by simpa using h2)]
  have:swp l i i=l:=by simp only[swp];split<;>simp_all
  rw[this,zC h];rfl
 ·rw[zE (Ne.symm e2)]
  by_cases e1:i=l
  ·subst e1
   rw[zD h]
   have:swp i l2 i=l2:=by simp[swp]
   rw[this,zC h2];rfl
  ·rw[zE (Ne.symm e1)]
   have:swp l l2 i=i:=by simp[swp,e1,e2]
   rw[this]
theorem ZHI (l l2 i:Nat):swp l l2 (swp l l2 i)=i:=by
 simp only[swp]
 by_cases e1:i=l
 ·subst e1;simp only[if_true];by_cases e:l2=i<;>simp[e]
 ·by_cases e2:i=l2
  ·subst e2;simp[e1]
  ·simp[e1,e2]
theorem Gh.swap {fr:Frm}(l l2:Nat)(h1:nb<=l)(h2:nb<=l2)(h3:l<σ.length)(h4:l2<σ.length)(hp:ZBs σ):Gh B nb N ⟨fr,σ⟩ ⟨rnF (swp l l2) fr,swS l l2 σ⟩:=by
 intro m0 w0 m a w h
 have hn:m.n=σ.length:=h.sim.n
 have hlt:∀i,i<m.n->swp l l2 i<m.n:=fun i hi=>by simp only[swp];split<;>(try split)<;>omega
 let m':Map:=⟨fun i=>m.f (swp l l2 i),m.n,m.av⟩
 have hf:∀i,i<m.n->m'.f (swp l l2 i)=m.f i:=fun i _=>by show m.f _=_;rw[ZHI]
 have hwr:∀b,Wr m' b->Wr m b:=fun b ⟨i,hi⟩=>⟨_,hi⟩
 have hav:∀b,Av m' b->Av m b:=fun b hb=>hb.imp (hwr b) id
 have conv:∀{x:AV} {u:Value},Conc B (Av m) w m x u->Conc B (Av m') w m' (x.ren (swp l l2)) u:=fun hc=>Conc.ren_of (m2:=m') (n:=m.n) (Av m') hav hlt hf hc hc.closedN
 refine⟨m',⟨by rw[ZNx];exact hn,fun i=> ?_,fun i i' b a1 a2=> ?_,fun b hb=>h.sim.sep b (hwr b hb),h.sim.avlt,h.sim.tb.sub hwr⟩,⟨h.fr.1,fun i=>by rw[ZNj];exact conv (h.fr.2 i)⟩,h.df,⟨h.step.size,h.step.keep,fun b ccs ty h1 h2 h3=>h.step.phys b ccs ty h1 (hwr b h2) h3,fun b hb=>h.step.fresh b (hwr b hb),fun i hi=> ?_,h.step.n,h.step.av,h.step.tape,h.step.os,h.step.output⟩,h.base,h.ok⟩
 ·show BlkSim B m' w (m.f (swp l l2 i)) (swS l l2 σ)[i]?
  rw[ZNy h3 h4]
  have hb:=h.sim.blk (swp l l2 i)
  generalize hj:swp l l2 i=j at hb
  cases hσ:σ[j]? with
  |none=>rw[hσ]at hb;exact hb
  |some c=>
   rw[hσ]at hb
   cases c with
   |dead=>exact hb
   |pack xs vs=>exact hb
   |tcells ot cs=>
    obtain⟨b,ccs,ty,g1,g2,g3,g4⟩:=hb
    refine⟨b,ccs,ty,g1,g2,by rw[g3,Zw],fun k x hk=> ?_⟩
    rw[Zx]at hk
    obtain⟨y,hy,rfl⟩:=Option.map_eq_some_iff.1 hk
    obtain⟨v,hv,hc⟩:=g4 k y hy
    exact⟨v,hv,conv hc⟩
   |telems oe sz es=>
    have hpe:=ZAl hp hσ
    obtain⟨g0,g0',hb⟩:=hb
    refine⟨g0,g0',hb.imp id ?_⟩
    rintro⟨b,ccs,ty,g1,g2,g3,g4⟩
    refine⟨b,ccs,ty,g1,g2,g3,fun i e k x hi hk=> ?_⟩
    obtain⟨y,hy,hc⟩:=g4 i e k x hi hk
    exact⟨y,hy,hc.pure_to (ZA1 (hpe e (List.mem_of_getElem? hi)) hk) hav⟩
 ·have:=h.sim.inj _ _ b a1 a2
  rw[←ZHI l l2 i,this,ZHI]
 ·have hb:=h.base
  have e:swp l l2 i=i:=by simp only[swp];rw[iN (by omega),iN (by omega)]
  show(m0.f i).le (m.f (swp l l2 i))
  rw[e]
  exact h.step.ids i hi
variable {args:List AV}
theorem ECallA.nilCell {f:FuncId}{K:AV->ZE->Prop}{b:Box K}(l j sz:Nat){cs:List AV}(hl:σ[l]? =some (.cells cs))(hj:cs[j]? =some (.lit (.slice none 0 0)))(h:ECallA P B f args ((σ.set l (.cells (cs.set j (.own σ.length 0))))++[.elems sz []]) (hold K .mk)):ECallA P B f args σ (hold K b):=by
 obtain⟨r,σ',h1,h2⟩:=h
 exact⟨r,σ',fun K' hK'=>ACall.nilCell (b:=(.mk:Box K')) l j sz hl hj (h1 K' hK'),h2⟩
theorem PureCall.enterG {f:FuncId}{fn:Func}{c:Code}{r:AV}{st0:ASt}(hf:P.funcs[f]? =some fn)(hn:(fn.name== "runtime.NumGoroutine")=false)(hb:fn.body=some c)(hN:fn.ntmps=N)(hargs:args.length<=N)(hr:r.pure)(hg:Gh B 0 N ⟨ZBr 0 args,[]⟩ st0)(h:awp P B 0 N c st0 (hold (ZAG P fn fun r' _=>r'.le r) .mk)):PureCall P B f args r:=by
 refine⟨⟨fn,hf,hn,by rw[hb];rfl⟩,hr,fun av w vs hav hv=>calls_of_wp hf hb ?_⟩
 subst hN
 let m0:Map:=⟨fun _=>.dead,0,av⟩
 have hWr:∀b,¬Wr m0 b:=by rintro b ⟨l,hl⟩;simp[m0,MS.has]at hl
 have hAv:∀b,Av m0 b->av b:=fun b hb=>hb.resolve_left (hWr b)
 have hsim:Sim B m0 [] w:=⟨rfl,fun l=>by simp[BlkSim,m0],fun l l' b hl=>by simp[m0,MS.has]at hl,fun b hb=>absurd hb (hWr b),hav.1,hav.2.ok fun b hb=>absurd hb (hWr b)⟩
 have hv':RelL B (Av m0) m0 w args vs:=⟨hv.1,fun i x hi=>((hv.2 i x hi).weaken hAv).shift m0⟩
 have hsim0:ASim B 0 fn.ntmps m0 w ⟨ZBr 0 args,[]⟩ m0 ⟨vs++Array.replicate (fn.ntmps-vs.size) undef,[]⟩ w:=
  ⟨hsim,ZAW hv' hargs,rfl,Fr.refl m0 w,rfl,fun b hb=>absurd hb (hWr b)⟩
 obtain⟨m1,hsim1⟩:=hg _ _ _ _ _ hsim0
 refine wp_mono (Zi c _ _ h m0 w m1 _ w hsim1) ?_
 rintro e a' w' ⟨st',m',hq,hs⟩
 have fin:∀(hq:ZDd P st'.σ st'.fr fn.results.toList fun xs=>ZJ7 st'.σ (pack xs) fun r' _=>r'.le r),
   a'.defers=[]/\∃v,(results fn a'.tmps).run P w'=.ok v w'/\∃u,Ending.returned v=.returned u/\Conc B av w' M0 r u/\Below w.heap.size w w':=by
  intro hq
  obtain⟨xs,u,hK,hrun,hc⟩:=Zd hs hq
  obtain⟨r',σ',m'',hle,hs2,hf2,hc2⟩:=ZAa hs.sim hK hc
  have hfr:=hs.step
  refine⟨hs.df,u,hrun,u,rfl,?_,hfr.os,hfr.tape,hfr.output,hfr.size,fun b hb=>hfr.keep b hb (hWr b)⟩
  refine((hc2.le hle).toM0 hr).weaken fun b hb=>.inr ?_
  rw[hf2.av,hfr.av];exact hb
 cases e with
 |normal=>exact fin hq
 |ret=>exact fin hq
 |_=>exact hq.elim
def GhK (B nb N:Nat)(K:ASt->Prop)(st:ASt):Prop:=∃st',Gh B nb N st st'/\K st'
variable {K:ASt->Prop}{b:Box K}
theorem ADraw.post {ops:Array Oper}{bo:Box ops}{st:ASt}(h:ADraw P B nb N (hold ops .mk) st (hold (GhK B nb N (hold K .mk)) .mk)):ADraw P B nb N (hold ops bo) st (hold K b):=
 ⟨h.1,fun m0 w0 m a w hs Q hn=>h.2 m0 w0 m a w hs Q fun st' m' a' w' ⟨st2,hg,hk⟩ hs'=>by
  obtain⟨m2,hs2⟩:=hg _ _ _ _ _ hs'
  exact hn _ _ _ _ hk hs2⟩
theorem GhK.go {st st':ASt}(hg:Gh B nb N st st')(h:K st'):GhK B nb N (hold K b) st:=⟨st',hg,h⟩
variable {n k:Nat}{l:List (List AV)}
@[simp] theorem ZKz (h:ZFX n l):ZFX n (l.take k):=fun e he=>h e (zA he)
@[simp] theorem ZK0 (h:ZFX n l):ZFX n (l.drop k):=fun e he=>h e (zB he)
@[simp] theorem ZHT (h:Zf l):Zf (l.take k):=fun e he=>h e (zA he)
@[simp] theorem ZHU (h:Zf l):Zf (l.drop k):=fun e he=>h e (zB he)
@[simp] theorem ZFg (h:Za n l):Za n (l.take k):=fun e he=>h e (zA he)
@[simp] theorem ZFh (h:Za n l):Za n (l.drop k):=fun e he=>h e (zB he)
@[simp] theorem ZJR (h:ZBK σ l):ZBK σ (l.take k):=fun e he=>h e (zA he)
@[simp] theorem ZJS (h:ZBK σ l):ZBK σ (l.drop k):=fun e he=>h e (zB he)
variable {j:Nat}
@[simp] theorem ZR2 (h:ZFX n l):ZFX n ((l.drop j).take k):=ZKz (ZK0 h)
@[simp] theorem ZP0 (h:Zf l):Zf ((l.drop j).take k):=ZHT (ZHU h)
@[simp] theorem ZPQ (h:Za n l):Za n ((l.drop j).take k):=ZFg (ZFh h)
@[simp] theorem ZRT (h:ZBK σ l):ZBK σ ((l.drop j).take k):=ZJR (ZJS h)
attribute [simp] rnF swp swS
end Go.Vl
