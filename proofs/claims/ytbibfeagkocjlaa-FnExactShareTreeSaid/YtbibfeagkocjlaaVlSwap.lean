/- Two local blocks change their names. -/
import Derived.Test.YtbibfeagkocjlaaVlOwn
set_option linter.all false
namespace Go.Vl
open Go Go.RowKit
variable {P : Program} {B nb N : Nat}
theorem Conc.closedN {W:Nat→Prop}{w:World}{m:Map}{x:AV}{v:Value}(h:Conc B W w m x v):x.closed m.n:=by
  have all:∀(cs:List AV),(∀(i:Nat) (x:AV),cs[i]? =some x→x.closed m.n)→AV.closed.closeds m.n cs:=by
    intro cs
    induction cs with
    |nil=>intro _;exact trivial
    |cons c r ih=>intro hc;exact⟨hc 0 c rfl,ih fun i x hi=>hc (i+1) x (by simpa using hi)⟩
  induction h with
  |agg cs us hlen hx ih=>exact all cs fun i x hi=>ih i x hi all
  |tup cs us hlen hx ih=>exact all cs fun i x hi=>ih i x hi all
  |fn f xs ys us vs g1 g2 hx hy ihx ihy=>exact⟨all xs fun i x hi=>ihx i x hi all,all ys fun i x hi=>ihy i x hi all⟩
  |_=>first|exact trivial|assumption
def swp (l l2 i:Nat):Nat:=if i=l then l2 else if i=l2 then l else i
def rnF (π:Nat→Nat):Frm→Frm
  | []=>[]
  |(k,x)::r=>(k,x.ren π)::rnF π r
theorem ZKk {π:Nat→Nat}:∀{fr:Frm} {i:Nat},lk (rnF π fr) i=(lk fr i).ren π
  | [],i=>rfl
  |(k,x)::r,i=>by
    simp only[rnF,lk]
    split
    · rfl
    · exact ZKk
def swS (l l2:Nat)(σ:ZA):ZA:=((σ.set l (σ.getD l2 .dead)).set l2 (σ.getD l .dead)).map (Blk.ren (swp l l2))
theorem ZKq {l l2:Nat}{σ:ZA}:(swS l l2 σ).length=σ.length:=by simp[swS]
theorem ZKr {l l2:Nat}{σ:ZA}(h:l<σ.length)(h2:l2<σ.length)(i:Nat):(swS l l2 σ)[i]? =(σ[swp l l2 i]?).map (Blk.ren (swp l l2)):=by
  simp only[swS,List.getElem?_map,List.getD_eq_getElem?_getD]
  congr 1
  by_cases e2:i=l2
  · subst e2
    rw[List.getElem?_set_self (by simpa using h2)]
    have:swp l i i=l:=by simp only[swp];split<;>simp_all
    rw[this,List.getElem?_eq_getElem h];rfl
  · rw[List.getElem?_set_ne (Ne.symm e2)]
    by_cases e1:i=l
    · subst e1
      rw[List.getElem?_set_self h]
      have:swp i l2 i=l2:=by simp[swp]
      rw[this,List.getElem?_eq_getElem h2];rfl
    · rw[List.getElem?_set_ne (Ne.symm e1)]
      have:swp l l2 i=i:=by simp[swp,e1,e2]
      rw[this]
theorem ZFT (l l2 i:Nat):swp l l2 (swp l l2 i)=i:=by
  simp only[swp]
  by_cases e1:i=l
  · subst e1;simp only[if_true];by_cases e:l2=i<;>simp[e]
  · by_cases e2:i=l2
    · subst e2;simp[e1]
    · simp[e1,e2]
theorem Gh.swap {fr:Frm}{σ:ZA}(l l2:Nat)(h1:nb≤l)(h2:nb≤l2)(h3:l<σ.length)(h4:l2<σ.length)(hp:ZAb σ):Gh B nb N ⟨fr,σ⟩ ⟨rnF (swp l l2) fr,swS l l2 σ⟩:=by
  intro m0 w0 m a w h
  have hn:m.n=σ.length:=h.sim.n
  have hlt:∀i,i<m.n→swp l l2 i<m.n:=fun i hi=>by simp only[swp];split<;>(try split)<;>omega
  let m':Map:=⟨fun i=>m.f (swp l l2 i),m.n,m.av⟩
  have hf:∀i,i<m.n→m'.f (swp l l2 i)=m.f i:=fun i _=>by show m.f _=_;rw[ZFT]
  have hwr:∀b,Wr m' b→Wr m b:=fun b ⟨i,hi⟩=>⟨_,hi⟩
  have hav:∀b,Av m' b→Av m b:=fun b hb=>hb.imp (hwr b) id
  have conv:∀{x:AV} {u:Value},Conc B (Av m) w m x u→Conc B (Av m') w m' (x.ren (swp l l2)) u:=fun hc=>Conc.ren_of (m2:=m') (n:=m.n) (Av m') hav hlt hf hc hc.closedN
  refine⟨m',⟨by rw[ZKq];exact hn,fun i=> ?_,fun i i' b a1 a2=> ?_,fun b hb=>h.sim.sep b (hwr b hb),h.sim.avlt,h.sim.tb.sub hwr⟩,⟨h.fr.1,fun i=>by rw[ZKk];exact conv (h.fr.2 i)⟩,h.df,⟨h.step.size,h.step.keep,fun b ccs ty h1 h2 h3=>h.step.phys b ccs ty h1 (hwr b h2) h3,fun b hb=>h.step.fresh b (hwr b hb),fun i hi=> ?_,h.step.n,h.step.av,h.step.tape,h.step.os,h.step.output⟩,h.base,h.ok⟩
  · show BlkSim B m' w (m.f (swp l l2 i)) (swS l l2 σ)[i]?
    rw[ZKr h3 h4]
    have hb:=h.sim.blk (swp l l2 i)
    generalize hj:swp l l2 i=j at hb
    cases hσ:σ[j]? with
    |none=>rw[hσ]at hb;exact hb
    |some c=>
      rw[hσ]at hb
      cases c with
      |dead=>exact hb
      |pack xs vs=>exact hb
      |tcells ot cs=>
        obtain⟨b,ccs,ty,g1,g2,g3,g4⟩:=hb
        refine⟨b,ccs,ty,g1,g2,by rw[g3,Zm],fun k x hk=> ?_⟩
        rw[Zn]at hk
        obtain⟨y,hy,rfl⟩:=Option.map_eq_some_iff.1 hk
        obtain⟨v,hv,hc⟩:=g4 k y hy
        exact⟨v,hv,conv hc⟩
      |telems oe sz es=>
        have hpe:=ZAa hp hσ
        obtain⟨g0,g0',hb⟩:=hb
        refine⟨g0,g0',hb.imp id ?_⟩
        rintro⟨b,ccs,ty,g1,g2,g3,g4⟩
        refine⟨b,ccs,ty,g1,g2,g3,fun i e k x hi hk=> ?_⟩
        obtain⟨y,hy,hc⟩:=g4 i e k x hi hk
        exact⟨y,hy,hc.pure_to (ZAo (hpe e (List.mem_of_getElem? hi)) hk) hav⟩
  · have:=h.sim.inj _ _ b a1 a2
    rw[←ZFT l l2 i,this,ZFT]
  · have hb:=h.base
    have e:swp l l2 i=i:=by simp only[swp];rw[if_neg (by omega),if_neg (by omega)]
    show(m0.f i).le (m.f (swp l l2 i))
    rw[e]
    exact h.step.ids i hi
theorem ECallA.nilCell {f : FuncId} {args : List AV} {σ : ZA} {K : AV → ZA → Prop} {b : Box K} (l j sz : Nat) {cs : List AV} (hl : σ[l]? = some (.cells cs)) (hj : cs[j]? = some (.lit (.slice none 0 0)))
    (h:ECallA P B f args ((σ.set l (.cells (cs.set j (.own σ.length 0))))++[.elems sz []]) (hold K .mk)):ECallA P B f args σ (hold K b):=by
  obtain⟨r,σ',h1,h2⟩:=h
  exact⟨r,σ',fun K' hK'=>ACall.nilCell (b:=(.mk:Box K')) l j sz hl hj (h1 K' hK'),h2⟩
theorem PureCall.enterG {f : FuncId} {fn : Func} {c : Code} {args : List AV} {r : AV} {st0 : ASt} (hf : P.funcs[f]? = some fn) (hn : (fn.name == "runtime.NumGoroutine") = false) (hb : fn.body = some c)
    (hN:fn.ntmps=N) (hargs:args.length≤N) (hr:r.pure) (hg:Gh B 0 N ⟨ZBF 0 args,[]⟩ st0) (h:awp P B 0 N c st0 (hold (ZBb P fn fun r' _=>r'.le r) .mk)):PureCall P B f args r:=by
  refine⟨⟨fn,hf,hn,by rw[hb];rfl⟩,hr,fun av w vs hav hv=>calls_of_wp hf hb ?_⟩
  subst hN
  let m0:Map:=⟨fun _=>.dead,0,av⟩
  have hWr:∀b,¬Wr m0 b:=by rintro b ⟨l,hl⟩;simp[m0,MS.has]at hl
  have hAv:∀b,Av m0 b→av b:=fun b hb=>hb.resolve_left (hWr b)
  have hsim:Sim B m0 [] w:=⟨rfl,fun l=>by simp[BlkSim,m0],fun l l' b hl=>by simp[m0,MS.has]at hl,fun b hb=>absurd hb (hWr b),hav.1,hav.2.ok fun b hb=>absurd hb (hWr b)⟩
  have hv':RelL B (Av m0) m0 w args vs:=⟨hv.1,fun i x hi=>((hv.2 i x hi).weaken hAv).shift m0⟩
  have hsim0:ASim B 0 fn.ntmps m0 w ⟨ZBF 0 args,[]⟩ m0 ⟨vs++Array.replicate (fn.ntmps-vs.size) undef,[]⟩ w:=
    ⟨hsim,Zy hv' hargs,rfl,Fr.refl m0 w,rfl,fun b hb=>absurd hb (hWr b)⟩
  obtain⟨m1,hsim1⟩:=hg _ _ _ _ _ hsim0
  refine wp_mono (ZQ c _ _ h m0 w m1 _ w hsim1) ?_
  rintro e a' w' ⟨st',m',hq,hs⟩
  have fin:∀(hq:ZBI P st'.σ st'.fr fn.results.toList fun xs=>ZIx st'.σ (pack xs) fun r' _=>r'.le r),
      a'.defers=[]∧∃v,(results fn a'.tmps).run P w'=.ok v w'∧∃u,Ending.returned v=.returned u∧Conc B av w' M0 r u∧Below w.heap.size w w':=by
    intro hq
    obtain⟨xs,u,hK,hrun,hc⟩:=ZN hs hq
    obtain⟨r',σ',m'',hle,hs2,hf2,hc2⟩:=ZAs hs.sim hK hc
    have hfr:=hs.step
    refine⟨hs.df,u,hrun,u,rfl,?_,hfr.os,hfr.tape,hfr.output,hfr.size,fun b hb=>hfr.keep b hb (hWr b)⟩
    refine((hc2.le hle).toM0 hr).weaken fun b hb=>.inr ?_
    rw[hf2.av,hfr.av];exact hb
  cases e with
  |normal=>exact fin hq
  |ret=>exact fin hq
  |_=>exact hq.elim
def GhK (B nb N:Nat)(K:ASt→Prop)(st:ASt):Prop:=∃st',Gh B nb N st st'∧K st'
theorem ADraw.post {ops:Array Oper}{bo:Box ops}{st:ASt}{K:ASt→Prop}{b:Box K}(h:ADraw P B nb N (hold ops .mk) st (hold (GhK B nb N (hold K .mk)) .mk)):ADraw P B nb N (hold ops bo) st (hold K b):=
  ⟨h.1,fun m0 w0 m a w hs Q hn=>h.2 m0 w0 m a w hs Q fun st' m' a' w' ⟨st2,hg,hk⟩ hs'=>by
    obtain⟨m2,hs2⟩:=hg _ _ _ _ _ hs'
    exact hn _ _ _ _ hk hs2⟩
theorem ADraw.postE {ops:Array Oper}{st:ASt}{K:ASt→Prop}{b:Box K}(h:ADraw P B nb N ops st (hold (GhK B nb N (hold K .mk)) .mk)):ADraw P B nb N ops st (hold K b):=
  ⟨h.1,fun m0 w0 m a w hs Q hn=>h.2 m0 w0 m a w hs Q fun st' m' a' w' ⟨st2,hg,hk⟩ hs'=>by
    obtain⟨m2,hs2⟩:=hg _ _ _ _ _ hs'
    exact hn _ _ _ _ hk hs2⟩
theorem GhK.go {st st':ASt}{K:ASt→Prop}{b:Box K}(hg:Gh B nb N st st')(h:K st'):GhK B nb N (hold K b) st:=⟨st',hg,h⟩
@[simp] theorem ZIj {n k:Nat}{l:List (List AV)}(h:ZEE n l):ZEE n (l.take k):=fun e he=>h e (List.mem_of_mem_take he)
@[simp] theorem ZIk {n k:Nat}{l:List (List AV)}(h:ZEE n l):ZEE n (l.drop k):=fun e he=>h e (List.mem_of_mem_drop he)
@[simp] theorem ZFe {k:Nat}{l:List (List AV)}(h:ZZ l):ZZ (l.take k):=fun e he=>h e (List.mem_of_mem_take he)
@[simp] theorem ZFf {k:Nat}{l:List (List AV)}(h:ZZ l):ZZ (l.drop k):=fun e he=>h e (List.mem_of_mem_drop he)
@[simp] theorem ZEK {n k:Nat}{l:List (List AV)}(h:ZT n l):ZT n (l.take k):=fun e he=>h e (List.mem_of_mem_take he)
@[simp] theorem ZEL {n k:Nat}{l:List (List AV)}(h:ZT n l):ZT n (l.drop k):=fun e he=>h e (List.mem_of_mem_drop he)
@[simp] theorem ZHN {σ:ZA}{k:Nat}{l:List (List AV)}(h:ZA8 σ l):ZA8 σ (l.take k):=fun e he=>h e (List.mem_of_mem_take he)
@[simp] theorem ZHO {σ:ZA}{k:Nat}{l:List (List AV)}(h:ZA8 σ l):ZA8 σ (l.drop k):=fun e he=>h e (List.mem_of_mem_drop he)
@[simp] theorem ZOe {n k j:Nat}{l:List (List AV)}(h:ZEE n l):ZEE n ((l.drop j).take k):=ZIj (ZIk h)
@[simp] theorem ZMf {k j:Nat}{l:List (List AV)}(h:ZZ l):ZZ ((l.drop j).take k):=ZFe (ZFf h)
@[simp] theorem ZL7 {n k j:Nat}{l:List (List AV)}(h:ZT n l):ZT n ((l.drop j).take k):=ZEK (ZEL h)
@[simp] theorem ZN6 {σ:ZA}{k j:Nat}{l:List (List AV)}(h:ZA8 σ l):ZA8 σ ((l.drop j).take k):=ZHN (ZHO h)
attribute [simp] rnF swp swS
end Go.Vl
