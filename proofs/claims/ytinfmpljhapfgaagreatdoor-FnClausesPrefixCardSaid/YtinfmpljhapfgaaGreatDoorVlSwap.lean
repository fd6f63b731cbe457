/- A part of the proof. -/
import Derived.Test.YtinfmpljhapfgaaGreatDoorVlOwn
set_option linter.all false
namespace Go.Vl
open Go Go.RowKit
variable {P : Program} {B nb N : Nat}
def swp (l l2 i:Nat):Nat:=if i=l then l2 else if i=l2 then l else i
def rnF (π:Nat->Nat):Frm->Frm
 | []=>[]
 |(k,x)::r=>(k,x.ren π)::rnF π r
def swS (l l2:Nat)(σ:ZA):ZA:=((σ.set l (σ.getD l2 .dead)).set l2 (σ.getD l .dead)).map (Blk.ren (swp l l2))
theorem ECallA.nilCell {f:FuncId}{args:List AV}{σ:ZA}{K:AV->ZA->Prop}{b:Box K}(l j sz:Nat){cs:List AV}(hl:σ[l]? =some (.cells cs))(hj:cs[j]? =some (.lit (.slice none 0 0)))
  (h:ECallA P B f args ((σ.set l (.cells (cs.set j (.own σ.length 0))))++[.elems sz []]) (hold K .mk)):ECallA P B f args σ (hold K b):=by
 obtain⟨r,σ',h1,h2⟩:=h
 exact⟨r,σ',fun K' hK'=>ACall.nilCell (b:=(.mk:Box K')) l j sz hl hj (h1 K' hK'),h2⟩
theorem PureCall.enterG {f:FuncId}{fn:Func}{c:Code}{args:List AV}{r:AV}{st0:ASt}(hf:P.funcs[f]? =some fn)(hn:(fn.name== "runtime.NumGoroutine")=false)(hb:fn.body=some c)
  (hN:fn.ntmps=N) (hargs:args.length<=N) (hr:r.pure) (hg:Gh B 0 N ⟨ZBA 0 args,[]⟩ st0) (h:awp P B 0 N c st0 (hold (ZAe P fn fun r' _=>r'.le r) .mk)):PureCall P B f args r:=by
 refine⟨⟨fn,hf,hn,by rw[hb];rfl⟩,hr,fun av w vs hav hv=>calls_of_wp hf hb ?_⟩
 subst hN
 let m0:Map:=⟨fun _=>.dead,0,av⟩
 have hWr:∀b,¬Wr m0 b:=by rintro b ⟨l,hl⟩;simp[m0,MS.has]at hl
 have hAv:∀b,Av m0 b->av b:=fun b hb=>hb.resolve_left (hWr b)
 have hsim:Sim B m0 [] w:=⟨rfl,fun l=>by simp[BlkSim,m0],fun l l' b hl=>by simp[m0,MS.has]at hl,fun b hb=>absurd hb (hWr b),hav⟩
 have hv':RelL B (Av m0) m0 w args vs:=⟨hv.1,fun i x hi=>((hv.2 i x hi).weaken hAv).shift m0⟩
 have hsim0:ASim B 0 fn.ntmps m0 w ⟨ZBA 0 args,[]⟩ m0 ⟨vs++Array.replicate (fn.ntmps-vs.size) undef,[]⟩ w:=
  ⟨hsim,Zy hv' hargs,rfl,Fr.refl m0 w,rfl,fun b hb=>absurd hb (hWr b)⟩
 obtain⟨m1,hsim1⟩:=hg _ _ _ _ _ hsim0
 refine wp_mono (ZW c _ _ h m0 w m1 _ w hsim1) ?_
 rintro e a' w' ⟨st',m',hq,hs⟩
 have fin:∀(hq:ZBE P st'.σ st'.fr fn.results.toList fun xs=>ZIO st'.σ (pack xs) fun r' _=>r'.le r),
   a'.defers=[]/\∃v,(results fn a'.tmps).run P w'=.ok v w'/\∃u,Ending.returned v=.returned u/\Conc B av w' M0 r u/\Below w.heap.size w w':=by
  intro hq
  obtain⟨xs,u,hK,hrun,hc⟩:=ZS hs hq
  obtain⟨r',σ',m'',hle,hs2,hf2,hc2⟩:=ZAI hs.sim hK hc
  have hfr:=hs.step
  refine⟨hs.df,u,hrun,u,rfl,?_,hfr.os,hfr.tape,hfr.output,hfr.size,fun b hb=>hfr.keep b hb (hWr b)⟩
  refine((hc2.le hle).toM0 hr).weaken fun b hb=>.inr ?_
  rw[hf2.av,hfr.av];exact hb
 cases e with
 |normal=>exact fin hq
 |ret=>exact fin hq
 |_=>exact hq.elim
def GhK (B nb N:Nat)(K:ASt->Prop)(st:ASt):Prop:=∃st',Gh B nb N st st'/\K st'
theorem ADraw.post {ops:Array Oper}{bo:Box ops}{st:ASt}{K:ASt->Prop}{b:Box K}(h:ADraw P B nb N (hold ops .mk) st (hold (GhK B nb N (hold K .mk)) .mk)):ADraw P B nb N (hold ops bo) st (hold K b):=
 ⟨h.1,fun m0 w0 m a w hs Q hn=>h.2 m0 w0 m a w hs Q fun st' m' a' w' ⟨st2,hg,hk⟩ hs'=>by
  obtain⟨m2,hs2⟩:=hg _ _ _ _ _ hs'
  exact hn _ _ _ _ hk hs2⟩
theorem GhK.go {st st':ASt}{K:ASt->Prop}{b:Box K}(hg:Gh B nb N st st')(h:K st'):GhK B nb N (hold K b) st:=⟨st',hg,h⟩
theorem Gh.frzElem {fr:Frm}{σ:ZA}(l i j:Nat){l2 n sz sz2:Nat}{es es2:List (List AV)}{e:List AV}(hl:σ[l]? =some (.elems sz es))(hi:es[i]? =some e)(hj:e[j]? =some (.own l2 n))(hl2:σ[l2]? =some (.elems sz2 es2))(hne:l≠l2)(hn:es2.length=n)(hp:Zg es2):
  Gh B nb N ⟨fr,σ⟩ ⟨fr,(σ.set l2 .dead).set l (.elems sz (es.set i (e.set j (.arr es2))))⟩:=by
 intro m0 w0 m a w h
 have hfr:Fr m w (m.kill l2) w:=Fr.kill m w l2
 have hs:=h.sim.kill hl2
 have hl':(σ.set l2 .dead)[l]? =some (.elems sz es):=by rw[List.getElem?_set_ne (Ne.symm hne)];exact hl
 have hil:i<es.length:=(List.getElem?_eq_some_iff.1 hi).1
 refine⟨m.kill l2,⟨by simpa using hs.n,fun k=> ?_,hs.inj,hs.sep,hs.avlt⟩,⟨h.fr.1,fun i=>(h.fr.2 i).mono hfr⟩,h.df,h.step.trans hfr h.ok,h.base,h.ok⟩
 by_cases e':k=l
 ·subst e'
  have hb:=hs.blk k
  rw[hl']at hb
  rw[List.getElem?_set_self (by have:=(List.getElem?_eq_some_iff.1 hl').1;exact this)]
  obtain⟨h1,h2,h3⟩:=hb
  refine⟨fun x hx=> ?_,by simpa using h2,?_⟩
  ·rcases List.mem_or_eq_of_mem_set hx with hx|rfl
   ·exact h1 x hx
   ·simpa using h1 e (List.mem_of_getElem? hi)
  ·rcases h3 with⟨_,rfl⟩|⟨b,ccs,ty,g1,g2,g3,g4⟩
   ·simp at hil
   refine .inr ⟨b,ccs,ty,by simpa using g1,g2,by simpa using g3,fun i' e0 k' x hi' hk=> ?_⟩
   by_cases ei:i=i'
   ·subst ei
    rw[List.getElem?_set_self hil]at hi'
    obtain rfl:=Option.some.inj hi'
    by_cases ej:j=k'
    ·subst ej
     rw[List.getElem?_set_self (List.getElem?_eq_some_iff.1 hj).1]at hk
     obtain rfl:=Option.some.inj hk
     have hb0:=h.sim.blk k
     rw[hl]at hb0
     obtain⟨_,_,h30⟩:=hb0
     rcases h30 with⟨_,rfl⟩|⟨b0,ccs0,ty0,q1,q2,q3,q4⟩
     ·simp at hil
     obtain⟨y,hy,hc⟩:=q4 i e j _ hi hj
     have e1:(m.kill l2).f k=m.f k:=by simp[Map.kill,hne]
     rw[e1,q1]at g1;cases g1
     rw[q2]at g2;cases g2
     exact⟨y,hy,ZAs h.sim hl2 hn hp hc⟩
    ·rw[List.getElem?_set_ne ej]at hk
     exact g4 i e k' x hi hk
   ·rw[List.getElem?_set_ne ei]at hi'
    exact g4 i' e0 k' x hi' hk
 ·rw[List.getElem?_set_ne (Ne.symm e')]
  exact hs.blk k
@[simp] theorem ZJZ {n k:Nat}{l:List (List AV)}(h:ZEl n l):ZEl n (l.take k):=fun e he=>h e (List.mem_of_mem_take he)
@[simp] theorem ZJa {n k:Nat}{l:List (List AV)}(h:ZEl n l):ZEl n (l.drop k):=fun e he=>h e (List.mem_of_mem_drop he)
@[simp] theorem ZGK {k:Nat}{l:List (List AV)}(h:Zg l):Zg (l.take k):=fun e he=>h e (List.mem_of_mem_take he)
@[simp] theorem ZGL {k:Nat}{l:List (List AV)}(h:Zg l):Zg (l.drop k):=fun e he=>h e (List.mem_of_mem_drop he)
@[simp] theorem ZEt {n k:Nat}{l:List (List AV)}(h:Zf n l):Zf n (l.take k):=fun e he=>h e (List.mem_of_mem_take he)
@[simp] theorem ZEu {n k:Nat}{l:List (List AV)}(h:Zf n l):Zf n (l.drop k):=fun e he=>h e (List.mem_of_mem_drop he)
@[simp] theorem ZH6 {σ:ZA}{k:Nat}{l:List (List AV)}(h:ZBB σ l):ZBB σ (l.take k):=fun e he=>h e (List.mem_of_mem_take he)
@[simp] theorem ZH7 {σ:ZA}{k:Nat}{l:List (List AV)}(h:ZBB σ l):ZBB σ (l.drop k):=fun e he=>h e (List.mem_of_mem_drop he)
@[simp] theorem ZPw {n k j:Nat}{l:List (List AV)}(h:ZEl n l):ZEl n ((l.drop j).take k):=ZJZ (ZJa h)
@[simp] theorem ZNv {k j:Nat}{l:List (List AV)}(h:Zg l):Zg ((l.drop j).take k):=ZGK (ZGL h)
@[simp] theorem ZNK {n k j:Nat}{l:List (List AV)}(h:Zf n l):Zf n ((l.drop j).take k):=ZEt (ZEu h)
@[simp] theorem ZPN {σ:ZA}{k j:Nat}{l:List (List AV)}(h:ZBB σ l):ZBB σ ((l.drop j).take k):=ZH6 (ZH7 h)
attribute [simp] rnF swp swS
end Go.Vl
