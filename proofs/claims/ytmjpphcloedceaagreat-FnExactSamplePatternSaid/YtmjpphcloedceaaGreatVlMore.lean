import Derived.Test.YtmjpphcloedceaaGreatVlWp
import Derived.Below
set_option linter.all false
open List renaming mem_cons_of_mem->zA,getElem?_of_mem->zB,getElem?_eq_none->zC,mem_of_getElem?->zD,mapM_cons->zE
open Array renaming getD_eq_getD_getElem?->zF,replicate->zG
open Nat renaming le_refl->zH
namespace Go.Vl
open Go Go.RowKit
open Go.Sem renaming run_pure->zI,run_bind->zJ
open Go.Result renaming andThen_ok->zK
open Go.Instr renaming sureAddr->zL,loadAt->zM
def pack :List AV->AV
 | [x]=>x
 |xs=>.tup xs
def ZBp (P:Program)(σ:ZE)(fr:Frm):List ResultVar->(List AV->Prop)->Prop
 | [],K=>K []
 | .tmp t::r,K=>ZBp P σ fr r fun xs=>K (lk fr t::xs)
 | .cell a t::r,K=>ZCs P t σ (lk fr a) fun x=>ZBp P σ fr r fun xs=>K (x::xs)
def ZKv (σ:ZE)(x:AV)(K:AV->ZE->Prop):Prop:=
 match x with
 | .agg cs=>frz σ cs fun cs' σ'=>K (.agg cs') σ'
 | .own l n=>match σ[l]? with
  |some (.elems _ es)=>es.length=n/\(∀e,e∈es->AV.pure.pures e)/\K (.arr es) (σ.set l .dead)
  |_=>False
 |x=>K x σ
def ZJg (σ:ZE):List AV->(List AV->ZE->Prop)->Prop
 | [],K=>K [] σ
 |x::r,K=>ZKv σ x fun x' σ'=>ZJg σ' r fun r' σ''=>K (x'::r') σ''
def ZJh (σ:ZE)(x:AV)(K:AV->ZE->Prop):Prop:=
 match x with
 | .tup xs=>ZJg σ xs fun xs' σ'=>K (.tup xs') σ'
 |x=>ZKv σ x K
def ZBR (i:Nat):List AV->Frm
 | []=>[]
 |x::r=>(i,x)::ZBR (i+1) r
theorem ZJQ :∀(args:List AV) (i j:Nat),lk (ZBR i args) j=if i<=j/\j<i+args.length then args.getD (j-i) .junk else .junk
 | [],i,j=>by simp[ZBR,lk]
 |x::r,i,j=>by
  simp only[ZBR,lk,List.length_cons]
  by_cases e:i=j
  ·subst e;simp
  ·rw[iN e,ZJQ r (i+1) j]
   by_cases h:i+1<=j/\j<i+1+r.length
   ·rw[iP h,iP (by omega)]
    obtain⟨k,hk⟩:∃k,j-i=k+1:=⟨j-i-1,by omega⟩
    rw[hk,List.getD_cons_succ];congr 1;omega
   ·rw[iN h,iN (by omega)]
def PureCall (P:Program)(B:Nat)(f:FuncId)(args:List AV)(r:AV):Prop:=
 Ent P f/\r.pure/\∀(av:Nat->Prop) w vs,ZPt B av w->RelL B av M0 w args vs->
  Calls P f vs w fun e w'=>∃u,e=.returned u/\Conc B av w' M0 r u/\Below w.heap.size w w'
def ZOx (tmps:Array Value):ResultVar->Sem Value
 | .tmp t=>pure (tmps.getD t undef)
 | .cell c t=>do loadVar t (←asAddr (tmps.getD c undef))
theorem ZHt (fn:Func)(tmps:Array Value):results fn tmps=(do
  let vs ←fn.results.mapM (ZOx tmps)
  pure (if h:vs.size=1 then vs[0]else .tuple vs)):=by
 unfold results
 congr
section
variable {P : Program} {B nb N : Nat} {m0 : Map} {w0 : World}
theorem ZCq {st:ASt}{m:Map}{a:Act}{w:World}(h:ASim B nb N m0 w0 st m a w):∀(rs:List ResultVar) (K:List AV->Prop),ZBp P st.σ st.fr rs K->
  ∃xs us,K xs/\(rs.mapM (ZOx a.tmps)).run P w=.ok us w/\
   us.length=xs.length/\∀(i:Nat) (x:AV),xs[i]? =some x->∃u:Value,us[i]? =some u/\Conc B (Av m) w m x u
 | [],K,hk=>⟨[],[],hk,by simp,rfl,fun i x hi=>by simp at hi⟩
 | .tmp t::r,K,hk=>by
  obtain⟨xs,us,hK,hr,hl,hc⟩:=ZCq h r _ hk
  refine⟨_,a.tmps.getD t undef::us,hK,by rw[zE];simp only[ZOx,zJ,zI,zK,hr],by simp[hl],fun i x hi=> ?_⟩
  cases i with
  |zero=>simp at hi;subst hi;exact⟨_,by simp,h.fr.2 t⟩
  |succ i=>exact hc i x (by simpa using hi)
 | .cell c t::r,K,hk=>by
  obtain⟨x,v,hk',hrun,hcv⟩:=ZDq (P:=P) h.sim hk (h.fr.2 c)
  obtain⟨xs,us,hK,hr,hl,hc⟩:=ZCq h r _ hk'
  have hrun':(do loadVar t (←asAddr (a.tmps.getD c undef)):Sem Value).run P w=.ok v w:=by
   generalize a.tmps.getD c undef=u at hrun
   cases u with
   |pointer ad=>cases ad with
    |none=>simp[zM,zL]at hrun
    |some ad=>simpa[zM,zL,asAddr]using hrun
   |_=>simp[zM,zL]at hrun
  refine⟨_,v::us,hK,?_,by simp[hl],fun i y hi=> ?_⟩
  ·rw[zE]
   simp only[ZOx,zJ]at hrun' ⊢
   rw[hrun'];simp only[zI,zK,hr]
  ·cases i with
   |zero=>simp at hi;subst hi;exact⟨_,by simp,hcv⟩
   |succ i=>exact hc i y (by simpa using hi)
variable {m:Map}{w:World}
theorem ZU {st:ASt}{a:Act}(h:ASim B nb N m0 w0 st m a w){fn:Func}{K:List AV->Prop}(hk:ZBp P st.σ st.fr fn.results.toList K):
  ∃xs u,K xs/\(results fn a.tmps).run P w=.ok u w/\Conc B (Av m) w m (pack xs) u:=by
 obtain⟨xs,us,hK,hr,hl,hc⟩:=ZCq h _ _ hk
 have hrun:(results fn a.tmps).run P w=.ok (if h:us.toArray.size=1 then us.toArray[0]else .tuple us.toArray) w:=by
  rw[ZHt,Array.mapM_eq_mapM_toList]
  simp only[zJ,Sem.run_map,hr,zK,zI]
 refine⟨xs,_,hK,hrun,?_⟩
 clear hrun hr hK
 match xs,us,hl,hc with
 | [x],[u],_,hc=>
  obtain⟨u',hu',hxu⟩:=hc 0 x (by simp)
  simp at hu';subst hu'
  simpa[pack]using hxu
 | [],[],_,_=>
  have:=Conc.tup (B:=B) (W:=Av m) (w:=w) (m:=m) [] #[] rfl (fun i x hi=>by simp at hi)
  simpa[pack]using this
 |x::y::xs,u::v::us,hl,hc=>
  have:=Conc.tup (B:=B) (W:=Av m) (w:=w) (m:=m) (x::y::xs) (u::v::us).toArray (by simpa using hl) (fun i z hi=>by
   obtain⟨q,hq,hz⟩:=hc i z hi
   have:(u::v::us).toArray.getD i undef=q:=by rw[zF,List.getElem?_toArray,hq];rfl
   rw[this];exact hz)
  simpa[pack]using this
variable {σ:ZE}{x:AV}{K:AV->ZE->Prop}{u:Value}
theorem ZEL (h:Sim B m σ w)(hk:ZKv σ x K)(hx:Conc B (Av m) w m x u):
  ∃x' σ' m',K x' σ'/\Sim B m' σ' w/\Fr m w m' w/\Conc B (Av m') w m' x' u:=by
 have same:K x σ->∃x' σ' m',K x' σ'/\Sim B m' σ' w/\Fr m w m' w/\Conc B (Av m') w m' x' u:=fun hk=>⟨x,σ,m,hk,h,Fr.refl m w,hx⟩
 unfold ZKv at hk
 split at hk
 ·next cs=>
  cases hx with
  |agg cs us hlen hx=>
   obtain⟨cs',σ',m',hK,hl,hs,hf,hc⟩:=ZBY cs σ m _ h hk (fun i=>us.getD i undef) hx
   exact⟨_,σ',m',hK,hs,hf,.agg cs' us (by rw[hlen,hl]) hc⟩
 ·next l n=>
  split at hk
  ·next sz es he=>exact⟨_,_,m.kill l,hk.2.2,h.kill he,Fr.kill m w l,ZCg h he hk.1 hk.2.1 hx⟩
  ·exact hk.elim
 ·exact same hk
theorem ZCl {w:World}:∀(xs:List AV) (σ:ZE) (m:Map) (K:List AV->ZE->Prop),Sim B m σ w->ZJg σ xs K->∀us:Nat->Value,
  (∀(i:Nat) (x:AV),xs[i]? =some x->Conc B (Av m) w m x (us i))->
  ∃xs' σ' m',K xs' σ'/\xs'.length=xs.length/\Sim B m' σ' w/\Fr m w m' w/\∀(i:Nat) (x:AV),xs'[i]? =some x->Conc B (Av m') w m' x (us i)
 | [],σ,m,K,h,hk,us,hc=>⟨[],σ,m,hk,rfl,h,Fr.refl m w,fun i x hi=>by simp at hi⟩
 |x::r,σ,m,K,h,hk,us,hc=>by
  obtain⟨x',σ1,m1,hk1,hs1,hf1,hc1⟩:=ZEL h hk (hc 0 x (by simp))
  obtain⟨r',σ2,m2,hK,hl,hs2,hf2,hc2⟩:=ZCl r σ1 m1 _ hs1 hk1 (fun i=>us (i+1)) (fun i x hi=>(hc (i+1) x (by simpa using hi)).mono hf1)
  refine⟨x'::r',σ2,m2,hK,by simp[hl],hs2,hf1.trans hf2 h.mapOk,fun i y hi=> ?_⟩
  cases i with
  |zero=>simp at hi;subst hi;exact hc1.mono hf2
  |succ i=>exact hc2 i y (by simpa using hi)
theorem ZA9 (h:Sim B m σ w)(hk:ZJh σ x K)(hx:Conc B (Av m) w m x u):
  ∃x' σ' m',K x' σ'/\Sim B m' σ' w/\Fr m w m' w/\Conc B (Av m') w m' x' u:=by
 unfold ZJh at hk
 split at hk
 ·next xs=>
  cases hx with
  |tup xs us hlen hx=>
   obtain⟨xs',σ',m',hK,hl,hs,hf,hc⟩:=ZCl xs σ m _ h hk (fun i=>us.getD i undef) hx
   exact⟨_,σ',m',hK,hs,hf,.tup xs' us (by rw[hlen,hl]) hc⟩
 ·exact ZEL h hk hx
variable {W:Nat->Prop}
theorem Conc.weaken {W':Nat->Prop}(h:Conc B W w m x u)(hW:∀b,W' b->W b):Conc B W' w m x u:=
 h.mono' (zH _) (fun _ _ _=>rfl) (fun b _ hb=>hW b hb) m (fun _ _=>.inl rfl) (zH _) (fun _ _ _ _ ccs _ _ _ _ hh=>⟨ccs,hh,rfl⟩)
def ZAR (P:Program)(fn:Func)(K:AV->ZE->Prop)(e:Exit)(st:ASt):Prop:=
 match e with
 | .normal| .ret=>ZBp P st.σ st.fr fn.results.toList fun xs=>ZJh st.σ (pack xs) K
 |_=>False
variable {args:List AV}{vs:Array Value}
theorem ZAU (hv:RelL B W m w args vs)(hN:args.length<=N):
  (vs++zG (N-vs.size) undef).size=N/\∀i,Conc B W w m (lk (ZBR 0 args) i) ((vs++zG (N-vs.size) undef).getD i undef):=by
 obtain⟨h1,h2⟩:=hv
 refine⟨by simp;omega,fun i=> ?_⟩
 rw[ZJQ]
 split
 ·next hi=>
  have hi':i<args.length:=by omega
  have:=h2 i args[i] (by simp[hi'])
  rw[zF,Array.getElem?_append_left (by omega),←zF]
  simpa[List.getD,hi']using this
 ·exact .junk _
def AV.bnd (B:Nat):AV->Prop
 | .arr es=>es.length<=bd B
 | .agg cs=>bnds B cs
 |_=>True
where bnds (B:Nat):List AV->Prop
 | []=>True
 |x::r=>x.bnd B/\bnds B r
theorem Conc.bnd (h:Conc B W w m x u):x.bnd B:=by
 induction h with
 |arr es b off sz cap ys hB hsz hWb hb hcap hc hx ih=>exact hB
 |arrNil a cap=>simp[AV.bnd]
 |agg cs us hlen hx ih=>
  simp only[AV.bnd]
  have:∀(l:List AV),(∀x,x∈l->x.bnd B)->AV.bnd.bnds B l:=by
   intro l
   induction l with
   |nil=>intro _;simp[AV.bnd.bnds]
   |cons a r ih2=>intro hl;simp only[AV.bnd.bnds];exact⟨hl a (by simp),ih2 fun x hx=>hl x (zA _ hx)⟩
  refine this cs fun x hx'=> ?_
  obtain⟨i,hi⟩:=zB hx'
  exact ih i x hi
 |_=>simp[AV.bnd]
theorem RelL.bnds {xs:List AV}(h:RelL B W m w xs vs):AV.bnd.bnds B xs:=by
 have:∀(l:List AV),(∀x,x∈l->x.bnd B)->AV.bnd.bnds B l:=by
  intro l
  induction l with
  |nil=>intro _;simp[AV.bnd.bnds]
  |cons a r ih2=>intro hl;simp only[AV.bnd.bnds];exact⟨hl a (by simp),ih2 fun x hx=>hl x (zA _ hx)⟩
 refine this xs fun x hx'=> ?_
 obtain⟨i,hi⟩:=zB hx'
 exact(h.2 i x hi).bnd
theorem PureCall.intro {f:FuncId}{fn:Func}{c:Code}{r:AV}(hf:P.funcs[f]? =some fn)(hn:(fn.name== "runtime.NumGoroutine")=false)(hb:fn.body=some c)(hN:fn.ntmps=N)(hargs:args.length<=N)(hr:r.pure)(h:AV.bnd.bnds B args->awp P B 0 N c ⟨ZBR 0 args,[]⟩ (ZAR P fn fun r' _=>r'=r)):PureCall P B f args r:=by
 refine⟨⟨fn,hf,hn,by rw[hb];rfl⟩,hr,fun av w vs hav hv=>calls_of_wp hf hb ?_⟩
 subst hN
 let m0:Map:=⟨fun _=>.dead,0,av⟩
 have hWr:∀b,¬Wr m0 b:=by rintro b ⟨l,hl⟩;simp[m0,MS.has]at hl
 have hAv:∀b,Av m0 b->av b:=fun b hb=>hb.resolve_left (hWr b)
 have hsim:Sim B m0 [] w:=⟨rfl,fun l=>by simp[ZAc,m0],fun l l' b hl=>by simp[m0,MS.has]at hl,fun b hb=>absurd hb (hWr b),hav.1,hav.2.ok fun b hb=>absurd hb (hWr b)⟩
 have hv':RelL B (Av m0) m0 w args vs:=⟨hv.1,fun i x hi=>((hv.2 i x hi).weaken hAv).shift m0⟩
 have hsim0:ASim B 0 fn.ntmps m0 w ⟨ZBR 0 args,[]⟩ m0 ⟨vs++zG (fn.ntmps-vs.size) undef,[]⟩ w:=
  ⟨hsim,ZAU hv' hargs,rfl,Fr.refl m0 w,rfl,fun b hb=>absurd hb (hWr b)⟩
 refine wp_mono (ZY c _ _ (h hv.bnds) m0 w m0 _ w hsim0) ?_
 rintro e a' w' ⟨st',m',hq,hs⟩
 have fin:∀(hq:ZBp P st'.σ st'.fr fn.results.toList fun xs=>ZJh st'.σ (pack xs) fun r' _=>r'=r),
   a'.defers=[]/\∃v,(results fn a'.tmps).run P w'=.ok v w'/\∃u,Ending.returned v=.returned u/\Conc B av w' M0 r u/\Below w.heap.size w w':=by
  intro hq
  obtain⟨xs,u,hK,hrun,hc⟩:=ZU hs hq
  obtain⟨r',σ',m'',rfl,hs2,hf2,hc2⟩:=ZA9 hs.sim hK hc
  have hfr:=hs.step
  refine⟨hs.df,u,hrun,u,rfl,?_,hfr.os,hfr.tape,hfr.output,hfr.size,fun b hb=>hfr.keep b hb (hWr b)⟩
  refine(hc2.toM0 hr).weaken fun b hb=>.inr ?_
  rw[hf2.av,hfr.av];exact hb
 cases e with
 |normal=>exact fin hq
 |ret=>exact fin hq
 |_=>exact hq.elim
theorem Fr.ofBelow {w':World}(h:Below w.heap.size w w'):Fr m w m w' where
 size:=h.size
 keep b hb _:=h.block b hb
 phys b ccs ty _ _ hh:=⟨ccs,by rw[h.block b (Array.getElem?_eq_some_iff.1 hh).1,hh],rfl⟩
 fresh b hb:=.inl hb
 ids _ _:=.inl rfl
 n:=zH _
 av:=rfl
 tape:=h.tape
 os:=h.os
 output:=h.output
theorem Sim.below {w':World}(hs:Sim B m σ w)(h:Below w.heap.size w w'):Sim B m σ w':=by
 refine hs.upd (Fr.ofBelow h) σ.length hs.n (fun l _=>⟨rfl,rfl⟩) (fun l b _ hb=>h.block b (hs.lt_of_blk hb)) ?_ ?_
 ·rw[zC (zH _),hs.dead_of_ge (zH _)];rfl
 ·intro l b _ _ hb;rw[hs.dead_of_ge (zH _)]at hb;simp[MS.has]at hb
def ZEf :List AV->Prop
 | []=>True
 |x::r=>x.pure/\ZEf r
theorem ZCI :∀{xs:List AV} {i:Nat} {x:AV},ZEf xs->xs[i]? =some x->x.pure
 |c::r,0,x,h,hi=>by simp at hi;subst hi;exact h.1
 |c::r,i+1,x,h,hi=>ZCI h.2 (by simpa using hi)
theorem PureCall.call {f:FuncId}{r:AV}(h:PureCall P B f args r)(hp:ZEf args)(hK:K r σ):ACall P B f args σ K:=by
 refine⟨h.1,fun m w vs hs hv=> ?_⟩
 refine(h.2.2 (Av m) w vs ⟨fun b hb=>hb.elim (fun hb=>(hs.mapOk b hb).1) (fun hb=>hs.avlt b hb),hs.tb.w⟩ ⟨hv.1,fun i x hi=>(hv.2 i x hi).toM0 (ZCI hp hi)⟩).mono ?_
 rintro e w' ⟨u,rfl,hc,hb⟩
 exact⟨u,r,σ,m,rfl,hK,hs.below hb,hc.shift m,Fr.ofBelow hb⟩
def AV.closed (n:Nat):AV->Prop
 | .own l _| .pre l _ _| .ptr l _| .eptr l _ _ _=>l<n
 | .agg cs| .tup cs=>closeds n cs
 | .fn _ xs ys=>closeds n xs/\closeds n ys
 |_=>True
where closeds (n:Nat):List AV->Prop
 | []=>True
 |x::r=>x.closed n/\closeds n r
end
end Go.Vl
namespace Go.Vl
open Go Go.RowKit
def ZAA (n:Nat)(es:List (List AV)):Prop:=∀e,e∈es->AV.closed.closeds n e
def Blk.closed (n:Nat):Blk->Prop
 | .tcells _ cs=>AV.closed.closeds n cs
 | .telems _ _ es=>ZAA n es
 | .pack _ _=>True
 | .dead=>True
def Zu (n:Nat):ZE->Prop
 | []=>True
 |b::r=>b.closed n/\Zu n r
def ZKx (n:Nat)(fr:Frm):Frm->Prop
 | []=>True
 |(i,v)::r=>lk fr i=v/\v.closed n/\ZKx n fr r
def Map.restr (m:Map)(n:Nat):Map:=⟨fun l=>if l<n then m.f l else .dead,n,m.av⟩
theorem ZN {n:Nat}:∀{cs:List AV} {i:Nat} {x:AV},AV.closed.closeds n cs->cs[i]? =some x->x.closed n
 |c::r,0,x,h,hi=>by simp at hi;subst hi;simp[AV.closed.closeds]at h;exact h.1
 |c::r,i+1,x,h,hi=>by simp[AV.closed.closeds]at h;exact ZN h.2 (by simpa using hi)
theorem ZAk {n:Nat}:∀{s:ZE} {i:Nat} {b:Blk},Zu n s->s[i]? =some b->b.closed n
 |c::r,0,x,h,hi=>by simp at hi;subst hi;exact h.1
 |c::r,i+1,x,h,hi=>ZAk h.2 (by simpa using hi)
theorem ZFb {n:Nat}{fr:Frm}:∀{fr':Frm} (_:ZKx n fr fr') (i:Nat),lk fr' i=.junk∨(lk fr' i=lk fr i/\(lk fr' i).closed n)
 | [],_,i=>.inl rfl
 |(j,v)::r,h,i=>by
  simp only[lk]
  by_cases e:j=i
  ·subst e;rw[iP rfl];exact .inr ⟨h.1.symm,h.2.1⟩
  ·rw[iN e];exact ZFb h.2.2 i
section
variable {B : Nat} {W : Nat -> Prop} {w : World} {m : Map}
theorem Conc.restr {x:AV}{u:Value}(h:Conc B W w m x u){n:Nat}(W':Nat->Prop)(hW:∀b,W' b->W b):n<=m.n->x.closed n->Conc B W' w (m.restr n) x u:=by
 induction h with
 |lit v=>intro _ _;exact .lit v
 |junk v=>intro _ _;exact .junk v
 |arr es b off sz cap ys hB hsz hWb hb hcap hc hx ih=>
  intro _ _
  exact .arr es b off sz cap ys hB hsz (fun hw=>hWb (hW b hw)) hb hcap hc fun i e k x hi hk=>(hx i e k x hi hk).weaken hW
 |arrNil a cap=>intro _ _;exact .arrNil a cap
 |rptr e off b o ys hWb hb hc hx ih=>
  intro _ _
  exact .rptr e off b o ys (fun hw=>hWb (hW b hw)) hb hc fun k x hk=>(hx k x hk).weaken hW
 |preOther l n' k' v hl hk=>intro hn hc;simp only[AV.closed]at hc;exact .preOther l n' k' v (by simpa[Map.restr]using hc) (by simpa[Map.restr,hc]using hk)
 |preNil l a hl hk=>intro hn hc;simp only[AV.closed]at hc;exact .preNil l a (by simpa[Map.restr]using hc) (by simpa[Map.restr,hc]using hk)
 |preArr l b sz len k' cap ccs ty hl hk hk' hh hcap hlen=>
  intro hn hc;simp only[AV.closed]at hc
  exact .preArr l b sz len k' cap ccs ty (by simpa[Map.restr]using hc) (by simpa[Map.restr,hc]using hk) hk' hh hcap hlen
 |ownOther l n' a cap hl hk hcap=>intro hn hc;simp only[AV.closed]at hc;exact .ownOther l n' a cap (by simpa[Map.restr]using hc) (by simpa[Map.restr,hc]using hk) hcap
 |ownNil l a hl hk=>intro hn hc;simp only[AV.closed]at hc;exact .ownNil l a (by simpa[Map.restr]using hc) (by simpa[Map.restr,hc]using hk)
 |ownArr l b sz len cap ccs ty hl hk hh hcap hlen hz=>
  intro hn hc;simp only[AV.closed]at hc
  exact .ownArr l b sz len cap ccs ty (by simpa[Map.restr]using hc) (by simpa[Map.restr,hc]using hk) hh hcap hlen hz
 |ptrOther l off v hl hk=>intro hn hc;simp only[AV.closed]at hc;exact .ptrOther l off v (by simpa[Map.restr]using hc) (by simpa[Map.restr,hc]using hk)
 |ptrBox l off b hl hk=>intro hn hc;simp only[AV.closed]at hc;exact .ptrBox l off b (by simpa[Map.restr]using hc) (by simpa[Map.restr,hc]using hk)
 |eptrOther l n' i off v hl hk=>intro hn hc;simp only[AV.closed]at hc;exact .eptrOther l n' i off v (by simpa[Map.restr]using hc) (by simpa[Map.restr,hc]using hk)
 |eptrArr l n' i off b sz hl hk=>intro hn hc;simp only[AV.closed]at hc;exact .eptrArr l n' i off b sz (by simpa[Map.restr]using hc) (by simpa[Map.restr,hc]using hk)
 |agg cs us hlen hx ih=>intro hn hc;simp only[AV.closed]at hc;exact .agg cs us hlen fun i x hi=>ih i x hi hn (ZN hc hi)
 |tup cs us hlen hx ih=>intro hn hc;simp only[AV.closed]at hc;exact .tup cs us hlen fun i x hi=>ih i x hi hn (ZN hc hi)
 |fn f xs ys us vs g1 g2 hx hy ihx ihy=>
  intro hn hc;simp only[AV.closed]at hc
  exact .fn f xs ys us vs g1 g2 (fun i x hi=>ihx i x hi hn (ZN hc.1 hi)) (fun i x hi=>ihy i x hi hn (ZN hc.2 hi))
end
variable {m:Map}
theorem ZCG {n:Nat}:∀b,Wr (m.restr n) b->Wr m b:=by
 rintro b ⟨l,hl⟩
 simp only[Map.restr]at hl
 split at hl
 ·exact⟨l,hl⟩
 ·simp[MS.has]at hl
theorem ZEd {n:Nat}:∀b,Av (m.restr n) b->Av m b:=fun b hb=>hb.elim (fun h=>.inl (ZCG b h)) .inr
theorem Sim.restr {B:Nat}{s g:ZE}{w:World}(h:Sim B m (s++g) w)(hc:Zu s.length s):Sim B (m.restr s.length) s w where
 n:=rfl
 blk l:=by
  have hn:s.length<=m.n:=by rw[h.n];simp
  by_cases hl:l<s.length
  ·have hb:=h.blk l
   rw[List.getElem?_append_left hl]at hb
   have hf:(m.restr s.length).f l=m.f l:=by simp[Map.restr,hl]
   rw[hf]
   cases hs:s[l]? with
   |none=>rw[hs]at hb;exact hb
   |some k=>
    rw[hs]at hb
    have hcl:=ZAk hc hs
    cases k with
    |dead=>exact hb
    |pack xs vs=>exact hb
    |tcells ot cs=>
     obtain⟨b,ccs,ty,g1,g2,g3,g4⟩:=hb
     refine⟨b,ccs,ty,g1,g2,g3,fun i x hi=> ?_⟩
     obtain⟨y,hy,hxy⟩:=g4 i x hi
     exact⟨y,hy,hxy.restr _ ZEd hn (ZN hcl hi)⟩
    |telems oe sz es=>
     obtain⟨g0,g0',hb⟩:=hb
     refine⟨g0,g0',?_⟩
     rcases hb with hb|⟨b,ccs,ty,g1,g2,g3,g4⟩
     ·exact .inl hb
     ·refine .inr ⟨b,ccs,ty,g1,g2,g3,fun i e k x hi hk=> ?_⟩
      obtain⟨y,hy,hxy⟩:=g4 i e k x hi hk
      exact⟨y,hy,hxy.restr _ ZEd hn (ZN (hcl e (zD hi)) hk)⟩
  ·rw[zC (by omega)]
   simp[Map.restr,hl,ZAc]
 inj l l' b h1 h2:=by
  simp only[Map.restr]at h1 h2
  split at h1
  ·split at h2
   ·exact h.inj l l' b h1 h2
   ·simp[MS.has]at h2
  ·simp[MS.has]at h1
 sep b hb:=h.sep b (ZCG b hb)
 avlt:=h.avlt
 tb:=h.tb.sub ZCG
theorem Fr.restr {m0:Map}{w w0:World}(h:Fr m0 w0 m w){n:Nat}(hn:m0.n<=n):Fr m0 w0 (m.restr n) w where
 size:=h.size
 keep:=h.keep
 phys b ccs ty hw hw2 hh:=h.phys b ccs ty hw (ZCG b hw2) hh
 fresh b hb:=h.fresh b (ZCG b hb)
 ids l hl:=by
  have:l<n:=by omega
  simp only[Map.restr,this,if_true]
  exact h.ids l hl
 n:=hn
 av:=h.av
 tape:=h.tape
 os:=h.os
 output:=h.output
section
variable {B nb N : Nat}
theorem Gh.refl (st:ASt):Gh B nb N st st:=fun _ _ m _ _ h=>⟨m,h⟩
theorem Gh.trans {a b c:ASt}(h:Gh B nb N a b)(h':Gh B nb N b c):Gh B nb N a c:=fun m0 w0 m ac w hs=>
 let⟨m1,h1⟩:=h m0 w0 m ac w hs
 h' m0 w0 m1 ac w h1
theorem Gh.sub {fr fr':Frm}{s:ZE}(g:ZE)(hn:nb<=s.length)(hc:Zu s.length s)(hf:ZKx s.length fr fr'):Gh B nb N ⟨fr,s++g⟩ ⟨fr',s⟩:=by
 intro m0 w0 m a w h
 have hm:s.length<=m.n:=by rw[h.sim.n];simp
 refine⟨m.restr s.length,h.sim.restr hc,⟨h.fr.1,fun i=> ?_⟩,h.df,h.step.restr (by rw[h.base];exact hn),h.base,h.ok⟩
 rcases ZFb hf i with hj|⟨he,hcl⟩
 ·show Conc B _ w _ (lk fr' i) _
  rw[hj];exact .junk _
 ·have:=h.fr.2 i
  have h2:Conc B (Av m) w m (lk fr i) (a.tmps.getD i undef):=this
  rw[←he]at h2
  exact h2.restr _ ZEd hm hcl
theorem Gh.nil {fr:Frm}{σ:ZE}(i sz:Nat)(hi:lk fr i=.lit (.slice none 0 0)):Gh B nb N ⟨fr,σ⟩ ⟨(i,.own σ.length 0)::fr,σ++[.elems sz []]⟩:=by
 intro m0 w0 m a w h
 have hfr:Fr m w (m.push .nil) w:=Fr.push h.sim _ (zH _) (fun _ _=>rfl) (fun b hb=>by simp[MS.has]at hb) rfl rfl rfl
 have hs:=h.sim.push .nil (.elems sz []) hfr (fun _ _=>rfl) (fun b hb=>by simp[MS.has]at hb) ⟨by simp,by simp,.inl ⟨rfl,rfl⟩⟩
 refine⟨m.push .nil,hs,⟨h.fr.1,fun j=> ?_⟩,h.df,h.step.trans hfr h.ok,h.base,h.ok⟩
 simp only[lk]
 by_cases e:i=j
 ·subst e
  rw[iP rfl]
  have hv:Conc B (Av m) w m (lk fr i) (a.tmps.getD i undef):=h.fr.2 i
  rw[hi]at hv
  rw[Conc.lit_inv hv]
  have:m.n=σ.length:=h.sim.n
  rw[←this]
  exact .ownNil m.n none (by simp[Map.push]) (Map.push_new _ _)
 ·rw[iN e]
  exact(h.fr.2 j).mono hfr
end
end Go.Vl
namespace Go.Vl
open Go Go.RowKit
open MS renaming len->zN,has->zO
def AV.le :AV->AV->Prop
 |_,.junk=>True
 | .lit v,.lit u=>v=u
 | .lit v,.arr es=>v=.slice none 0 0/\es=[]
 | .agg xs,.agg ys=>les xs ys
 | .tup xs,.tup ys=>les xs ys
 |x,y=>x=y
where les:List AV->List AV->Prop
 | [],[]=>True
 |x::r,y::s=>x.le y/\les r s
 |_,_=>False
theorem ZBH :∀{xs ys:List AV},AV.le.les xs ys->xs.length=ys.length
 | [],[],_=>rfl
 |_::_,_::_,h=>by simp[ZBH h.2]
 | [],_::_,h=>h.elim
 |_::_,[],h=>h.elim
theorem ZBI :∀{xs ys:List AV} {i:Nat} {y:AV},AV.le.les xs ys->ys[i]? =some y->∃x,xs[i]? =some x/\x.le y
 |x::r,z::s,0,y,h,hi=>by simp at hi;subst hi;exact⟨x,rfl,h.1⟩
 |x::r,z::s,i+1,y,h,hi=>by simpa using ZBI h.2 (by simpa using hi)
 | [],[],i,y,_,hi=>by simp at hi
 | [],_::_,_,_,h,_=>h.elim
 |_::_,[],_,_,h,_=>h.elim
mutual
theorem AV.le_refl :∀x:AV,x.le x
 | .lit _=>by simp[AV.le]
 | .junk=>by simp[AV.le]
 | .arr _=>by simp[AV.le]
 | .rptr _ _=>by simp[AV.le]
 | .own _ _=>by simp[AV.le]
 | .pre _ _ _=>by simp[AV.le]
 | .ptr _ _=>by simp[AV.le]
 | .eptr _ _ _ _=>by simp[AV.le]
 | .agg cs=>by simp only[AV.le];exact AV.les_refl cs
 | .tup cs=>by simp only[AV.le];exact AV.les_refl cs
 | .fn _ _ _=>by simp[AV.le]
theorem AV.les_refl :∀xs:List AV,AV.le.les xs xs
 | []=>trivial
 |x::r=>⟨AV.le_refl x,AV.les_refl r⟩
end
variable {W:Nat->Prop}{w:World}{m:Map}
theorem Conc.le {B:Nat}{x:AV}{v:Value}(h:Conc B W w m x v):∀{y:AV},x.le y->Conc B W w m y v:=by
 induction h with
 |lit v=>
  intro y hy
  cases y with
  |lit u=>simp[AV.le]at hy;subst hy;exact .lit _
  |junk=>exact .junk _
  |arr es=>simp[AV.le]at hy;obtain⟨rfl,rfl⟩:=hy;exact .arrNil _ _
  |_=>simp[AV.le]at hy
 |junk v=>intro y hy;cases y<;>simp[AV.le]at hy;exact .junk _
 |agg cs us hlen hx ih=>
  intro y hy
  cases y with
  |junk=>exact .junk _
  |agg ys=>
   simp only[AV.le]at hy
   exact .agg ys us (by rw[hlen,ZBH hy]) fun i x hi=>by
    obtain⟨z,hz,hle⟩:=ZBI hy hi
    exact ih i z hz hle
  |_=>simp[AV.le]at hy
 |tup cs us hlen hx ih=>
  intro y hy
  cases y with
  |junk=>exact .junk _
  |tup ys=>
   simp only[AV.le]at hy
   exact .tup ys us (by rw[hlen,ZBH hy]) fun i x hi=>by
    obtain⟨z,hz,hle⟩:=ZBI hy hi
    exact ih i z hz hle
  |_=>simp[AV.le]at hy
 |arr es b off sz cap ys hB hsz hWb hb hcap hc hx ih=>
  intro y hy
  cases y<;>simp[AV.le]at hy
  ·exact .junk _
  ·subst hy;exact .arr es b off sz cap ys hB hsz hWb hb hcap hc hx
 |arrNil a cap=>
  intro y hy
  cases y<;>simp[AV.le]at hy
  ·exact .junk _
  ·subst hy;exact .arrNil a cap
 |rptr e off b o ys hWb hb hc hx ih=>
  intro y hy
  cases y<;>simp[AV.le]at hy
  ·exact .junk _
  ·obtain⟨rfl,rfl⟩:=hy;exact .rptr e off b o ys hWb hb hc hx
 |preOther l n k v hl hh=>
  intro y hy
  cases y<;>simp[AV.le]at hy
  ·exact .junk _
  ·obtain⟨rfl,rfl,rfl⟩:=hy;exact .preOther l n k v hl hh
 |preNil l a hl hh=>
  intro y hy
  cases y<;>simp[AV.le]at hy
  ·exact .junk _
  ·obtain⟨rfl,rfl,rfl⟩:=hy;exact .preNil l a hl hh
 |preArr l b sz len k cap ccs ty hl hh hk h1 h2 h3=>
  intro y hy
  cases y<;>simp[AV.le]at hy
  ·exact .junk _
  ·obtain⟨rfl,rfl,rfl⟩:=hy;exact .preArr l b sz len k cap ccs ty hl hh hk h1 h2 h3
 |ownOther l n a cap hl hh hcap=>
  intro y hy
  cases y<;>simp[AV.le]at hy
  ·exact .junk _
  ·obtain⟨rfl,rfl⟩:=hy;exact .ownOther l n a cap hl hh hcap
 |ownNil l a hl hh=>
  intro y hy
  cases y<;>simp[AV.le]at hy
  ·exact .junk _
  ·obtain⟨rfl,rfl⟩:=hy;exact .ownNil l a hl hh
 |ownArr l b sz len cap ccs ty hl hh h1 h2 h3 h4=>
  intro y hy
  cases y<;>simp[AV.le]at hy
  ·exact .junk _
  ·obtain⟨rfl,rfl⟩:=hy;exact .ownArr l b sz len cap ccs ty hl hh h1 h2 h3 h4
 |ptrOther l off v hl hh=>
  intro y hy
  cases y<;>simp[AV.le]at hy
  ·exact .junk _
  ·obtain⟨rfl,rfl⟩:=hy;exact .ptrOther l off v hl hh
 |ptrBox l off b hl hh=>
  intro y hy
  cases y<;>simp[AV.le]at hy
  ·exact .junk _
  ·obtain⟨rfl,rfl⟩:=hy;exact .ptrBox l off b hl hh
 |eptrOther l n i off v hl hh=>
  intro y hy
  cases y<;>simp[AV.le]at hy
  ·exact .junk _
  ·obtain⟨rfl,rfl,rfl,rfl⟩:=hy;exact .eptrOther l n i off v hl hh
 |eptrArr l n i off b sz hl hh=>
  intro y hy
  cases y<;>simp[AV.le]at hy
  ·exact .junk _
  ·obtain⟨rfl,rfl,rfl,rfl⟩:=hy;exact .eptrArr l n i off b sz hl hh
 |fn f xs ys us vs g1 g2 hx hy ihx ihy=>
  intro y hy
  cases y<;>simp[AV.le]at hy
  ·exact .junk _
  ·obtain⟨rfl,rfl,rfl⟩:=hy;exact .fn f xs ys us vs g1 g2 hx hy
def ZKw (n:Nat)(fr:Frm):Frm->Prop
 | []=>True
 |(i,v)::r=>(lk fr i).le v/\v.closed n/\ZKw n fr r
def Blk.le :Blk->Blk->Prop
 |_,.dead=>True
 | .tcells ot cs,.tcells ot' ds=>ot=ot'/\AV.le.les cs ds
 | .telems oe sz es,.telems oe' sz' es'=>oe=oe'/\sz=sz'/\es=es'
 | .pack xs vs,.pack xs' vs'=>xs=xs'/\vs=vs'
 |_,_=>False
def ZGD :ZE->ZE->Prop
 |_,[]=>True
 |b::r,b'::r'=>b.le b'/\ZGD r r'
 | [],_::_=>False
theorem ZHD :∀{σ s:ZE} {i:Nat} {b:Blk},ZGD σ s->s[i]? =some b->∃a,σ[i]? =some a/\a.le b
 |a::r,b'::s,0,b,h,hi=>by simp at hi;subst hi;exact⟨a,rfl,h.1⟩
 |a::r,b'::s,i+1,b,h,hi=>by simpa using ZHD h.2 (by simpa using hi)
 |_,[],_,_,_,hi=>by simp at hi
 | [],_::_,_,_,h,_=>h.elim
theorem ZHZ {n:Nat}{fr:Frm}:∀{fr':Frm} (_:ZKw n fr fr') (i:Nat),lk fr' i=.junk∨((lk fr i).le (lk fr' i)/\(lk fr' i).closed n)
 | [],_,i=>.inl rfl
 |(j,v)::r,h,i=>by
  simp only[lk]
  by_cases e:j=i
  ·subst e;rw[iP rfl];exact .inr ⟨h.1,h.2.1⟩
  ·rw[iN e];exact ZHZ h.2.2 i
def Map.to (m:Map)(s:ZE):Map:=⟨fun l=>match s[l]? with|some (.tcells _ _)=>m.f l|some (.telems _ _ _)=>m.f l|some (.pack _ _)=>m.f l|_=>.dead,s.length,m.av⟩
theorem Map.to_cases (m:Map)(s:ZE)(l:Nat):(m.to s).f l=m.f l∨(m.to s).f l=.dead:=by
 simp only[Map.to]
 split<;>simp
variable {s:ZE}
theorem ZHn :∀b,Wr (m.to s) b->Wr m b:=by
 rintro b ⟨l,hl⟩
 rcases m.to_cases s l with h|h<;>rw[h]at hl
 ·exact⟨l,hl⟩
 ·simp[zO]at hl
theorem ZKF :∀b,Av (m.to s) b->Av m b:=fun b hb=>hb.elim (fun h=>.inl (ZHn b h)) .inr
theorem Conc.to {B:Nat}{x:AV}{u:Value}(h:Conc B W w m x u)(W':Nat->Prop)(hW:∀b,W' b->W b):x.closed s.length->Conc B W' w (m.to s) x u:=by
 induction h with
 |lit v=>intro _;exact .lit v
 |junk v=>intro _;exact .junk v
 |arr es b off sz cap ys hB hsz hWb hb hcap hc hx ih=>
  intro _
  exact .arr es b off sz cap ys hB hsz (fun hw=>hWb (hW b hw)) hb hcap hc fun i e k x hi hk=>(hx i e k x hi hk).weaken hW
 |arrNil a cap=>intro _;exact .arrNil a cap
 |rptr e off b o ys hWb hb hc hx ih=>
  intro _
  exact .rptr e off b o ys (fun hw=>hWb (hW b hw)) hb hc fun k x hk=>(hx k x hk).weaken hW
 | @preOther m l n' k' v hl hk=>
  intro hc;simp only[AV.closed]at hc
  exact .preOther l n' k' v hc (by rcases m.to_cases s l with h|h<;>rw[h];exact hk;simp[zN])
 | @preNil m l a hl hk=>
  intro hc;simp only[AV.closed]at hc
  rcases m.to_cases s l with h|h
  ·exact .preNil l a hc (h.trans hk)
  ·exact .preOther l 0 0 _ hc (by rw[h];simp[zN])
 | @preArr m l b sz len k' cap ccs ty hl hk hk' hh hcap hlen=>
  intro hc;simp only[AV.closed]at hc
  rcases m.to_cases s l with h|h
  ·exact .preArr l b sz len k' cap ccs ty hc (h.trans hk) hk' hh hcap hlen
  ·exact .preOther l len k' _ hc (by rw[h];simp[zN])
 | @ownOther m l n' a cap hl hk hcap=>
  intro hc;simp only[AV.closed]at hc
  exact .ownOther l n' a cap hc (by rcases m.to_cases s l with h|h<;>rw[h];exact hk;simp[zN]) hcap
 | @ownNil m l a hl hk=>
  intro hc;simp only[AV.closed]at hc
  rcases m.to_cases s l with h|h
  ·exact .ownNil l a hc (h.trans hk)
  ·exact .ownOther l 0 _ _ hc (by rw[h];simp[zN]) (zH _)
 | @ownArr m l b sz len cap ccs ty hl hk hh hcap hlen hz=>
  intro hc;simp only[AV.closed]at hc
  rcases m.to_cases s l with h|h
  ·exact .ownArr l b sz len cap ccs ty hc (h.trans hk) hh hcap hlen hz
  ·exact .ownOther l len _ _ hc (by rw[h];simp[zN]) hlen
 | @ptrOther m l off v hl hk=>
  intro hc;simp only[AV.closed]at hc
  exact .ptrOther l off v hc (by rcases m.to_cases s l with h|h<;>rw[h];exact hk;simp)
 | @ptrBox m l off b hl hk=>
  intro hc;simp only[AV.closed]at hc
  rcases m.to_cases s l with h|h
  ·exact .ptrBox l off b hc (h.trans hk)
  ·exact .ptrOther l off _ hc (by rw[h];simp)
 | @eptrOther m l n' i off v hl hk=>
  intro hc;simp only[AV.closed]at hc
  exact .eptrOther l n' i off v hc (by rcases m.to_cases s l with h|h<;>rw[h];exact hk;simp[zN])
 | @eptrArr m l n' i off b sz hl hk=>
  intro hc;simp only[AV.closed]at hc
  rcases m.to_cases s l with h|h
  ·exact .eptrArr l n' i off b sz hc (h.trans hk)
  ·exact .eptrOther l n' i off _ hc (by rw[h];simp[zN])
 |agg cs us hlen hx ih=>intro hc;simp only[AV.closed]at hc;exact .agg cs us hlen fun i x hi=>ih i x hi (ZN hc hi)
 |tup cs us hlen hx ih=>intro hc;simp only[AV.closed]at hc;exact .tup cs us hlen fun i x hi=>ih i x hi (ZN hc hi)
 |fn f xs ys us vs g1 g2 hx hy ihx ihy=>
  intro hc;simp only[AV.closed]at hc
  exact .fn f xs ys us vs g1 g2 (fun i x hi=>ihx i x hi (ZN hc.1 hi)) (fun i x hi=>ihy i x hi (ZN hc.2 hi))
theorem Sim.to {B:Nat}{σ:ZE}(h:Sim B m σ w)(hs:ZGD σ s)(hc:Zu s.length s):Sim B (m.to s) s w where
 n:=rfl
 blk l:=by
  cases hl:s[l]? with
  |none=>simp[ZAc,Map.to,hl]
  |some k=>
   obtain⟨a,ha,hle⟩:=ZHD hs hl
   have hb:=h.blk l
   rw[ha]at hb
   have hcl:=ZAk hc hl
   cases k with
   |dead=>simp[ZAc,Map.to,hl]
   |pack xs vs=>
    have hf:(m.to s).f l=m.f l:=by simp[Map.to,hl]
    rw[hf]
    cases a with
    |pack xs' vs'=>
     obtain⟨rfl,rfl⟩:=hle
     exact hb
    |_=>exact hle.elim
   |tcells ot ds=>
    have hf:(m.to s).f l=m.f l:=by simp[Map.to,hl]
    rw[hf]
    cases a with
    |tcells ot cs=>
     simp only[Blk.le]at hle
     obtain⟨rfl,hle⟩:=hle
     obtain⟨b,ccs,ty,g1,g2,g3,g4⟩:=hb
     refine⟨b,ccs,ty,g1,g2,by rw[g3,ZBH hle],fun i x hi=> ?_⟩
     obtain⟨z,hz,hzx⟩:=ZBI hle hi
     obtain⟨y,hy,hxy⟩:=g4 i z hz
     exact⟨y,hy,(hxy.le hzx).to _ ZKF (ZN hcl hi)⟩
    |_=>exact hle.elim
   |telems oe sz es=>
    have hf:(m.to s).f l=m.f l:=by simp[Map.to,hl]
    rw[hf]
    cases a with
    |telems oe' sz' es'=>
     obtain⟨rfl,rfl,rfl⟩:=hle
     obtain⟨g0,g0',hb⟩:=hb
     refine⟨g0,g0',?_⟩
     rcases hb with hb|⟨b,ccs,ty,g1,g2,g3,g4⟩
     ·exact .inl hb
     ·refine .inr ⟨b,ccs,ty,g1,g2,g3,fun i e k x hi hk=> ?_⟩
      obtain⟨y,hy,hxy⟩:=g4 i e k x hi hk
      exact⟨y,hy,hxy.to _ ZKF (ZN (hcl e (zD hi)) hk)⟩
    |_=>exact hle.elim
 inj l l' b h1 h2:=by
  rcases m.to_cases s l with e|e<;>rw[e]at h1
  ·rcases m.to_cases s l' with e'|e'<;>rw[e']at h2
   ·exact h.inj l l' b h1 h2
   ·simp[zO]at h2
  ·simp[zO]at h1
 sep b hb:=h.sep b (ZHn b hb)
 avlt:=h.avlt
 tb:=h.tb.sub ZHn
theorem Fr.to {m0:Map}{w0:World}(h:Fr m0 w0 m w)(hn:m0.n<=s.length):Fr m0 w0 (m.to s) w where
 size:=h.size
 keep:=h.keep
 phys b ccs ty hw hw2 hh:=h.phys b ccs ty hw (ZHn b hw2) hh
 fresh b hb:=h.fresh b (ZHn b hb)
 ids l hl:=by
  rcases m.to_cases s l with e|e<;>rw[e]
  ·exact h.ids l hl
  ·exact .inr (.inl rfl)
 n:=hn
 av:=h.av
 tape:=h.tape
 os:=h.os
 output:=h.output
section
variable {P : Program} {B nb N : Nat}
theorem Gh.to {fr fr':Frm}{σ s:ZE}(hn:nb<=s.length)(hs:ZGD σ s)(hc:Zu s.length s)(hf:ZKw s.length fr fr'):Gh B nb N ⟨fr,σ⟩ ⟨fr',s⟩:=by
 intro m0 w0 m a w h
 refine⟨m.to s,h.sim.to hs hc,⟨h.fr.1,fun i=> ?_⟩,h.df,h.step.to (by rw[h.base];exact hn),h.base,h.ok⟩
 rcases ZHZ hf i with hj|⟨he,hcl⟩
 ·show Conc B _ w _ (lk fr' i) _
  rw[hj];exact .junk _
 ·have h2:Conc B (Av m) w m (lk fr i) (a.tmps.getD i undef):=h.fr.2 i
  exact(h2.le he).to _ ZKF hcl
def ZOF (P:Program)(c:Code)(Q:Exit->Act->World->Prop)(a:Act)(w:World):Prop:=
 ∀(b:Frame) (k:List Item) (cs:List Frame),∃e a' w',Q e a' w'/\Arrives P (lone (b.at a (.code c:: .inLoop c::k)) cs w) b k cs e a' w'
variable {c:Code}
theorem ZFX {Q:Exit->Act->World->Prop}{a:Act}{w:World}(h:ZOF P c Q a w):(Code.loop c).wp P Q a w:=by
 intro b k cs
 obtain⟨e,a',w',hq,harr⟩:=h b k cs
 exact⟨e,a',w',hq,.of_steps (.one step_loop) harr⟩
theorem ZDY {Q:Exit->Act->World->Prop}{a:Act}{w:World}(h:c.wp P (Exit.then (ZOF P c Q) Q) a w):ZOF P c Q a w:=by
 intro b k cs
 obtain⟨e,a₁,w₁,hq,harr⟩:=h b (.inLoop c::k) cs
 cases e with
 |normal=>
  obtain⟨e₂,a₂,w₂,hq₂,harr₂⟩:=hq b k cs
  exact⟨e₂,a₂,w₂,hq₂,.of_steps (Steps.trans harr (.one step_inLoop)) harr₂⟩
 |exit id=>exact⟨_,a₁,w₁,hq,.pass (x:=.inLoop c) rfl (fun _ _=>.inl (by simp)) harr⟩
 |goto l=>exact⟨_,a₁,w₁,hq,.pass (x:=.inLoop c) rfl (fun _ _=>.inl (by simp)) harr⟩
 |ret=>exact⟨_,a₁,w₁,hq,.pass (x:=.inLoop c) rfl (fun _ _=>.inl (by simp)) harr⟩
 |panic ch=>exact⟨_,a₁,w₁,hq,.pass (x:=.inLoop c) rfl (fun _ _=>.inl (by simp)) harr⟩
 |outgrown=>exact⟨_,a₁,w₁,hq,.pass (x:=.inLoop c) rfl (fun _ _=>.inl (by simp)) harr⟩
def ALoopU (P:Program)(B nb N:Nat)(c:Code)(st:ASt)(Q:Exit->ASt->Prop):Prop:=
 ∀m0 w0 m a w,ASim B nb N m0 w0 st m a w->ZOF P c (fun e a' w'=>∃st' m',Q e st'/\ASim B nb N m0 w0 st' m' a' w') a w
def Again (P:Program)(B nb N:Nat)(c:Code)(Q:Exit->ASt->Prop)(st':ASt):Prop:=∃st2,Gh B nb N st' st2/\ALoopU P B nb N c st2 Q
def Leave (B nb N:Nat)(Q:Exit->ASt->Prop)(e:Exit)(st':ASt):Prop:=∃st2,Gh B nb N st' st2/\Q e st2
def ZE8 (P:Program)(B nb N:Nat)(c:Code)(Q:Exit->ASt->Prop)(e:Exit)(st':ASt):Prop:=
 match e with
 | .normal=>Again P B nb N c Q st'
 |e=>Leave B nb N Q e st'
variable {st:ASt}{Q:Exit->ASt->Prop}
theorem ALoopU.unroll (h:awp P B nb N c st (ZE8 P B nb N c Q)):ALoopU P B nb N c st Q:=by
 intro m0 w0 m a w hs
 refine ZDY (wp_mono (ZY c st _ h m0 w0 m a w hs) ?_)
 rintro e a' w' ⟨st',m',hq,hs'⟩
 cases e with
 |normal=>
  obtain⟨st2,hg,hl⟩:=hq
  obtain⟨m2,h2⟩:=hg m0 w0 m' a' w' hs'
  exact hl m0 w0 m2 a' w' h2
 |_=>
  obtain⟨st2,hg,hl⟩:=hq
  obtain⟨m2,h2⟩:=hg m0 w0 m' a' w' hs'
  exact⟨st2,m2,hl,h2⟩
theorem ALoopU.loop {st0:ASt}(hg:Gh B nb N st st0)(h:ALoopU P B nb N c st0 Q):ALoop P B nb N c st Q:=by
 intro m0 w0 m a w hs
 obtain⟨m1,h1⟩:=hg m0 w0 m a w hs
 exact ZFX (h m0 w0 m1 a w h1)
def Blk.bnd (B:Nat):Blk->Prop
 | .tcells _ cs=>AV.bnd.bnds B cs
 | .telems _ _ es=>es.length<=bd B
 | .pack _ _=>True
 | .dead=>True
theorem ALoopU.know (h:(∀i,(lk st.fr i).bnd B)->(∀(l:Nat) b,st.σ[l]? =some b->b.bnd B)->ALoopU P B nb N c st Q):ALoopU P B nb N c st Q:=by
 intro m0 w0 m a w hs
 refine h (fun i=>(hs.fr.2 i).bnd) (fun l b hb=> ?_) m0 w0 m a w hs
 have hs2:=hs.sim.blk l
 rw[hb]at hs2
 cases b with
 |dead=>trivial
 |pack xs vs=>trivial
 |tcells ot cs=>
  obtain⟨_,_,_,_,_,_,g4⟩:=hs2
  simp only[Blk.bnd]
  have:∀(k:List AV),(∀x,x∈k->x.bnd B)->AV.bnd.bnds B k:=by
   intro k
   induction k with
   |nil=>intro _;simp[AV.bnd.bnds]
   |cons a r ih2=>intro hl;simp only[AV.bnd.bnds];exact⟨hl a (by simp),ih2 fun x hx=>hl x (zA _ hx)⟩
  refine this cs fun x hx=> ?_
  obtain⟨i,hi⟩:=zB hx
  obtain⟨_,_,hc⟩:=g4 i x hi
  exact hc.bnd
 |telems oe sz es=>exact hs2.2.1
theorem PureCall.introLe {f:FuncId}{fn:Func}{args:List AV}{r:AV}(hf:P.funcs[f]? =some fn)(hn:(fn.name== "runtime.NumGoroutine")=false)(hb:fn.body=some c)(hN:fn.ntmps=N)(hargs:args.length<=N)(hr:r.pure)(h:awp P B 0 N c ⟨ZBR 0 args,[]⟩ (ZAR P fn fun r' _=>r'.le r)):PureCall P B f args r:=by
 refine⟨⟨fn,hf,hn,by rw[hb];rfl⟩,hr,fun av w vs hav hv=>calls_of_wp hf hb ?_⟩
 subst hN
 let m0:Map:=⟨fun _=>.dead,0,av⟩
 have hWr:∀b,¬Wr m0 b:=by rintro b ⟨l,hl⟩;simp[m0,zO]at hl
 have hAv:∀b,Av m0 b->av b:=fun b hb=>hb.resolve_left (hWr b)
 have hsim:Sim B m0 [] w:=⟨rfl,fun l=>by simp[ZAc,m0],fun l l' b hl=>by simp[m0,zO]at hl,fun b hb=>absurd hb (hWr b),hav.1,hav.2.ok fun b hb=>absurd hb (hWr b)⟩
 have hv':RelL B (Av m0) m0 w args vs:=⟨hv.1,fun i x hi=>((hv.2 i x hi).weaken hAv).shift m0⟩
 have hsim0:ASim B 0 fn.ntmps m0 w ⟨ZBR 0 args,[]⟩ m0 ⟨vs++zG (fn.ntmps-vs.size) undef,[]⟩ w:=
  ⟨hsim,ZAU hv' hargs,rfl,Fr.refl m0 w,rfl,fun b hb=>absurd hb (hWr b)⟩
 refine wp_mono (ZY c _ _ h m0 w m0 _ w hsim0) ?_
 rintro e a' w' ⟨st',m',hq,hs⟩
 have fin:∀(hq:ZBp P st'.σ st'.fr fn.results.toList fun xs=>ZJh st'.σ (pack xs) fun r' _=>r'.le r),
   a'.defers=[]/\∃v,(results fn a'.tmps).run P w'=.ok v w'/\∃u,Ending.returned v=.returned u/\Conc B av w' M0 r u/\Below w.heap.size w w':=by
  intro hq
  obtain⟨xs,u,hK,hrun,hc⟩:=ZU hs hq
  obtain⟨r',σ',m'',hle,hs2,hf2,hc2⟩:=ZA9 hs.sim hK hc
  have hfr:=hs.step
  refine⟨hs.df,u,hrun,u,rfl,?_,hfr.os,hfr.tape,hfr.output,hfr.size,fun b hb=>hfr.keep b hb (hWr b)⟩
  refine((hc2.le hle).toM0 hr).weaken fun b hb=>.inr ?_
  rw[hf2.av,hfr.av];exact hb
 cases e with
 |normal=>exact fin hq
 |ret=>exact fin hq
 |_=>exact hq.elim
end
end Go.Vl
