/- The value-level layer, part 13: calls, their results, and steps of the proof alone. -/
import Derived.Test.YtbibfeagkocjlaaVlWp
import Derived.Below
set_option linter.all false
namespace Go.Vl
open Go Go.RowKit
def pack :List AV→AV
  | [x]=>x
  |xs=>.tup xs
def ZBI (P:Program)(σ:ZA)(fr:Frm):List ResultVar→(List AV→Prop)→Prop
  | [],K=>K []
  | .tmp t::r,K=>ZBI P σ fr r fun xs=>K (lk fr t::xs)
  | .cell a t::r,K=>ZCU P t σ (lk fr a) fun x=>ZBI P σ fr r fun xs=>K (x::xs)
def ZIy (σ:ZA)(x:AV)(K:AV→ZA→Prop):Prop:=
  match x with
  | .agg cs=>frz σ cs fun cs' σ'=>K (.agg cs') σ'
  | .own l n=>match σ[l]? with
    |some (.elems _ es)=>es.length=n∧(∀e,e∈es→AV.pure.pures e)∧K (.arr es) (σ.set l .dead)
    |_=>False
  |x=>K x σ
def ZIw (σ:ZA):List AV→(List AV→ZA→Prop)→Prop
  | [],K=>K [] σ
  |x::r,K=>ZIy σ x fun x' σ'=>ZIw σ' r fun r' σ''=>K (x'::r') σ''
def ZIx (σ:ZA)(x:AV)(K:AV→ZA→Prop):Prop:=
  match x with
  | .tup xs=>ZIw σ xs fun xs' σ'=>K (.tup xs') σ'
  |x=>ZIy σ x K
def ZBF (i:Nat):List AV→Frm
  | []=>[]
  |x::r=>(i,x)::ZBF (i+1) r
theorem ZIi :∀(args:List AV) (i j:Nat),lk (ZBF i args) j=if i≤j∧j<i+args.length then args.getD (j-i) .junk else .junk
  | [],i,j=>by simp[ZBF,lk]
  |x::r,i,j=>by
    simp only[ZBF,lk,List.length_cons]
    by_cases e:i=j
    · subst e;simp
    · rw[if_neg e,ZIi r (i+1) j]
      by_cases h:i+1≤j∧j<i+1+r.length
      · rw[if_pos h,if_pos (by omega)]
        obtain⟨k,hk⟩:∃k,j-i=k+1:=⟨j-i-1,by omega⟩
        rw[hk,List.getD_cons_succ];congr 1;omega
      · rw[if_neg h,if_neg (by omega)]
def PureCall (P:Program)(B:Nat)(f:FuncId)(args:List AV)(r:AV):Prop:=
  Ent P f∧r.pure∧∀(av:Nat→Prop) w vs,ZOz B av w→RelL B av M0 w args vs→
    Calls P f vs w fun e w'=>∃u,e=.returned u∧Conc B av w' M0 r u∧Below w.heap.size w w'
def ZN5 (tmps:Array Value):ResultVar→Sem Value
  | .tmp t=>pure (tmps.getD t undef)
  | .cell c t=>do loadVar t (←asAddr (tmps.getD c undef))
theorem ZHC (fn:Func)(tmps:Array Value):results fn tmps=(do
    let vs ←fn.results.mapM (ZN5 tmps)
    pure (if h:vs.size=1 then vs[0]else .tuple vs)):=by
  unfold results
  congr
section
variable {P : Program} {B nb N : Nat} {m0 : Map} {w0 : World}
theorem ZCS {st : ASt} {m : Map} {a : Act} {w : World} (h : ASim B nb N m0 w0 st m a w) : ∀ (rs : List ResultVar) (K : List AV → Prop), ZBI P st.σ st.fr rs K →
    ∃xs us,K xs∧(rs.mapM (ZN5 a.tmps)).run P w=.ok us w∧
      us.length=xs.length∧∀(i:Nat) (x:AV),xs[i]? =some x→∃u:Value,us[i]? =some u∧Conc B (Av m) w m x u
  | [],K,hk=>⟨[],[],hk,by simp,rfl,fun i x hi=>by simp at hi⟩
  | .tmp t::r,K,hk=>by
    obtain⟨xs,us,hK,hr,hl,hc⟩:=ZCS h r _ hk
    refine⟨_,a.tmps.getD t undef::us,hK,by rw[List.mapM_cons];simp only[ZN5,Sem.run_bind,Sem.run_pure,Result.andThen_ok,hr],by simp[hl],fun i x hi=> ?_⟩
    cases i with
    |zero=>simp at hi;subst hi;exact⟨_,by simp,h.fr.2 t⟩
    |succ i=>exact hc i x (by simpa using hi)
  | .cell c t::r,K,hk=>by
    obtain⟨x,v,hk',hrun,hcv⟩:=ZDG (P:=P) h.sim hk (h.fr.2 c)
    obtain⟨xs,us,hK,hr,hl,hc⟩:=ZCS h r _ hk'
    have hrun':(do loadVar t (←asAddr (a.tmps.getD c undef)):Sem Value).run P w=.ok v w:=by
      generalize a.tmps.getD c undef=u at hrun
      cases u with
      |pointer ad=>cases ad with
        |none=>simp[Instr.loadAt,Instr.sureAddr]at hrun
        |some ad=>simpa[Instr.loadAt,Instr.sureAddr,asAddr]using hrun
      |_=>simp[Instr.loadAt,Instr.sureAddr]at hrun
    refine⟨_,v::us,hK,?_,by simp[hl],fun i y hi=> ?_⟩
    · rw[List.mapM_cons]
      simp only[ZN5,Sem.run_bind]at hrun' ⊢
      rw[hrun'];simp only[Sem.run_pure,Result.andThen_ok,hr]
    · cases i with
      |zero=>simp at hi;subst hi;exact⟨_,by simp,hcv⟩
      |succ i=>exact hc i y (by simpa using hi)
theorem ZN {st : ASt} {m : Map} {a : Act} {w : World} (h : ASim B nb N m0 w0 st m a w) {fn : Func} {K : List AV → Prop} (hk : ZBI P st.σ st.fr fn.results.toList K) :
    ∃xs u,K xs∧(results fn a.tmps).run P w=.ok u w∧Conc B (Av m) w m (pack xs) u:=by
  obtain⟨xs,us,hK,hr,hl,hc⟩:=ZCS h _ _ hk
  have hrun:(results fn a.tmps).run P w=.ok (if h:us.toArray.size=1 then us.toArray[0]else .tuple us.toArray) w:=by
    rw[ZHC,Array.mapM_eq_mapM_toList]
    simp only[Sem.run_bind,Sem.run_map,hr,Result.andThen_ok,Sem.run_pure]
  refine⟨xs,_,hK,hrun,?_⟩
  clear hrun hr hK
  match xs,us,hl,hc with
  | [x],[u],_,hc=>
    obtain⟨u',hu',hxu⟩:=hc 0 x (by simp)
    simp at hu';subst hu'
    simpa[pack]using hxu
  | [],[],_,_=>
    have:=Conc.tup (B:=B) (W:=Av m) (w:=w) (m:=m) [] #[] rfl (fun i x hi=>by simp at hi)
    simpa[pack]using this
  |x::y::xs,u::v::us,hl,hc=>
    have:=Conc.tup (B:=B) (W:=Av m) (w:=w) (m:=m) (x::y::xs) (u::v::us).toArray (by simpa using hl) (fun i z hi=>by
      obtain⟨q,hq,hz⟩:=hc i z hi
      have:(u::v::us).toArray.getD i undef=q:=by rw[Array.getD_eq_getD_getElem?,List.getElem?_toArray,hq];rfl
      rw[this];exact hz)
    simpa[pack]using this
theorem ZDk {σ : ZA} {m : Map} {w : World} (h : Sim B m σ w) {x : AV} {K : AV → ZA → Prop} (hk : ZIy σ x K) {u : Value} (hx : Conc B (Av m) w m x u) :
    ∃x' σ' m',K x' σ'∧Sim B m' σ' w∧Fr m w m' w∧Conc B (Av m') w m' x' u:=by
  have same:K x σ→∃x' σ' m',K x' σ'∧Sim B m' σ' w∧Fr m w m' w∧Conc B (Av m') w m' x' u:=fun hk=>⟨x,σ,m,hk,h,Fr.refl m w,hx⟩
  unfold ZIy at hk
  split at hk
  · next cs=>
    cases hx with
    |agg cs us hlen hx=>
      obtain⟨cs',σ',m',hK,hl,hs,hf,hc⟩:=ZBE cs σ m _ h hk (fun i=>us.getD i undef) hx
      exact⟨_,σ',m',hK,hs,hf,.agg cs' us (by rw[hlen,hl]) hc⟩
  · next l n=>
    split at hk
    · next sz es he=>exact⟨_,_,m.kill l,hk.2.2,h.kill he,Fr.kill m w l,ZCJ h he hk.1 hk.2.1 hx⟩
    · exact hk.elim
  · exact same hk
theorem ZCO {w:World}:∀(xs:List AV) (σ:ZA) (m:Map) (K:List AV→ZA→Prop),Sim B m σ w→ZIw σ xs K→∀us:Nat→Value,
    (∀(i:Nat) (x:AV),xs[i]? =some x→Conc B (Av m) w m x (us i))→
    ∃xs' σ' m',K xs' σ'∧xs'.length=xs.length∧Sim B m' σ' w∧Fr m w m' w∧∀(i:Nat) (x:AV),xs'[i]? =some x→Conc B (Av m') w m' x (us i)
  | [],σ,m,K,h,hk,us,hc=>⟨[],σ,m,hk,rfl,h,Fr.refl m w,fun i x hi=>by simp at hi⟩
  |x::r,σ,m,K,h,hk,us,hc=>by
    obtain⟨x',σ1,m1,hk1,hs1,hf1,hc1⟩:=ZDk h hk (hc 0 x (by simp))
    obtain⟨r',σ2,m2,hK,hl,hs2,hf2,hc2⟩:=ZCO r σ1 m1 _ hs1 hk1 (fun i=>us (i+1)) (fun i x hi=>(hc (i+1) x (by simpa using hi)).mono hf1)
    refine⟨x'::r',σ2,m2,hK,by simp[hl],hs2,hf1.trans hf2 h.mapOk,fun i y hi=> ?_⟩
    cases i with
    |zero=>simp at hi;subst hi;exact hc1.mono hf2
    |succ i=>exact hc2 i y (by simpa using hi)
theorem ZAs {σ : ZA} {m : Map} {w : World} (h : Sim B m σ w) {x : AV} {K : AV → ZA → Prop} (hk : ZIx σ x K) {u : Value} (hx : Conc B (Av m) w m x u) :
    ∃x' σ' m',K x' σ'∧Sim B m' σ' w∧Fr m w m' w∧Conc B (Av m') w m' x' u:=by
  unfold ZIx at hk
  split at hk
  · next xs=>
    cases hx with
    |tup xs us hlen hx=>
      obtain⟨xs',σ',m',hK,hl,hs,hf,hc⟩:=ZCO xs σ m _ h hk (fun i=>us.getD i undef) hx
      exact⟨_,σ',m',hK,hs,hf,.tup xs' us (by rw[hlen,hl]) hc⟩
  · exact ZDk h hk hx
theorem Conc.weaken {W W':Nat→Prop}{w:World}{m:Map}{x:AV}{u:Value}(h:Conc B W w m x u)(hW:∀b,W' b→W b):Conc B W' w m x u:=
  h.mono' (Nat.le_refl _) (fun _ _ _=>rfl) (fun b _ hb=>hW b hb) m (fun _ _=>.inl rfl) (Nat.le_refl _) (fun _ _ _ _ ccs _ _ _ _ hh=>⟨ccs,hh,rfl⟩)
def ZBb (P:Program)(fn:Func)(K:AV→ZA→Prop)(e:Exit)(st:ASt):Prop:=
  match e with
  | .normal| .ret=>ZBI P st.σ st.fr fn.results.toList fun xs=>ZIx st.σ (pack xs) K
  |_=>False
theorem Zy {m : Map} {w : World} {args : List AV} {vs : Array Value} {W : Nat → Prop} (hv : RelL B W m w args vs) (hN : args.length ≤ N) :
    (vs++Array.replicate (N-vs.size) undef).size=N∧∀i,Conc B W w m (lk (ZBF 0 args) i) ((vs++Array.replicate (N-vs.size) undef).getD i undef):=by
  obtain⟨h1,h2⟩:=hv
  refine⟨by simp;omega,fun i=> ?_⟩
  rw[ZIi]
  split
  · next hi=>
    have hi':i<args.length:=by omega
    have:=h2 i args[i] (by simp[hi'])
    rw[Array.getD_eq_getD_getElem?,Array.getElem?_append_left (by omega),←Array.getD_eq_getD_getElem?]
    simpa[List.getD,hi']using this
  · exact .junk _
def AV.bnd (B:Nat):AV→Prop
  | .arr es=>es.length≤bd B
  | .agg cs=>bnds B cs
  |_=>True
where bnds (B:Nat):List AV→Prop
  | []=>True
  |x::r=>x.bnd B∧bnds B r
theorem Conc.bnd {W:Nat→Prop}{w:World}{m:Map}{x:AV}{u:Value}(h:Conc B W w m x u):x.bnd B:=by
  induction h with
  |arr es b off sz cap ys hB hsz hWb hb hcap hc hx ih=>exact hB
  |arrNil a cap=>simp[AV.bnd]
  |agg cs us hlen hx ih=>
    simp only[AV.bnd]
    have:∀(l:List AV),(∀x,x∈l→x.bnd B)→AV.bnd.bnds B l:=by
      intro l
      induction l with
      |nil=>intro _;simp[AV.bnd.bnds]
      |cons a r ih2=>intro hl;simp only[AV.bnd.bnds];exact⟨hl a (by simp),ih2 fun x hx=>hl x (List.mem_cons_of_mem _ hx)⟩
    refine this cs fun x hx'=> ?_
    obtain⟨i,hi⟩:=List.getElem?_of_mem hx'
    exact ih i x hi
  |_=>simp[AV.bnd]
theorem RelL.bnds {W:Nat→Prop}{w:World}{m:Map}{xs:List AV}{vs:Array Value}(h:RelL B W m w xs vs):AV.bnd.bnds B xs:=by
  have:∀(l:List AV),(∀x,x∈l→x.bnd B)→AV.bnd.bnds B l:=by
    intro l
    induction l with
    |nil=>intro _;simp[AV.bnd.bnds]
    |cons a r ih2=>intro hl;simp only[AV.bnd.bnds];exact⟨hl a (by simp),ih2 fun x hx=>hl x (List.mem_cons_of_mem _ hx)⟩
  refine this xs fun x hx'=> ?_
  obtain⟨i,hi⟩:=List.getElem?_of_mem hx'
  exact(h.2 i x hi).bnd
theorem PureCall.intro {f : FuncId} {fn : Func} {c : Code} {args : List AV} {r : AV} (hf : P.funcs[f]? = some fn) (hn : (fn.name == "runtime.NumGoroutine") = false) (hb : fn.body = some c)
    (hN:fn.ntmps=N) (hargs:args.length≤N) (hr:r.pure) (h:AV.bnd.bnds B args→awp P B 0 N c ⟨ZBF 0 args,[]⟩ (ZBb P fn fun r' _=>r'=r)):PureCall P B f args r:=by
  refine⟨⟨fn,hf,hn,by rw[hb];rfl⟩,hr,fun av w vs hav hv=>calls_of_wp hf hb ?_⟩
  subst hN
  let m0:Map:=⟨fun _=>.dead,0,av⟩
  have hWr:∀b,¬Wr m0 b:=by rintro b ⟨l,hl⟩;simp[m0,MS.has]at hl
  have hAv:∀b,Av m0 b→av b:=fun b hb=>hb.resolve_left (hWr b)
  have hsim:Sim B m0 [] w:=⟨rfl,fun l=>by simp[BlkSim,m0],fun l l' b hl=>by simp[m0,MS.has]at hl,fun b hb=>absurd hb (hWr b),hav.1,hav.2.ok fun b hb=>absurd hb (hWr b)⟩
  have hv':RelL B (Av m0) m0 w args vs:=⟨hv.1,fun i x hi=>((hv.2 i x hi).weaken hAv).shift m0⟩
  have hsim0:ASim B 0 fn.ntmps m0 w ⟨ZBF 0 args,[]⟩ m0 ⟨vs++Array.replicate (fn.ntmps-vs.size) undef,[]⟩ w:=
    ⟨hsim,Zy hv' hargs,rfl,Fr.refl m0 w,rfl,fun b hb=>absurd hb (hWr b)⟩
  refine wp_mono (ZQ c _ _ (h hv.bnds) m0 w m0 _ w hsim0) ?_
  rintro e a' w' ⟨st',m',hq,hs⟩
  have fin:∀(hq:ZBI P st'.σ st'.fr fn.results.toList fun xs=>ZIx st'.σ (pack xs) fun r' _=>r'=r),
      a'.defers=[]∧∃v,(results fn a'.tmps).run P w'=.ok v w'∧∃u,Ending.returned v=.returned u∧Conc B av w' M0 r u∧Below w.heap.size w w':=by
    intro hq
    obtain⟨xs,u,hK,hrun,hc⟩:=ZN hs hq
    obtain⟨r',σ',m'',rfl,hs2,hf2,hc2⟩:=ZAs hs.sim hK hc
    have hfr:=hs.step
    refine⟨hs.df,u,hrun,u,rfl,?_,hfr.os,hfr.tape,hfr.output,hfr.size,fun b hb=>hfr.keep b hb (hWr b)⟩
    refine(hc2.toM0 hr).weaken fun b hb=>.inr ?_
    rw[hf2.av,hfr.av];exact hb
  cases e with
  |normal=>exact fin hq
  |ret=>exact fin hq
  |_=>exact hq.elim
theorem Fr.ofBelow {m:Map}{w w':World}(h:Below w.heap.size w w'):Fr m w m w' where
  size:=h.size
  keep b hb _:=h.block b hb
  phys b ccs ty _ _ hh:=⟨ccs,by rw[h.block b (Array.getElem?_eq_some_iff.1 hh).1,hh],rfl⟩
  fresh b hb:=.inl hb
  ids _ _:=.inl rfl
  n:=Nat.le_refl _
  av:=rfl
  tape:=h.tape
  os:=h.os
  output:=h.output
theorem Sim.below {σ:ZA}{m:Map}{w w':World}(hs:Sim B m σ w)(h:Below w.heap.size w w'):Sim B m σ w':=by
  refine hs.upd (Fr.ofBelow h) σ.length hs.n (fun l _=>⟨rfl,rfl⟩) (fun l b _ hb=>h.block b (hs.lt_of_blk hb)) ?_ ?_
  · rw[List.getElem?_eq_none (Nat.le_refl _),hs.dead_of_ge (Nat.le_refl _)];rfl
  · intro l b _ _ hb;rw[hs.dead_of_ge (Nat.le_refl _)]at hb;simp[MS.has]at hb
def ZD1 :List AV→Prop
  | []=>True
  |x::r=>x.pure∧ZD1 r
theorem ZBz :∀{xs:List AV} {i:Nat} {x:AV},ZD1 xs→xs[i]? =some x→x.pure
  |c::r,0,x,h,hi=>by simp at hi;subst hi;exact h.1
  |c::r,i+1,x,h,hi=>ZBz h.2 (by simpa using hi)
theorem PureCall.call {f:FuncId}{args:List AV}{r:AV}(h:PureCall P B f args r)(hp:ZD1 args){σ:ZA}{K:AV→ZA→Prop}(hK:K r σ):ACall P B f args σ K:=by
  refine⟨h.1,fun m w vs hs hv=> ?_⟩
  refine(h.2.2 (Av m) w vs ⟨fun b hb=>hb.elim (fun hb=>(hs.mapOk b hb).1) (fun hb=>hs.avlt b hb),hs.tb.w⟩ ⟨hv.1,fun i x hi=>(hv.2 i x hi).toM0 (ZBz hp hi)⟩).mono ?_
  rintro e w' ⟨u,rfl,hc,hb⟩
  exact⟨u,r,σ,m,rfl,hK,hs.below hb,hc.shift m,Fr.ofBelow hb⟩
def AV.closed (n:Nat):AV→Prop
  | .own l _| .pre l _ _| .ptr l _| .eptr l _ _ _=>l<n
  | .agg cs| .tup cs=>closeds n cs
  | .fn _ xs ys=>closeds n xs∧closeds n ys
  |_=>True
where closeds (n:Nat):List AV→Prop
  | []=>True
  |x::r=>x.closed n∧closeds n r
end
end Go.Vl
