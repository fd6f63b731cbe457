import Derived.Test.YtmjpphcloedceaaGreatVlF
import Derived.MapKept
set_option linter.all false
open Array renaming replicate->zA,length_toList->zB
open Nat renaming lt_of_lt_of_le->zC,le_trans->zD,le_refl->zE
open List renaming range'->zF,mem_cons_of_mem->zG,map_cons->zH,toArray->zI
open Bool renaming false_eq_true->zJ
namespace Go.Vl
open Go Go.RowKit
def ZBP (σ:ZE)(cs:List AV):Prop:=
 match σ with
 | .cells ds::_=>AV.le.les ds cs
 |_=>False
def MutCall (P:Program)(B:Nat)(f:FuncId)(cs args:List AV)(r:AV)(cs':List AV):Prop:=
 Ent P f/\r.pure/\AV.pure.pures cs/\AV.pure.pures cs'/\∀m w vs,Sim B m [.cells cs] w->RelL B (Av m) m w args vs->
  Calls P f vs w fun e w'=>∃u m' σ',e=.returned u/\ZBP σ' cs'/\Sim B m' σ' w'/\Conc B (Av m') w' m' r u/\Fr m w m' w'
def ZLK (P:Program)(fn:Func)(K:AV->ZE->Prop)(e:Exit)(st:ASt):Prop:=
 match e with
 | .normal| .ret=>ZBp P st.σ st.fr fn.results.toList (hold (fun xs=>K (pack xs) st.σ) .mk)
 |_=>False
section
variable {P : Program} {B nb N : Nat}
variable {fn:Func}{K:AV->ZE->Prop}{k:Box K}
theorem ZNj {st:ASt}:ZLK P fn (hold K k) .ret st=(ZBp P st.σ st.fr fn.results.toList (hold (fun xs=>K (pack xs) st.σ) .mk)):=rfl
theorem ZJD {st:ASt}:ZLK P fn (hold K k) .normal st=(ZBp P st.σ st.fr fn.results.toList (hold (fun xs=>K (pack xs) st.σ) .mk)):=rfl
variable {f:FuncId}{args:List AV}
theorem ACall.inl {c:Code}{σ:ZE}{b:Box K}(hf:P.funcs[f]? =some fn)(hn:(fn.name== "runtime.NumGoroutine")=false)(hb:fn.body=some c)(hN:fn.ntmps=N)(hargs:args.length<=N)(h:awp P B σ.length N c ⟨ZBR 0 args,σ⟩ (hold (ZLK P fn (hold K .mk)) .mk)):ACall P B f args σ (hold K b):=by
 refine⟨⟨fn,hf,hn,by rw[hb];rfl⟩,fun m w vs hs hv=>calls_of_wp hf hb ?_⟩
 subst hN
 have hsim0:ASim B σ.length fn.ntmps m w ⟨ZBR 0 args,σ⟩ m ⟨vs++zA (fn.ntmps-vs.size) undef,[]⟩ w:=
  ⟨hs,ZAU hv hargs,rfl,Fr.refl m w,hs.n,hs.mapOk⟩
 refine wp_mono (ZY c _ _ h m w m _ w hsim0) ?_
 rintro e a' w' ⟨st',m',hq,hs'⟩
 have fin:∀(hq:ZBp P st'.σ st'.fr fn.results.toList fun xs=>K (pack xs) st'.σ),
   a'.defers=[]/\∃v,(results fn a'.tmps).run P w'=.ok v w'/\∃u r σ' m'',Ending.returned v=.returned u/\K r σ'/\Sim B m'' σ' w'/\Conc B (Av m'') w' m'' r u/\Fr m w m'' w':=by
  intro hq
  obtain⟨xs,u,hK,hrun,hc⟩:=ZU hs' hq
  exact⟨hs'.df,u,hrun,u,_,_,m',rfl,hK,hs'.sim,hc,hs'.step⟩
 cases e with
 |normal=>exact fin hq
 |ret=>exact fin hq
 |_=>exact hq.elim
variable {cs':List AV}
theorem MutCall.enter {c:Code}{cs:List AV}{r:AV}(hf:P.funcs[f]? =some fn)(hn:(fn.name== "runtime.NumGoroutine")=false)(hb:fn.body=some c)(hN:fn.ntmps=N)(hargs:args.length<=N)(hr:r.pure)(hp:AV.pure.pures cs)(hp':AV.pure.pures cs')(h:awp P B 1 N c ⟨ZBR 0 args,[.cells cs]⟩ (hold (ZAR P fn fun r' σ'=>r'.le r/\ZBP σ' cs') .mk)):MutCall P B f cs args r cs':=by
 refine⟨⟨fn,hf,hn,by rw[hb];rfl⟩,hr,hp,hp',fun m w vs hs hv=>calls_of_wp hf hb ?_⟩
 subst hN
 have hsim0:ASim B 1 fn.ntmps m w ⟨ZBR 0 args,[.cells cs]⟩ m ⟨vs++zA (fn.ntmps-vs.size) undef,[]⟩ w:=
  ⟨hs,ZAU hv hargs,rfl,Fr.refl m w,hs.n,hs.mapOk⟩
 refine wp_mono (ZY c _ _ h m w m _ w hsim0) ?_
 rintro e a' w' ⟨st',m',hq,hs'⟩
 have fin:∀(hq:ZBp P st'.σ st'.fr fn.results.toList fun xs=>ZJh st'.σ (pack xs) fun r' σ'=>r'.le r/\ZBP σ' cs'),
   a'.defers=[]/\∃v,(results fn a'.tmps).run P w'=.ok v w'/\∃u m'' σ',Ending.returned v=.returned u/\ZBP σ' cs'/\Sim B m'' σ' w'/\Conc B (Av m'') w' m'' r u/\Fr m w m'' w':=by
  intro hq
  obtain⟨xs,u,hK,hrun,hc⟩:=ZU hs' hq
  obtain⟨r',σ',m'',⟨hle,hm⟩,hs2,hf2,hc2⟩:=ZA9 hs'.sim hK hc
  exact⟨hs'.df,u,hrun,u,m'',σ',rfl,hm,hs2,hc2.le hle,hs'.step.trans hf2 hs.mapOk⟩
 cases e with
 |normal=>exact fin hq
 |ret=>exact fin hq
 |_=>exact hq.elim
def ZId (l:Nat):List AV->List AV->Prop
 | [],[]=>True
 | .ptr k o::r,.ptr j o'::s=>k=l/\j=0/\o=o'/\ZId l r s
 |x::r,y::s=>x.le y/\x.pure/\ZId l r s
 |_,_=>False
theorem ZHR {l:Nat}:∀{xs ys:List AV},ZId l xs ys->xs.length=ys.length
 | [],[],_=>rfl
 |x::r,y::s,h=>by
  have:ZId l r s:=by
   cases x<;>cases y<;>simp only[ZId]at h<;>first|exact h.2.2.2|exact h.2.2
  simp[ZHR this]
 | [],_::_,h=>h.elim
 |x::_,[],h=>by cases x<;>exact h.elim
theorem ZHS {l:Nat}:∀{xs ys:List AV} {i:Nat} {y:AV},ZId l xs ys->ys[i]? =some y->∃x,xs[i]? =some x/\((∃o,x=.ptr l o/\y=.ptr 0 o)∨(x.le y/\x.pure))
 |x::r,z::s,0,y,h,hi=>by
  simp at hi;subst hi
  refine⟨x,rfl,?_⟩
  cases x<;>cases z<;>simp only[ZId]at h<;>first|exact .inr ⟨h.1,h.2.1⟩|(obtain⟨rfl,rfl,rfl,_⟩:=h;exact .inl ⟨_,rfl,rfl⟩)
 |x::r,z::s,i+1,y,h,hi=>by
  have:ZId l r s:=by
   cases x<;>cases z<;>simp only[ZId]at h<;>first|exact h.2.2.2|exact h.2.2
  simpa using ZHS this (by simpa using hi)
 | [],[],i,y,_,hi=>by simp at hi
 | [],_::_,_,_,h,_=>h.elim
 |x::_,[],_,_,h,_=>by cases x<;>exact h.elim
theorem MutCall.go {cs:List AV}{r:AV}(h:MutCall P B f cs args r cs'){σ:ZE}(l:Nat){ds args':List AV}(hl:σ[l]? =some (.cells ds))(hle:AV.le.les ds cs)(hlen:cs'.length=cs.length)(ha:ZId l args' args)(hK:K r (σ.set l (.cells cs'))):ACall P B f args' σ (hold K k):=by
 obtain⟨hE,hr,hp,hp',hrun⟩:=h
 refine⟨hE,fun m w vs hs hv=> ?_⟩
 have hb:=hs.blk l
 rw[hl]at hb
 obtain⟨b,ccs,ty,g1,g2,g3,g4⟩:=hb
 have hwb:Wr m b:=⟨l,by rw[g1];rfl⟩
 have hbl:b<w.heap.size:=(hs.mapOk b hwb).1
 let m1:Map:=⟨fun i=>if i=0 then .box b else .dead,1,fun x=>Av m x/\x≠b⟩
 have hw1:∀x,Wr m1 x->x=b:=by
  rintro x ⟨i,hi⟩
  by_cases e:i=0
  ·subst e;simp[m1,MS.has]at hi;exact hi.symm
  ·simp[m1,e,MS.has]at hi
 have hwb1:Wr m1 b:=⟨0,by simp[m1,MS.has]⟩
 have hav:∀x,Av m1 x->Av m x:=fun x hx=>hx.elim (fun h=>.inl (by rw[hw1 x h];exact hwb)) (fun h=>h.1)
 have hav':∀x,Av m x->Av m1 x:=fun x hx=>by
  by_cases e:x=b
  ·subst e;exact .inl hwb1
  ·exact .inr ⟨hx,e⟩
 have hsim1:Sim B m1 [.cells cs] w:=by
  refine⟨rfl,fun i=> ?_,fun i i' x h1 h2=> ?_,fun x hx hx'=>hx'.2 (hw1 x hx),fun x hx=>hx.1.elim (fun h=>(hs.mapOk x h).1) (fun h=>hs.avlt x h),hs.tb.sub fun x hx=>by rw[hw1 x hx];exact hwb⟩
  ·by_cases e:i=0
   ·subst e
    refine⟨b,ccs,ty,by simp[m1],g2,by rw[g3,ZBH hle],fun i x hi=> ?_⟩
    obtain⟨z,hz,hzx⟩:=ZBI hle hi
    obtain⟨y,hy,hc⟩:=g4 i z hz
    exact⟨y,hy,(((hc.le hzx).toM0 (Zw hp hi)).weaken hav).shift m1⟩
   ·have:([Blk.cells cs]:ZE)[i]? =none:=by rw[List.getElem?_eq_none];simp;omega
    rw[this]
    show m1.f i=.dead
    simp[m1,e]
  ·by_cases e:i=0
   ·by_cases e':i'=0
    ·rw[e,e']
    ·simp[m1,e',MS.has]at h2
   ·simp[m1,e,MS.has]at h1
 have hrel:RelL B (Av m1) m1 w args vs:=by
  refine⟨by rw[hv.1,ZHR ha],fun i y hi=> ?_⟩
  obtain⟨x,hx,hxy⟩:=ZHS ha hi
  have hc:=hv.2 i x hx
  rcases hxy with⟨o,rfl,rfl⟩|⟨hle,hpx⟩
  ·generalize vs.getD i undef=v at hc ⊢
   cases hc with
   |ptrOther _ _ _ _ hne=>exact absurd g1 (hne b)
   |ptrBox _ _ b' _ hb'=>
    rw[g1]at hb';cases hb'
    exact .ptrBox 0 o b (by show 0<m1.n;simp[m1]) (by simp[m1])
  ·exact(((hc.toM0 hpx).le hle).weaken hav).shift m1
 refine(hrun m1 w vs hsim1 hrel).mono ?_
 rintro e w' ⟨u,m',σ',rfl,hm,hs',hcr,hfr⟩
 have hkeep:∀x,x<w.heap.size->x≠b->w'.heap[x]? =w.heap[x]? :=fun x hx hne=>hfr.keep x hx fun h=>hne (hw1 x h)
 obtain⟨ds',σt,rfl,hds⟩:∃ds' σt,σ'=.cells ds'::σt/\AV.le.les ds' cs':=by
  unfold ZBP at hm
  split at hm
  ·exact⟨_,_,rfl,hm⟩
  ·exact hm.elim
 have hb0:=hs'.blk 0
 simp only[List.getElem?_cons_zero]at hb0
 obtain⟨b',ccs',ty',q1,q2,q3,q4⟩:=hb0
 have hbb:b=b':=by
  have h0:=hfr.ids 0 (by show 0<m1.n;simp[m1])
  have:=MS.le_box h0 q1
  have e0:m1.f 0=.box b:=by simp[m1]
  rw[e0]at this
  exact MS.box.inj this
 subst hbb
 have hfr':Fr m w m w':=⟨hfr.size,fun x hx hn=>hkeep x hx fun e=>hn (by rw[e];exact hwb),fun x c t hx _ hh=>by
   by_cases e:x=b
   ·subst e;exact hfr.phys x c t hwb1 ⟨0,by rw[q1];rfl⟩ hh
   ·exact⟨c,by rw[hkeep x (hs.mapOk x hx).1 e,hh],rfl⟩,fun x hx=>.inl hx,fun _ _=>.inl rfl,zE _,rfl,hfr.tape,hfr.os,hfr.output⟩
 have hav2:∀x,Av m x->Av m' x:=fun x hx=>by
  by_cases e:x=b
  ·subst e;exact .inl ⟨0,by rw[q1];rfl⟩
  ·exact .inr (by rw[hfr.av];exact⟨hx,e⟩)
 have hlt:l<σ.length:=(List.getElem?_eq_some_iff.1 hl).1
 refine⟨u,r,_,m,rfl,hK,?_,((hcr.toM0 hr).weaken hav2).shift m,hfr'⟩
 refine hs.upd hfr' l (by simpa using hs.n) (fun l' hne=>⟨by rw[List.getElem?_set_ne (Ne.symm hne)],rfl⟩) (fun l' x hne hx=> ?_) ?_ (fun l' x hne hx hx'=> ?_)
 ·refine hkeep x (hs.mapOk x ⟨l',hx⟩).1 fun e=>hne ?_
  subst e
  exact hs.inj l' l x hx (by rw[g1];rfl)
 ·rw[List.getElem?_set_self hlt]
  refine⟨b,ccs',ty',g1,q2,by rw[q3,ZBH hds],fun i x hi=> ?_⟩
  obtain⟨z,hz,hzx⟩:=ZBI hds hi
  obtain⟨y,hy,hc⟩:=q4 i z hz
  exact⟨y,hy,(((hc.le hzx).toM0 (Zw hp' hi)).weaken hav2).shift m⟩
 ·exact hne (hs.inj l' l x hx hx')
end
attribute [simp ↓] ZNj ZJD
attribute [simp] ZBP ZId
end Go.Vl
namespace Go.Vl
open Go Go.RowKit
open Go.Instr renaming findNow->zK,sameNow->zL,keyThatStays->zM,mapUpdate->zN
open Go.Sem renaming run_bind->zO,run_pure->zP
open Go.Result renaming andThen->zQ
open Conc renaming lit_inv->zR
open Go.Region renaming wanted->zS
abbrev Ms :=List (Nat×List ByteArray)
def ZKc (P:Program)(t:TypeId):Bool:=match P.underlying t with
 |some (.map k e)=>(match P.underlying k with|some .string=>true|_=>false)&& (match P.info? e with|some ti=>(match ti.zero with|some (.bool false)=>true|_=>false)|none=>false)
 |_=>false
theorem ZFP {P:Program}{t:TypeId}(h:ZKc P t=true):∃k e,P.underlying t=some (.map k e)/\P.underlying k=some .string/\∀w,(zeroValue e).run P w=.ok (.bool false) w:=by
 unfold ZKc at h
 split at h
 ·next k e hu=>
  simp only[Bool.and_eq_true]at h
  obtain⟨h1,h2⟩:=h
  refine⟨k,e,hu,?_,fun w=> ?_⟩
  ·grind
  ·split at h2
   ·next ti hi=>
    split at h2
    ·next hz=>simp[zeroValue,typeInfo,hi,hz]
    ·cases h2
   ·cases h2
 ·cases h
def ZBc (es:List MapEntry)(ks:List ByteArray):Prop:=es.map (fun e=>(e.key,e.val))=ks.map fun k=>(Value.string k,Value.bool true)
def MOk (w00:World)(ms:Ms)(m:Map)(w:World):Prop:=
 (∀p,p∈ms->w00.heap.size<=p.1/\p.1<w.heap.size/\m.av p.1/\∃es clock,w.heap[p.1]? =some (.map es clock)/\ZBc es.toList p.2)/\(ms.map (·.1)).Nodup
structure MSim (B N:Nat)(w00:World)(ms:Ms)(st:ASt)(m:Map)(a:Act)(w:World):Prop where
 sim:Sim B m st.σ w
 fr:FrSim B m w N st.fr a.tmps
 df:a.defers=[]
 below:Below w00.heap.size w00 w
 young:∀b,Wr m b->w00.heap.size<=b
 mok:MOk w00 ms m w
section
variable {P : Program} {B N : Nat} {w00 : World}
variable {ms:Ms}{st:ASt}{m:Map}{a:Act}{w:World}
theorem MSim.toA (h:MSim B N w00 ms st m a w):ASim B st.σ.length N m w st m a w:=
 ⟨h.sim,h.fr,h.df,Fr.refl m w,h.sim.n,h.sim.mapOk⟩
variable {m':Map}{w':World}
theorem MSim.step {st':ASt}{a':Act}(h:MSim B N w00 ms st m a w){nb:Nat}(h':ASim B nb N m w st' m' a' w'):MSim B N w00 ms st' m' a' w':=by
 have hf:=h'.step
 refine⟨h'.sim,h'.fr,h'.df,⟨hf.os.trans h.below.os,hf.tape.trans h.below.tape,hf.output.trans h.below.output,zD h.below.size hf.size,fun k hk=> ?_⟩,fun b hb=> ?_,fun p hp=> ?_,h.mok.2⟩
 ·rw[hf.keep k (zC hk h.below.size) fun hw=>by have:=h.young k hw;omega,h.below.block k hk]
 ·rcases hf.fresh b hb with hw|hw
  ·exact h.young b hw
  ·exact zD h.below.size hw
 ·obtain⟨h1,h2,h3,es,clock,h4,h5⟩:=h.mok.1 p hp
  refine⟨h1,zC h2 hf.size,by rw[hf.av];exact h3,es,clock,?_,h5⟩
  rw[hf.keep p.1 h2 fun hw=>h.sim.sep p.1 hw h3,h4]
theorem MSim.ghost {st':ASt}(h:MSim B N w00 ms st m a w)(hg:Gh B 0 N st st'):∃m',MSim B N w00 ms st' m' a w:=by
 let m0:Map:=⟨fun _=>.dead,0,m.av⟩
 have hno:∀b,¬Wr m0 b:=by rintro b ⟨l,hl⟩;simp[m0,MS.has]at hl
 have h0:ASim B 0 N m0 w00 st m a w:=⟨h.sim,h.fr,h.df,⟨h.below.size,fun b hb _=>h.below.block b hb,fun b _ _ hb=>absurd hb (hno b),fun b hb=>.inr (h.young b hb),fun l hl=>absurd hl (Nat.not_lt_zero _),Nat.zero_le _,rfl,h.below.tape,h.below.os,h.below.output⟩,rfl,fun b hb=>absurd hb (hno b)⟩
 obtain⟨m',h'⟩:=hg m0 w00 m a w h0
 refine⟨m',h'.sim,h'.fr,h'.df,h.below,fun b hb=>(h'.step.fresh b hb).resolve_left (hno b),fun p hp=> ?_,h.mok.2⟩
 obtain⟨h1,h2,h3,h4⟩:=h.mok.1 p hp
 exact⟨h1,h2,by rw[h'.step.av];exact h3,h4⟩
theorem Conc.amid (hs:w.heap.size<=w'.heap.size)(hk:∀b,b<w.heap.size->¬Av m b->w'.heap[b]? =w.heap[b]?)(hwr:∀b,Wr m b->w'.heap[b]? =w.heap[b]?)(hm:m'.f=m.f)(hn:m'.n=m.n)(hav:∀b,b<w.heap.size->Av m' b->Av m b){x:AV}{y:Value}(h:Conc B (Av m) w m x y):Conc B (Av m') w' m' x y:=by
 refine h.mono' hs hk hav m' (fun l _=>.inl (by rw[hm])) (by omega) ?_
 intro l b sz len ccs ty hl hf _ hh
 exact⟨ccs,by rw[hwr b ⟨l,by rw[hf];rfl⟩,hh],rfl⟩
theorem Sim.amid {σ:ZE}(h:Sim B m σ w)(hs:w.heap.size<=w'.heap.size)(hk:∀b,b<w.heap.size->¬Av m b->w'.heap[b]? =w.heap[b]?)(hwr:∀b,Wr m b->w'.heap[b]? =w.heap[b]?)(hm:m'.f=m.f)(hn:m'.n=m.n)(hav:∀b,b<w.heap.size->Av m' b->Av m b)(hsep:∀b,Wr m b->¬m'.av b)(hlt:∀b,m'.av b->b<w'.heap.size)(htb:TbOk B m' w'):Sim B m' σ w' where
 n:=by rw[hn,h.n]
 blk l:=by
  have hb:=h.blk l
  rw[hm]
  cases hσ:σ[l]? with
  |none=>rw[hσ]at hb;exact hb
  |some k=>
   rw[hσ]at hb
   cases k with
   |dead=>exact hb
   |pack xs vs=>
    obtain⟨F,g1,g2,g3⟩:=hb
    exact⟨F,g1,g2,g3.keep fun b hb=>hwr b ⟨l,by rw[g1];exact hb⟩⟩
   |tcells ot cs=>
    obtain⟨b,ccs,ty,g1,g2,g3,g4⟩:=hb
    refine⟨b,ccs,ty,g1,by rw[hwr b ⟨l,by rw[g1];rfl⟩,g2],g3,fun i x hx=> ?_⟩
    obtain⟨y,hy,hc⟩:=g4 i x hx
    exact⟨y,hy,hc.amid hs hk hwr hm hn hav⟩
   |telems oe sz es=>
    obtain⟨g0,g0',hb⟩:=hb
    refine⟨g0,g0',?_⟩
    rcases hb with hb|⟨b,ccs,ty,g1,g2,g3,g4⟩
    ·exact .inl hb
    ·refine .inr ⟨b,ccs,ty,g1,by rw[hwr b ⟨l,by rw[g1];rfl⟩,g2],g3,fun i e k x hi hk'=> ?_⟩
     obtain⟨y,hy,hc⟩:=g4 i e k x hi hk'
     exact⟨y,hy,hc.amid hs hk hwr hm hn hav⟩
 inj l l' b h1 h2:=h.inj l l' b (by rw[←hm];exact h1) (by rw[←hm];exact h2)
 sep b hb:=hsep b (by obtain⟨l,hl⟩:=hb;exact⟨l,by rw[←hm];exact hl⟩)
 avlt:=hlt
 tb:=htb
theorem MSim.make (h:MSim B N w00 ms st m a w):MSim B N w00 (ms++[(w.heap.size,[])]) st {m with av:=fun b=>m.av b∨b=w.heap.size} a (w.alloc (.map #[] 0)):=by
 have ha:=Go.MapKept.heap_alloc w (.map #[] 0)
 have hsz:(w.alloc (.map #[] 0)).heap.size=w.heap.size+1:=by show(w.heap.push _).size=_;simp
 have hwlt:∀b,Wr m b->b<w.heap.size:=fun b hb=>(h.sim.mapOk b hb).1
 have hkeep:∀b,b<w.heap.size->¬Av m b->(w.alloc (.map #[] 0)).heap[b]? =w.heap[b]? :=fun b hb _=>ha.2 b hb
 have hwr:∀b,Wr m b->(w.alloc (.map #[] 0)).heap[b]? =w.heap[b]? :=fun b hb=>ha.2 b (hwlt b hb)
 have hav:∀b,b<w.heap.size->Av {m with av:=fun b=>m.av b∨b=w.heap.size} b->Av m b:=by
  intro b hb hx
  rcases hx with hx|hx|hx
  ·exact .inl hx
  ·exact .inr hx
  ·omega
 refine⟨h.sim.amid (by omega) hkeep hwr rfl rfl hav (fun b hb hx=> ?_) (fun b hx=> ?_) (fun g hg=>by
  obtain⟨a1,a2,ccs,ty,fz,a3,a4⟩:=h.sim.tb g hg
  exact⟨fun hw=>a1 hw,by omega,ccs,ty,fz,(ha.2 g a2).trans a3,a4⟩),⟨h.fr.1,fun i=>(h.fr.2 i).amid (m':={m with av:=fun b=>m.av b∨b=w.heap.size}) (by omega) hkeep hwr rfl rfl hav⟩,h.df,⟨h.below.os,h.below.tape,h.below.output,by have:=h.below.size;omega,fun k hk=> ?_⟩,h.young,fun p hp=> ?_,?_⟩
 ·rcases hx with hx|hx
  ·exact h.sim.sep b hb hx
  ·have:=hwlt b hb;omega
 ·rcases hx with hx|hx
  ·have:=h.sim.avlt b hx;omega
  ·omega
 ·rw[ha.2 k (zC hk h.below.size),h.below.block k hk]
 ·rcases List.mem_append.1 hp with hp|hp
  ·obtain⟨h1,h2,h3,es,clock,h4,h5⟩:=h.mok.1 p hp
   grind
  ·simp at hp;subst hp
   exact⟨h.below.size,by omega,.inr rfl,#[],0,ha.1,rfl⟩
 ·rw[List.map_append,List.nodup_append]
  refine⟨h.mok.2,by simp,fun x hx y hy=> ?_⟩
  simp at hy;subst hy
  obtain⟨p,hp,rfl⟩:=List.mem_map.1 hx
  have:=(h.mok.1 p hp).2.1
  omega
def ZD0 (ms:Ms)(b:Nat):Option (List ByteArray):=match ms with
 | []=>none
 |(c,ks)::r=>if c=b then some ks else ZD0 r b
def ZDz (ms:Ms)(b:Nat)(k:List ByteArray):Ms:=match ms with
 | []=>[]
 |(c,ks)::r=>if c=b then(c,k)::r else(c,ks)::ZDz r b k
theorem ZDT :∀{ms:Ms} {b:Nat} {ks:List ByteArray},ZD0 ms b=some ks->(b,ks)∈ms
 |(c,k)::r,b,ks,h=>by
  unfold ZD0 at h
  split at h
  ·grind
  ·exact zG _ (ZDT h)
 | [],_,_,h=>by cases h
theorem ZEG :∀(ms:Ms) (b:Nat) (k:List ByteArray),(ZDz ms b k).map (·.1)=ms.map (·.1)
 | [],_,_=>rfl
 |(c,ks)::r,b,k=>by
  unfold ZDz
  split
  ·rfl
  ·simp[ZEG r b k]
theorem ZFN :∀{ms:Ms} {b:Nat} {k:List ByteArray} {p:Nat×List ByteArray},p∈ZDz ms b k->(ms.map (·.1)).Nodup->(p=(b,k)/\∃ks,(b,ks)∈ms)∨(p∈ms/\p.1≠b)
 |(c,ks)::r,b,k,p,h,hn=>by
  unfold ZDz at h
  simp only[zH,List.nodup_cons]at hn
  split at h
  ·grind
  ·next e=>
   rcases List.mem_cons.1 h with rfl|h
   ·exact .inr ⟨by simp,e⟩
   ·rcases ZFN h hn.2 with⟨h1,q,h2⟩|⟨h1,h2⟩
    ·grind
    ·grind
 | [],_,_,_,h,_=>by cases h
theorem ZBb {s:ByteArray}:∀(es:List MapEntry) (ks:List ByteArray) (i:Nat),ZBc es ks->
  (s∈ks/\∃j e,zK .string (.string s) es i=some (some (j,.bool true))/\i<=j/\es[j-i]? =some e/\e.key=.string s/\e.val=.bool true)∨(s∉ks/\zK .string (.string s) es i=some none)
 | [],[],i,_=>.inr ⟨by simp,rfl⟩
 |e::es,k::ks,i,h=>by
  simp only[ZBc,zH,List.cons.injEq,Prod.mk.injEq]at h
  obtain⟨⟨h1,h2⟩,h3⟩:=h
  by_cases hk:s=k
  ·subst hk
   refine .inl ⟨by simp,i,e,?_,zE _,by simp,h1,h2⟩
   simp[zK,h1,h2,zL,ZJw]
  ·have hne:(s==k)=false:=by rw[ZJw];simpa using hk
   rcases ZBb (s:=s) es ks (i+1) h3 with⟨m1,j,e',m2,m3,m4,m5⟩|⟨m1,m2⟩
   ·refine .inl ⟨by simp[m1],j,e',?_,by omega,?_,m5⟩
    ·simp[zK,h1,zL,hne,m2]
    ·grind
   ·refine .inr ⟨by simp[m1,hk],?_⟩
    simp[zK,h1,zL,hne,m2]
 | [],_::_,_,h=>by simp[ZBc]at h
 |_::_,[],_,h=>by simp[ZBc]at h
variable {clock:Nat}{es:Array MapEntry}{ks:List ByteArray}
theorem ZHr {t:TypeId}(ht:ZKc P t=true){b:Nat}(hb:w.heap[b]? =some (.map es clock))(he:ZBc es.toList ks)(s:ByteArray):
  (Instr.lookup t (.map (some b)) (.string s) false).run P w=.ok (.bool (dec (s∈ks))) w:=by
 obtain⟨k,e,h1,h2,h3⟩:=ZFP ht
 unfold Instr.lookup
 simp only[zO,run_underlying h1,zQ,Go.MapKept.run_getObj_map hb,zP]
 rw[Go.MapKept.run_checkKey (n:=9999) h2 (by simp[Go.MapKept.IsKey])]
 simp only
 rcases ZBb (s:=s) es.toList ks 0 he with⟨m1,j,e',m2,_⟩|⟨m1,m2⟩
 ·rw[Go.MapKept.run_findKey h2 m2,dec_of m1]
  simp[zP]
 ·rw[Go.MapKept.run_findKey h2 m2,ZD m1]
  simp[h3]
noncomputable def ZCP (ks:List ByteArray)(s:ByteArray):List ByteArray:=if dec (s∈ks)=true then ks else ks++[s]
theorem ZHq {t:TypeId}(ht:ZKc P t=true){b:Nat}(hb:w.heap[b]? =some (.map es clock))(he:ZBc es.toList ks)(s:ByteArray):
  ∃es' clock',(zN t (.map (some b)) (.string s) (.bool true)).run P w=.ok () {w with heap:=w.heap.setIfInBounds b (.map es' clock')}/\ZBc es'.toList (ZCP ks s):=by
 obtain⟨k,e,h1,h2,h3⟩:=ZFP ht
 unfold zN
 simp only[zO,run_underlying h1,zQ,Go.MapKept.run_getObj_map hb]
 rw[Go.MapKept.run_checkKey (n:=9999) h2 (by simp[Go.MapKept.IsKey])]
 simp only
 rcases ZBb (s:=s) es.toList ks 0 he with⟨m1,j,e',m2,_,m3,m4,m5⟩|⟨m1,m2⟩
 ·rw[Go.MapKept.run_findKey h2 m2]
  have m3':es[j]? =some e':=by simpa using m3
  have hk:(zM (.string s) (.string s)).run P w=.ok (.string s) w:=by
   unfold zM
   simp[Instr.sameBits,ZJw]
  simp only[zO,m3',Option.map_some,Option.getD_some,m4,hk,zQ,Go.MapKept.run_setObj_map _ hb]
  refine⟨_,_,rfl,?_⟩
  unfold ZCP
  rw[iP (dec_of m1)]
  unfold ZBc at he ⊢
  rw[←he,Array.toList_modify]
  apply List.ext_getElem?
  grind
 ·rw[Go.MapKept.run_findKey h2 m2]
  simp only[Go.MapKept.run_setObj_map _ hb]
  refine⟨_,_,rfl,?_⟩
  unfold ZCP
  rw[iN (by rw[ZD m1];simp)]
  unfold ZBc at he ⊢
  simp[he]
theorem MSim.upd (h:MSim B N w00 ms st m a w){b:Nat}{ks':List ByteArray}(hg:(b,ks)∈ms)(he:ZBc es.toList ks'):
  MSim B N w00 (ZDz ms b ks') st m a {w with heap:=w.heap.setIfInBounds b (.map es clock)}:=by
 obtain⟨h1,h2,h3,es0,c0,h4,h5⟩:=h.mok.1 _ hg
 have hs:=Go.MapKept.heap_set (o':=.map es clock) h4
 have hsz:(w.heap.setIfInBounds b (.map es clock)).size=w.heap.size:=by simp
 have hkeep:∀x,x<w.heap.size->¬Av m x->(w.heap.setIfInBounds b (.map es clock))[x]? =w.heap[x]? :=fun x _ hx=>hs.2 x fun e=>hx (by subst e;exact .inr h3)
 have hwr:∀x,Wr m x->(w.heap.setIfInBounds b (.map es clock))[x]? =w.heap[x]? :=fun x hx=>hs.2 x fun e=>h.sim.sep x hx (by subst e;exact h3)
 have htb:TbOk B m {w with heap:=w.heap.setIfInBounds b (.map es clock)}:=by
  intro g hg
  obtain⟨a1,a2,ccs,ty,fz,a3,a4⟩:=h.sim.tb g hg
  grind
 refine⟨h.sim.amid (w':={w with heap:=w.heap.setIfInBounds b (.map es clock)}) (by show _<=(w.heap.setIfInBounds b (.map es clock)).size;omega) hkeep hwr rfl rfl (fun _ _ h=>h) h.sim.sep (fun x hx=>by show x<(w.heap.setIfInBounds b (.map es clock)).size;have:=h.sim.avlt x hx;omega) htb,
  ⟨h.fr.1,fun i=>(h.fr.2 i).amid (m':=m) (w':={w with heap:=w.heap.setIfInBounds b (.map es clock)}) (by show _<=(w.heap.setIfInBounds b (.map es clock)).size;omega) hkeep hwr rfl rfl (fun _ _ h=>h)⟩,h.df,
  ⟨h.below.os,h.below.tape,h.below.output,by have:=h.below.size;show _<=(w.heap.setIfInBounds b (.map es clock)).size;omega,fun k hk=> ?_⟩,h.young,fun p hp=> ?_,by rw[ZEG];exact h.mok.2⟩
 ·show(w.heap.setIfInBounds b (.map es clock))[k]? =_
  have:w00.heap.size<=b:=h1
  rw[hs.2 k (by omega),h.below.block k hk]
 ·rcases ZFN hp h.mok.2 with⟨rfl,_⟩|⟨hm,hne⟩
  ·grind
  ·obtain⟨q1,q2,q3,es1,c1,q4,q5⟩:=h.mok.1 p hm
   grind
def ZGb :Op->Bool
 | .makeMap .. | .lookup .. | .mapUpdate .. =>true
 |_=>false
def ZLD (P:Program)(N:Nat)(o:Oper)(st:ASt)(ms:Ms)(K:ASt->Ms->Prop):Prop:=
 match o.op with
 | .makeMap _ none=>∀b,(∀p,p∈ms->p.1≠b)->ZAL N o.dst (.lit (.map (some b))) st.fr st.σ fun st'=>K st' (ms++[(b,[])])
 | .lookup t x k false=>ZKc P t=true/\match ev st.fr x,ev st.fr k with
  | .lit (.map (some b)),.lit (.string s)=>match ZD0 ms b with
   |some ks=>ZAL N o.dst (.lit (.bool (dec (s∈ks)))) st.fr st.σ fun st'=>K st' ms
   |none=>False
  |_,_=>False
 | .mapUpdate t x k v=>ZKc P t=true/\match ev st.fr x,ev st.fr k,ev st.fr v with
  | .lit (.map (some b)),.lit (.string s),.lit (.bool true)=>match ZD0 ms b with
   |some ks=>ZAL N o.dst (.lit undef) st.fr st.σ fun st'=>K st' (ZDz ms b (ZCP ks s))
   |none=>False
  |_,_,_=>False
 |_=>False
def ZBQ (P:Program)(B N:Nat)(ops:Array Oper):List Oper->ASt->Ms->(ASt->Ms->Prop)->Prop
 | [],st,ms,K=>K st ms
 | o :: rest, st, ms, K => if ZGb o.op = true then ZAX ops st.fr o.guard (ZLD P N o st ms fun st' ms' => ZBQ P B N ops rest st' ms' K)
    (ZAL N o.dst (.lit undef) st.fr st.σ fun st'=>ZBQ P B N ops rest st' ms K)
   else ZAX ops st.fr o.guard (aop P B N o st fun st'=>ZBQ P B N ops rest st' ms K)
    (ZAL N o.dst (.lit undef) st.fr st.σ fun st'=>ZBQ P B N ops rest st' ms K)
theorem MSim.put (h:MSim B N w00 ms st m a w){d:Option Nat}{v:Value}{K:ASt->Prop}(hk:ZAL N d (.lit v) st.fr st.σ K):∃st',K st'/\MSim B N w00 ms st' m (a.put d v) w:=by
 obtain⟨st',h1,h2⟩:=h.toA.next hk h.sim (.lit v) (Fr.refl m w)
 exact⟨st',h1,h.step h2⟩
theorem ZIS {o:Oper}{K:ASt->Ms->Prop}(hk:ZLD P N o st ms K)(h:MSim B N w00 ms st m a w){next:Act->World->Prop}{Q:Exit->Act->World->Prop}(hn:∀st' ms' m' a' w',K st' ms'->MSim B N w00 ms' st' m' a' w'->next a' w'):o.wp P a w next Q:=by
 unfold ZLD at hk
 split at hk
 ·next t ho=>
  have hfresh:∀p,p∈ms->p.1≠w.heap.size:=fun p hp=>by have:=(h.mok.1 p hp).2.1;omega
  obtain⟨st',h1,h2⟩:=h.make.put (hk w.heap.size hfresh)
  unfold Oper.wp
  have hrun:(execOp a.eval o).run P w=.ok (.value (.map (some w.heap.size))) (w.alloc (.map #[] 0)):=by
   unfold execOp;rw[ho];rfl
  rw[hrun,Oper.upon_value]
  exact hn _ _ _ _ _ h1 h2
 ·next t x k ho=>
  obtain⟨ht,hk⟩:=hk
  split at hk
  ·next b s hx hs=>
   split at hk
   ·next ks hg=>
    have hm:=ZDT hg
    obtain⟨_,_,_,es,clock,h4,h5⟩:=h.mok.1 _ hm
    have r1:=RelO.of h.fr x
    have r2:=RelO.of h.fr k
    rw[hx]at r1;rw[hs]at r2
    have r1:=zR r1
    have r2:=zR r2
    obtain⟨st',q1,q2⟩:=h.put hk
    unfold Oper.wp
    have hrun:(execOp a.eval o).run P w=.ok (.value (.bool (dec (s∈ks)))) w:=by
     unfold execOp;rw[ho]
     simp only[r1,r2]
     simp[ZHr ht h4 h5 s]
    rw[hrun,Oper.upon_value]
    exact hn _ _ _ _ _ q1 q2
   ·exact hk.elim
  ·exact hk.elim
 ·next t x k v ho=>
  obtain⟨ht,hk⟩:=hk
  split at hk
  ·next b s hx hs hv=>
   split at hk
   ·next ks hg=>
    have hm:=ZDT hg
    obtain⟨_,_,_,es,clock,h4,h5⟩:=h.mok.1 _ hm
    have r1:=RelO.of h.fr x
    have r2:=RelO.of h.fr k
    have r3:=RelO.of h.fr v
    rw[hx]at r1;rw[hs]at r2;rw[hv]at r3
    have r1:=zR r1
    have r2:=zR r2
    have r3:=zR r3
    obtain⟨es',clock',hrun,he⟩:=ZHq ht h4 h5 s
    obtain⟨st',q1,q2⟩:=(h.upd (clock:=clock') hm he).put hk
    unfold Oper.wp
    have hrun':(execOp a.eval o).run P w=.ok .skip {w with heap:=w.heap.setIfInBounds b (.map es' clock')}:=by
     unfold execOp;rw[ho]
     simp_all
    rw[hrun',Oper.upon_skip]
    exact hn _ _ _ _ _ q1 q2
   ·exact hk.elim
  ·exact hk.elim
 ·exact hk.elim
theorem ZDn {ops:Array Oper}{K:ASt->Ms->Prop}{Q:Exit->Act->World->Prop}
  (hn:∀st' ms' m' a' w',K st' ms'->MSim B N w00 ms' st' m' a' w'->Q .normal a' w'):
  ∀(k i:Nat),i+k=ops.size->∀(st:ASt) (ms:Ms) (m:Map) (a:Act) (w:World),ZBQ P B N ops (ops.toList.drop i) st ms K->MSim B N w00 ms st m a w->
   wpOps P ops Q (zF i k) a w
 |0,i,hik,st,ms,m,a,w,hk,h=>by
  rw[List.drop_eq_nil_of_le (by rw[zB];omega)]at hk
  simp only[List.range'_zero,wpOps]
  exact hn _ _ _ _ _ hk h
 |k+1,i,hik,st,ms,m,a,w,hk,h=>by
  have hi:i<ops.toList.length:=by rw[zB];omega
  rw[List.drop_eq_getElem_cons hi]at hk
  have hi':ops[i]? =some ops.toList[i]:=by rw[←Array.getElem?_toList,List.getElem?_eq_getElem hi]
  generalize ops.toList[i]=o at hk hi'
  simp only[List.range'_succ,wpOps,hi']
  have ih:=ZDn (ops:=ops) hn k (i+1) (by omega)
  have no:ZAL N o.dst (.lit undef) st.fr st.σ (fun st'=>ZBQ P B N ops (ops.toList.drop (i+1)) st' ms K)->
    wpOps P ops Q (zF (i+1) k) (a.put o.dst undef) w:=by
   intro hk
   obtain⟨st',hst,hsim⟩:=h.put hk
   grind
  have guarded:∀(yes:Prop) (_:yes->o.wp P a w (wpOps P ops Q (zF (i+1) k)) Q),ZAX ops st.fr o.guard yes (ZAL N o.dst (.lit undef) st.fr st.σ (fun st'=>ZBQ P B N ops (ops.toList.drop (i+1)) st' ms K))->
    (if zS o (yielded ops a.tmps)=true then o.wp P a w (wpOps P ops Q (zF (i+1) k)) Q∨(o.asks P a w/\LetsOut Q)else wpOps P ops Q (zF (i+1) k) (a.put o.dst undef) w):=by
   intro yes hyes hk
   unfold ZAX at hk
   split at hk
   ·next hg=>
    rw[iP (by simp[zS,hg])]
    exact .inl (hyes hk)
   ·next j want hg=>
    split at hk
    ·next d hd=>
     split at hk
     ·next v hb=>
      have hv:=h.fr.2 d
      rw[hb]at hv
      have hv:=zR hv
      have hy:=ZBj hd hv
      split at hk
      ·next hbw=>
       rw[iP (by simp[zS,hg,hy,hbw])]
       exact .inl (hyes hk)
      ·next hbw=>
       rw[iN (by simp[zS,hg,hy,hbw])]
       exact no hk
     ·exact hk.elim
    ·exact hk.elim
  simp only[ZBQ]at hk
  split at hk
  ·exact guarded _ (fun hk=>ZIS hk h fun st' ms' m' a' w' hk' h'=>ih st' ms' m' a' w' hk' h') hk
  ·exact guarded _ (fun hk=>ZBd hk h.toA fun st' m' a' w' hk' h'=>ih st' ms m' a' w' hk' (h.step h')) hk
def MLoop (P:Program)(B N:Nat)(c:Code)(st:ASt)(ms:Ms)(Q:Exit->ASt->Ms->Prop):Prop:=
 ∀w00 m a w,MSim B N w00 ms st m a w->ZOF P c (fun e a' w'=>∃st' ms' m',Q e st' ms'/\MSim B N w00 ms' st' m' a' w') a w
def ZBo (P:Program)(B N:Nat):Code->ASt->Ms->(Exit->ASt->Ms->Prop)->Prop
 | .skip,st,ms,Q=>Q .normal st ms
 | .region _ ops draw,st,ms,Q=>if draw=true then ADraw P B st.σ.length N ops st (fun st'=>Q .normal st' ms)else ZBQ P B N ops ops.toList st ms (Q .normal)
 | .seq a b,st,ms,Q=>ZBo P B N a st ms fun e st' ms'=>match e with
  | .normal=>ZBo P B N b st' ms' Q
  |e=>Q e st' ms'
 | .cond c a b,st,ms,Q=>match ev st.fr c with
  | .lit (.bool v)=>if v=true then ZBo P B N a st ms Q else ZBo P B N b st ms Q
  |_=>False
 | .block id c,st,ms,Q=>ZBo P B N c st ms fun e st' ms'=>match e with
  | .exit id'=>if id'=id then Q .normal st' ms' else Q (.exit id') st' ms'
  |e=>Q e st' ms'
 | .loop c,st,ms,Q=>MLoop P B N c st ms Q
 | .exit id,st,ms,Q=>Q (.exit id) st ms
 | .ret,st,ms,Q=>Q .ret st ms
 |_,_,_,_=>False
theorem MSim.drew (h:MSim B N w00 ms st m a w):MSim B N w00 ms st m a w.drew:=
 ⟨h.sim.drew,h.fr.mono (Fr.drew m w),h.df,⟨h.below.os,h.below.tape,h.below.output,h.below.size,h.below.block⟩,h.young,h.mok⟩
theorem ZAS :∀(c:Code) (st:ASt) (ms:Ms) (Q:Exit->ASt->Ms->Prop),ZBo P B N c st ms Q->∀(m:Map) (a:Act) (w:World),MSim B N w00 ms st m a w->
  c.wp P (fun e a' w'=>∃st' ms' m',Q e st' ms'/\MSim B N w00 ms' st' m' a' w') a w
 | .skip,st,ms,Q,hk,m,a,w,h=>wp_skip ⟨st,ms,m,hk,h⟩
 | .region id ops draw,st,ms,Q,hk,m,a,w,h=>by
  simp only[ZBo]at hk
  cases draw with
  |true=>
   simp only[if_true]at hk
   have h':=h.drew
   exact wp_region_any hk.1 (hk.2 m w.drew m a w.drew h'.toA _ (fun st' m' a' w' hk' hs'=>⟨st',ms,m',hk',h'.step hs'⟩))
  |false=>
   simp only[zJ,if_false]at hk
   refine wp_region ?_
   rw[List.range_eq_range']
   exact ZDn (fun st' ms' m' a' w' hk' h'=>⟨st',ms',m',hk',h'⟩) ops.size 0 (by simp) st ms m a w (by simpa using hk) h
 | .seq x y,st,ms,Q,hk,m,a,w,h=>by
  refine wp_seq (wp_mono (ZAS x st ms _ hk m a w h) ?_)
  rintro e a' w' ⟨st',ms',m',hq,hs⟩
  cases e with
  |normal=>exact ZAS y st' ms' Q hq m' a' w' hs
  |_=>exact⟨st',ms',m',hq,hs⟩
 | .cond c x y,st,ms,Q,hk,m,a,w,h=>by
  simp only[ZBo]at hk
  split at hk
  ·next v hv=>
   have hc:=RelO.of h.fr c
   rw[hv]at hc
   have hc:=zR hc
   refine wp_cond hc ?_
   cases v with
   |true=>simp only[if_true]at hk ⊢;exact ZAS x st ms Q hk m a w h
   |false=>simp only[zJ,if_false]at hk ⊢;exact ZAS y st ms Q hk m a w h
  ·exact hk.elim
 | .block id c,st,ms,Q,hk,m,a,w,h=>by
  refine wp_block (wp_mono (ZAS c st ms _ hk m a w h) ?_)
  rintro e a' w' ⟨st',ms',m',hq,hs⟩
  cases e with
  |exit id'=>
   simp only[Exit.inBlock]
   grind
  |_=>exact⟨st',ms',m',hq,hs⟩
 | .loop c,st,ms,Q,hk,m,a,w,h=>ZFX (hk w00 m a w h)
 | .exit id,st,ms,Q,hk,m,a,w,h=>wp_exit ⟨st,ms,m,hk,h⟩
 | .ret,st,ms,Q,hk,m,a,w,h=>wp_ret ⟨st,ms,m,hk,h⟩
 | .rangeFunc ..,_,_,_,hk,_,_,_,_=>hk.elim
 | .scope ..,_,_,_,hk,_,_,_,_=>hk.elim
 | .label ..,_,_,_,hk,_,_,_,_=>hk.elim
 | .goto ..,_,_,_,hk,_,_,_,_=>hk.elim
 | .refuse ..,_,_,_,hk,_,_,_,_=>hk.elim
def AgainM (P:Program)(B N:Nat)(c:Code)(Q:Exit->ASt->Ms->Prop)(st':ASt)(ms:Ms):Prop:=∃st2,Gh B 0 N st' st2/\MLoop P B N c st2 ms Q
def LeaveM (B N:Nat)(Q:Exit->ASt->Ms->Prop)(e:Exit)(st':ASt)(ms:Ms):Prop:=∃st2,Gh B 0 N st' st2/\Q e st2 ms
def ZE9 (P:Program)(B N:Nat)(c:Code)(Q:Exit->ASt->Ms->Prop)(e:Exit)(st':ASt)(ms:Ms):Prop:=
 match e with
 | .normal=>AgainM P B N c Q st' ms
 |e=>LeaveM B N Q e st' ms
variable {c:Code}{Q:Exit->ASt->Ms->Prop}
theorem MLoop.unroll (h:ZBo P B N c st ms (ZE9 P B N c Q)):MLoop P B N c st ms Q:=by
 intro w00 m a w hs
 refine ZDY (wp_mono (ZAS c st ms _ h m a w hs) ?_)
 rintro e a' w' ⟨st',ms',m',hq,hs'⟩
 cases e with
 |normal=>
  obtain⟨st2,hg,hl⟩:=hq
  obtain⟨m2,h2⟩:=hs'.ghost hg
  exact hl w00 m2 a' w' h2
 |_=>
  obtain⟨st2,hg,hl⟩:=hq
  obtain⟨m2,h2⟩:=hs'.ghost hg
  exact⟨st2,ms',m2,hl,h2⟩
theorem MLoop.from {st0:ASt}(hg:Gh B 0 N st st0)(h:MLoop P B N c st0 ms Q):MLoop P B N c st ms Q:=by
 intro w00 m a w hs
 obtain⟨m1,h1⟩:=hs.ghost hg
 exact h w00 m1 a w h1
theorem PureCall.introM {f:FuncId}{fn:Func}{args:List AV}{v:Value}(hf:P.funcs[f]? =some fn)(hn:(fn.name== "runtime.NumGoroutine")=false)(hb:fn.body=some c)(hN:fn.ntmps=N)(hargs:args.length<=N)(h:ZBo P B N c ⟨ZBR 0 args,[]⟩ [] fun e st _=>ZAR P fn (fun r' _=>r'=.lit v) e st):PureCall P B f args (.lit v):=by
 refine⟨⟨fn,hf,hn,by rw[hb];rfl⟩,by simp[AV.pure],fun av w vs hav hv=>calls_of_wp hf hb ?_⟩
 subst hN
 let m0:Map:=⟨fun _=>.dead,0,av⟩
 have hWr:∀b,¬Wr m0 b:=by rintro b ⟨l,hl⟩;simp[m0,MS.has]at hl
 have hAv:∀b,Av m0 b->av b:=fun b hb=>hb.resolve_left (hWr b)
 have hsim:Sim B m0 [] w:=⟨rfl,fun l=>by simp[ZAc,m0],fun l l' b hl=>by simp[m0,MS.has]at hl,fun b hb=>absurd hb (hWr b),hav.1,hav.2.ok fun b hb=>absurd hb (hWr b)⟩
 have hv':RelL B (Av m0) m0 w args vs:=⟨hv.1,fun i x hi=>((hv.2 i x hi).weaken hAv).shift m0⟩
 have h0:MSim B fn.ntmps w [] ⟨ZBR 0 args,[]⟩ m0 ⟨vs++zA (fn.ntmps-vs.size) undef,[]⟩ w:=
  ⟨hsim,ZAU hv' hargs,rfl,Below.refl _ w,fun b hb=>absurd hb (hWr b),⟨fun p hp=>(by cases hp),List.nodup_nil⟩⟩
 refine wp_mono (ZAS c _ _ _ h m0 _ w h0) ?_
 rintro e a' w' ⟨st',ms',m',hq,hs⟩
 have fin:∀(hq:ZBp P st'.σ st'.fr fn.results.toList fun xs=>ZJh st'.σ (pack xs) fun r' _=>r'=.lit v),
   a'.defers=[]/\∃v',(results fn a'.tmps).run P w'=.ok v' w'/\∃u,Ending.returned v'=.returned u/\Conc B av w' M0 (.lit v) u/\Below w.heap.size w w':=by
  intro hq
  obtain⟨xs,u,hK,hrun,hc⟩:=ZU hs.toA hq
  obtain⟨r',σ',m'',rfl,hs2,hf2,hc2⟩:=ZA9 hs.sim hK hc
  have:=zR hc2
  subst this
  exact⟨hs.df,_,hrun,_,rfl,.lit _,hs.below⟩
 cases e with
 |normal=>exact fin hq
 |ret=>exact fin hq
 |_=>exact hq.elim
end
end Go.Vl
namespace Go.Vl
open Go Go.RowKit
section
variable {P : Program} {B N : Nat}
def ZOv (P:Program)(B N:Nat)(b:Code)(Q:Exit->ASt->Ms->Prop)(e:Exit)(st:ASt)(ms:Ms):Prop:=
 match e with
 | .normal=>ZBo P B N b st ms (hold Q .mk)
 |e=>Q e st ms
def ZHd (id:Nat)(Q:Exit->ASt->Ms->Prop)(e:Exit)(st:ASt)(ms:Ms):Prop:=
 match e with
 | .exit id'=>if id'=id then Q .normal st ms else Q (.exit id') st ms
 |e=>Q e st ms
def AMake (ms:Ms)(K:Nat->Prop):Prop:=∀b,(∀p,p∈ms->p.1≠b)->K b
variable {ms:Ms}
theorem AMake.go {K:Nat->Prop}{k:Box K}(h:∀b,(∀p,p∈ms->p.1≠b)->K b):AMake ms (hold K k):=h
def lkM (ms:Ms)(x k:AV)(K:Bool->Prop):Prop:=match x,k with
 | .lit (.map (some b)),.lit (.string s)=>match ZD0 ms b with
  |some ks=>K (dec (s∈ks))
  |none=>False
 |_,_=>False
def upM (ms:Ms)(x k v:AV)(K:Ms->Prop):Prop:=match x,k,v with
 | .lit (.map (some b)),.lit (.string s),.lit (.bool true)=>match ZD0 ms b with
  |some ks=>K (ZDz ms b (ZCP ks s))
  |none=>False
 |_,_,_=>False
variable {s:ByteArray}
theorem ZOD {b:Nat}{K:Bool->Prop}{k:Box K}:lkM ms (.lit (.map (some b))) (.lit (.string s)) (hold K k)=match ZD0 ms b with
  |some ks=>K (dec (s∈ks))
  |none=>False:=rfl
theorem ZNL {b:Nat}{K:Ms->Prop}{k:Box K}:upM ms (.lit (.map (some b))) (.lit (.string s)) (.lit (.bool true)) (hold K k)=match ZD0 ms b with
  |some ks=>K (ZDz ms b (ZCP ks s))
  |none=>False:=rfl
variable {Q:Exit->ASt->Ms->Prop}{q:Box Q}{st:ASt}
theorem ZMU :ZBo P B N .skip st ms (hold Q q)=Q .normal st ms:=rfl
variable {id:Nat}
theorem ZJf {l:List Oper}:ZBo P B N (.region id (zI l) false) st ms (hold Q q)=ZBQ P B N (hold (zI l) .mk) l st ms (hold (Q .normal) .mk):=by simp only[ZBo,zJ,if_false,hold]
variable {ops:Array Oper}
theorem ZMX :ZBo P B N (.region id ops true) st ms (hold Q q)=ADraw P B st.σ.length N (hold ops .mk) st (hold (fun st'=>Q .normal st' ms) .mk):=by simp only[ZBo,if_true,hold]
variable {b:Code}
theorem ZOM {a:Code}:ZBo P B N (.seq a b) st ms (hold Q q)=ZBo P B N a st ms (hold (ZOv P B N b Q) .mk):=by simp only[hold];rw[ZBo];congr
theorem ZMY {c:Operand}{a:Code}:ZBo P B N (.cond c a b) st ms (hold Q q)=(match ev st.fr c with
  | .lit (.bool v)=>abr (v=true) (hold (ZBo P B N a st ms (hold Q .mk)) .mk) (hold (ZBo P B N b st ms (hold Q .mk)) .mk)
  |_=>False):=by
 simp only[ZBo,hold]
 generalize ev st.fr c=v
 cases v<;>try rfl
 next v=>cases v<;>first|exact ZG1.symm|rfl
variable {c:Code}
theorem ZKk :ZBo P B N (.block id c) st ms (hold Q q)=ZBo P B N c st ms (hold (ZHd id Q) .mk):=by simp only[hold];rw[ZBo];congr
theorem ZMV :ZBo P B N (.loop c) st ms (hold Q q)=MLoop P B N (hold c .mk) st ms (hold Q .mk):=rfl
variable {i:Nat}
theorem ZMW :ZBo P B N (.exit i) st ms (hold Q q)=Q (.exit i) st ms:=rfl
theorem ZON :ZBo P B N .ret st ms (hold Q q)=Q .ret st ms:=rfl
theorem ZIq :ZOv P B N b Q .normal st ms=ZBo P B N b st ms (hold Q .mk):=rfl
theorem ZNO :ZOv P B N b Q .ret st ms=Q .ret st ms:=rfl
theorem ZLj :ZOv P B N b Q (.exit i) st ms=Q (.exit i) st ms:=rfl
theorem ZJy :ZHd i Q .normal st ms=Q .normal st ms:=rfl
theorem ZOn :ZHd i Q .ret st ms=Q .ret st ms:=rfl
theorem ZM3 {j:Nat}:ZHd i Q (.exit j) st ms=(if j=i then Q .normal st ms else Q (.exit j) st ms):=rfl
variable {bc:Box c}{bQ:Box Q}
theorem ZIu :ZE9 P B N (hold c bc) (hold Q bQ) .normal st ms=AgainM P B N (hold c .mk) (hold Q .mk) st ms:=rfl
theorem ZNT :ZE9 P B N (hold c bc) (hold Q bQ) .ret st ms=LeaveM B N (hold Q .mk) .ret st ms:=rfl
theorem ZLo :ZE9 P B N (hold c bc) (hold Q bQ) (.exit i) st ms=LeaveM B N (hold Q .mk) (.exit i) st ms:=rfl
variable {K:ASt->Ms->Prop}{k:Box K}
theorem ZIF :ZBQ P B N ops [] st ms (hold K k)=K st ms:=rfl
theorem ZGe {bo:Box ops}{o:Oper}{rest:List Oper}:ZBQ P B N (hold ops bo) (o::rest) st ms (hold K k)=
  (if ZGb o.op=true then ZAX (hold ops .mk) st.fr o.guard (hold (ZLD P N o st ms (hold (fun st' ms'=>ZBQ P B N (hold ops .mk) rest st' ms' (hold K .mk)) .mk)) .mk)
    (hold (ZAL N o.dst (.lit undef) st.fr st.σ (hold (fun st'=>ZBQ P B N (hold ops .mk) rest st' ms (hold K .mk)) .mk)) .mk)
   else ZAX (hold ops .mk) st.fr o.guard (hold (aop P B N o st (hold (fun st'=>ZBQ P B N (hold ops .mk) rest st' ms (hold K .mk)) .mk)) .mk)
    (hold (ZAL N o.dst (.lit undef) st.fr st.σ (hold (fun st'=>ZBQ P B N (hold ops .mk) rest st' ms (hold K .mk)) .mk)) .mk)):=rfl
variable {d:Option Nat}{t ty:TypeId}{p:String}{es:Array Edge}{g:Option (Nat×Bool)}
theorem ZM4 :
  ZLD P N ⟨d,.makeMap t none,ty,p,es,g⟩ st ms (hold K k)=AMake ms (hold (fun b=>ZAL N d (.lit (.map (some b))) st.fr st.σ (hold (fun st'=>K st' (ms++[(b,[])])) .mk)) .mk):=rfl
theorem ZJ3 {x y:Operand}:
  ZLD P N ⟨d,.lookup t x y false,ty,p,es,g⟩ st ms (hold K k)=chk (ZKc P t=true) (hold (lkM ms (ev st.fr x) (ev st.fr y) (hold (fun v=>ZAL N d (.lit (.bool v)) st.fr st.σ (hold (fun st'=>K st' ms) .mk)) .mk)) .mk):=by
 simp only[ZLD,chk,hold,lkM];try rfl
theorem ZJ2 {x y z:Operand}:
  ZLD P N ⟨d,.mapUpdate t x y z,ty,p,es,g⟩ st ms (hold K k)=chk (ZKc P t=true) (hold (upM ms (ev st.fr x) (ev st.fr y) (ev st.fr z) (hold (fun ms'=>ZAL N d (.lit undef) st.fr st.σ (hold (fun st'=>K st' ms') .mk)) .mk)) .mk):=by
 simp only[ZLD,chk,hold,upM];try rfl
theorem MLoop.know (h:(∀i,(lk st.fr i).bnd B)->(∀(l:Nat) b,st.σ[l]? =some b->b.bnd B)->MLoop P B N c st ms Q):MLoop P B N c st ms Q:=by
 intro w00 m a w hs
 have hlt:(∀i,(lk st.fr i).bnd B):=fun i=>(hs.fr.2 i).bnd
 refine h hlt (fun l b hb=> ?_) w00 m a w hs
 have hs2:=hs.sim.blk l
 rw[hb]at hs2
 cases b with
 |dead=>trivial
 |pack xs vs=>trivial
 |tcells ot cs=>
  obtain⟨_,_,_,_,_,_,g4⟩:=hs2
  simp only[Blk.bnd]
  have:∀(k:List AV),(∀x,x∈k->x.bnd B)->AV.bnd.bnds B k:=by
   intro k
   induction k with
   |nil=>intro _;simp[AV.bnd.bnds]
   |cons a r ih2=>intro hl;simp only[AV.bnd.bnds];exact⟨hl a (by simp),ih2 fun x hx=>hl x (zG _ hx)⟩
  refine this cs fun x hx=> ?_
  obtain⟨i,hi⟩:=List.getElem?_of_mem hx
  obtain⟨_,_,hc⟩:=g4 i x hi
  exact hc.bnd
 |telems oe sz es=>exact hs2.2.1
theorem MLoop.enter (h:ZBo P B N c st ms (hold (ZE9 P B N (hold c .mk) (hold Q .mk)) .mk)):MLoop P B N (hold c bc) st ms (hold Q bQ):=MLoop.unroll h
theorem MLoop.goU (st0:ASt)(hg:Gh B 0 N st st0)(h:MLoop P B N (hold c .mk) st0 ms (hold Q .mk)):MLoop P B N (hold c bc) st ms (hold Q bQ):=MLoop.from hg h
theorem AgainM.go (st0:ASt)(hg:Gh B 0 N st st0)(h:MLoop P B N (hold c .mk) st0 ms (hold Q .mk)):AgainM P B N (hold c bc) (hold Q bQ) st ms:=⟨st0,hg,h⟩
theorem LeaveM.go {e:Exit}(st0:ASt)(hg:Gh B 0 N st st0)(h:Q e st0 ms):LeaveM B N (hold Q bQ) e st ms:=⟨st0,hg,h⟩
theorem PureCall.enterM {f:FuncId}{fn:Func}{args:List AV}{v:Value}(hf:P.funcs[f]? =some fn)(hn:(fn.name== "runtime.NumGoroutine")=false)(hb:fn.body=some c)(hN:fn.ntmps=N)(hargs:args.length<=N)(h:ZBo P B N c ⟨ZBR 0 args,[]⟩ [] (hold (fun e st _=>ZAR P fn (fun r' _=>r'=.lit v) e st) .mk)):PureCall P B f args (.lit v):=PureCall.introM hf hn hb hN hargs h
end
attribute [simp ↓] ZMU ZJf ZMX ZOM ZMY ZKk ZMV ZMW ZON ZIq ZNO ZLj ZJy ZOn ZM3 ZIu ZNT ZLo ZIF ZGe ZM4 ZJ3 ZJ2
attribute [simp] ZOD ZNL ZD0 ZDz ZGb
end Go.Vl
