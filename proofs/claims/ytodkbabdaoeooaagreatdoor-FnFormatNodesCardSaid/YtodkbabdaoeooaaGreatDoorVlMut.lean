/- Part. -/
import Derived.Test.YtodkbabdaoeooaaGreatDoorVlF
set_option linter.all false
namespace Go.Vl
open Go Go.RowKit
def ZEK (σ:ZE)(cs:List AV):Prop:=
 match σ with
 | .cells ds::_=>AV.le.les ds cs
 |_=>False
def MutCall (P:Program)(B:Nat)(f:FuncId)(cs args:List AV)(r:AV)(cs':List AV):Prop:=
 Ent P f/\r.pure/\AV.pure.pures cs/\AV.pure.pures cs'/\∀m w vs,Sim B m [.cells cs] w->RelL B (Av m) m w args vs->
  Calls P f vs w fun e w'=>∃u m' σ',e=.returned u/\ZEK σ' cs'/\Sim B m' σ' w'/\Conc B (Av m') w' m' r u/\Fr m w m' w'
def ZH2 (P:Program)(fn:Func)(K:AV->ZE->Prop)(e:Exit)(st:ASt):Prop:=
 match e with
 | .normal| .ret=>ZD7 P st.σ st.fr fn.results.toList (hold (fun xs=>K (pack xs) st.σ) .mk)
 |_=>False
section
variable {P : Program} {B nb N : Nat}
theorem ZPd {fn:Func}{K:AV->ZE->Prop}{k:Box K}{st:ASt}:ZH2 P fn (hold K k) .ret st=(ZD7 P st.σ st.fr fn.results.toList (hold (fun xs=>K (pack xs) st.σ) .mk)):=rfl
theorem ZKT {fn:Func}{K:AV->ZE->Prop}{k:Box K}{st:ASt}:ZH2 P fn (hold K k) .normal st=(ZD7 P st.σ st.fr fn.results.toList (hold (fun xs=>K (pack xs) st.σ) .mk)):=rfl
theorem ACall.inl {f:FuncId}{fn:Func}{c:Code}{args:List AV}{σ:ZE}{K:AV->ZE->Prop}{b:Box K}(hf:P.funcs[f]? =some fn)(hn:(fn.name== "runtime.NumGoroutine")=false)(hb:fn.body=some c)
  (hN:fn.ntmps=N) (hargs:args.length<=N) (h:awp P B σ.length N c ⟨ZCF 0 args,σ⟩ (hold (ZH2 P fn (hold K .mk)) .mk)):ACall P B f args σ (hold K b):=by
 refine⟨⟨fn,hf,hn,by rw[hb];rfl⟩,fun m w vs hs hv=>calls_of_wp hf hb ?_⟩
 subst hN
 have hsim0:ASim B σ.length fn.ntmps m w ⟨ZCF 0 args,σ⟩ m ⟨vs++Array.replicate (fn.ntmps-vs.size) undef,[]⟩ w:=
  ⟨hs,ZAu hv hargs,rfl,Fr.refl m w,hs.n,hs.mapOk⟩
 refine wp_mono (Zf c _ _ h m w m _ w hsim0) ?_
 rintro e a' w' ⟨st',m',hq,hs'⟩
 have fin:∀(hq:ZD7 P st'.σ st'.fr fn.results.toList fun xs=>K (pack xs) st'.σ),
   a'.defers=[]/\∃v,(results fn a'.tmps).run P w'=.ok v w'/\∃u r σ' m'',Ending.returned v=.returned u/\K r σ'/\Sim B m'' σ' w'/\Conc B (Av m'') w' m'' r u/\Fr m w m'' w':=by
  intro hq
  obtain⟨xs,u,hK,hrun,hc⟩:=Zj hs' hq
  exact⟨hs'.df,u,hrun,u,_,_,m',rfl,hK,hs'.sim,hc,hs'.step⟩
 cases e with
 |normal=>exact fin hq
 |ret=>exact fin hq
 |_=>exact hq.elim
theorem MutCall.enter {f:FuncId}{fn:Func}{c:Code}{cs args:List AV}{r:AV}{cs':List AV}(hf:P.funcs[f]? =some fn)(hn:(fn.name== "runtime.NumGoroutine")=false)(hb:fn.body=some c)
  (hN:fn.ntmps=N) (hargs:args.length<=N) (hr:r.pure) (hp:AV.pure.pures cs) (hp':AV.pure.pures cs')
  (h:awp P B 1 N c ⟨ZCF 0 args,[.cells cs]⟩ (hold (ZA2 P fn fun r' σ'=>r'.le r/\ZEK σ' cs') .mk)):MutCall P B f cs args r cs':=by
 refine⟨⟨fn,hf,hn,by rw[hb];rfl⟩,hr,hp,hp',fun m w vs hs hv=>calls_of_wp hf hb ?_⟩
 subst hN
 have hsim0:ASim B 1 fn.ntmps m w ⟨ZCF 0 args,[.cells cs]⟩ m ⟨vs++Array.replicate (fn.ntmps-vs.size) undef,[]⟩ w:=
  ⟨hs,ZAu hv hargs,rfl,Fr.refl m w,hs.n,hs.mapOk⟩
 refine wp_mono (Zf c _ _ h m w m _ w hsim0) ?_
 rintro e a' w' ⟨st',m',hq,hs'⟩
 have fin:∀(hq:ZD7 P st'.σ st'.fr fn.results.toList fun xs=>ZKy st'.σ (pack xs) fun r' σ'=>r'.le r/\ZEK σ' cs'),
   a'.defers=[]/\∃v,(results fn a'.tmps).run P w'=.ok v w'/\∃u m'' σ',Ending.returned v=.returned u/\ZEK σ' cs'/\Sim B m'' σ' w'/\Conc B (Av m'') w' m'' r u/\Fr m w m'' w':=by
  intro hq
  obtain⟨xs,u,hK,hrun,hc⟩:=Zj hs' hq
  obtain⟨r',σ',m'',⟨hle,hm⟩,hs2,hf2,hc2⟩:=ZA6 hs'.sim hK hc
  exact⟨hs'.df,u,hrun,u,m'',σ',rfl,hm,hs2,hc2.le hle,hs'.step.trans hf2 hs.mapOk⟩
 cases e with
 |normal=>exact fin hq
 |ret=>exact fin hq
 |_=>exact hq.elim
def ZJu (l:Nat):List AV->List AV->Prop
 | [],[]=>True
 | .ptr k o::r,.ptr j o'::s=>k=l/\j=0/\o=o'/\ZJu l r s
 |x::r,y::s=>x.le y/\x.pure/\ZJu l r s
 |_,_=>False
theorem ZIN {l:Nat}:∀{xs ys:List AV},ZJu l xs ys->xs.length=ys.length
 | [],[],_=>rfl
 |x::r,y::s,h=>by
  have:ZJu l r s:=by
   cases x<;>cases y<;>simp only[ZJu]at h<;>first|exact h.2.2.2|exact h.2.2
  simp[ZIN this]
 | [],_::_,h=>h.elim
 |x::_,[],h=>by cases x<;>exact h.elim
theorem ZIO {l:Nat}:∀{xs ys:List AV} {i:Nat} {y:AV},ZJu l xs ys->ys[i]? =some y->∃x,xs[i]? =some x/\((∃o,x=.ptr l o/\y=.ptr 0 o)∨(x.le y/\x.pure))
 |x::r,z::s,0,y,h,hi=>by
  simp at hi;subst hi
  refine⟨x,rfl,?_⟩
  cases x<;>cases z<;>simp only[ZJu]at h<;>first|exact .inr ⟨h.1,h.2.1⟩|(obtain⟨rfl,rfl,rfl,_⟩:=h;exact .inl ⟨_,rfl,rfl⟩)
 |x::r,z::s,i+1,y,h,hi=>by
  have:ZJu l r s:=by
   cases x<;>cases z<;>simp only[ZJu]at h<;>first|exact h.2.2.2|exact h.2.2
  simpa using ZIO this (by simpa using hi)
 | [],[],i,y,_,hi=>by simp at hi
 | [],_::_,_,_,h,_=>h.elim
 |x::_,[],_,_,h,_=>by cases x<;>exact h.elim
theorem MutCall.ent {f:FuncId}{cs args:List AV}{r:AV}{cs':List AV}(h:MutCall P B f cs args r cs'):Ent P f:=h.1
theorem MutCall.go {f:FuncId}{cs args:List AV}{r:AV}{cs':List AV}(h:MutCall P B f cs args r cs'){σ:ZE}(l:Nat){ds args':List AV}(hl:σ[l]? =some (.cells ds))(hle:AV.le.les ds cs)(hlen:cs'.length=cs.length)(ha:ZJu l args' args)
  {K:AV->ZE->Prop} {k:Box K} (hK:K r (σ.set l (.cells cs'))):ACall P B f args' σ (hold K k):=by
 obtain⟨hE,hr,hp,hp',hrun⟩:=h
 refine⟨hE,fun m w vs hs hv=> ?_⟩
 have hb:=hs.blk l
 rw[hl]at hb
 obtain⟨b,ccs,ty,g1,g2,g3,g4⟩:=hb
 have hwb:Wr m b:=⟨l,by rw[g1];rfl⟩
 have hbl:b<w.heap.size:=(hs.mapOk b hwb).1
 let m1:Map:=⟨fun i=>if i=0 then .box b else .dead,1,fun x=>Av m x/\x≠b⟩
 have hw1:∀x,Wr m1 x->x=b:=by
  rintro x ⟨i,hi⟩
  by_cases e:i=0
  ·subst e;simp[m1,MS.has]at hi;exact hi.symm
  ·simp[m1,e,MS.has]at hi
 have hwb1:Wr m1 b:=⟨0,by simp[m1,MS.has]⟩
 have hav:∀x,Av m1 x->Av m x:=fun x hx=>hx.elim (fun h=>.inl (by rw[hw1 x h];exact hwb)) (fun h=>h.1)
 have hav':∀x,Av m x->Av m1 x:=fun x hx=>by
  by_cases e:x=b
  ·subst e;exact .inl hwb1
  ·exact .inr ⟨hx,e⟩
 have hsim1:Sim B m1 [.cells cs] w:=by
  refine⟨rfl,fun i=> ?_,fun i i' x h1 h2=> ?_,fun x hx hx'=>hx'.2 (hw1 x hx),fun x hx=>hx.1.elim (fun h=>(hs.mapOk x h).1) (fun h=>hs.avlt x h),hs.tb.sub fun x hx=>by rw[hw1 x hx];exact hwb⟩
  ·by_cases e:i=0
   ·subst e
    refine⟨b,ccs,ty,by simp[m1],g2,by rw[g3,ZAz hle],fun i x hi=> ?_⟩
    obtain⟨z,hz,hzx⟩:=ZA0 hle hi
    obtain⟨y,hy,hc⟩:=g4 i z hz
    exact⟨y,hy,(((hc.le hzx).toM0 (Zx hp hi)).weaken hav).shift m1⟩
   ·have:([Blk.cells cs]:ZE)[i]? =none:=by rw[List.getElem?_eq_none];simp;omega
    rw[this]
    show m1.f i=.dead
    simp[m1,e]
  ·by_cases e:i=0
   ·by_cases e':i'=0
    ·rw[e,e']
    ·simp[m1,e',MS.has]at h2
   ·simp[m1,e,MS.has]at h1
 have hrel:RelL B (Av m1) m1 w args vs:=by
  refine⟨by rw[hv.1,ZIN ha],fun i y hi=> ?_⟩
  obtain⟨x,hx,hxy⟩:=ZIO ha hi
  have hc:=hv.2 i x hx
  rcases hxy with⟨o,rfl,rfl⟩|⟨hle,hpx⟩
  ·generalize vs.getD i undef=v at hc ⊢
   cases hc with
   |ptrOther _ _ _ _ hne=>exact absurd g1 (hne b)
   |ptrBox _ _ b' _ hb'=>
    rw[g1]at hb';cases hb'
    exact .ptrBox 0 o b (by show 0<m1.n;simp[m1]) (by simp[m1])
  ·exact(((hc.toM0 hpx).le hle).weaken hav).shift m1
 refine(hrun m1 w vs hsim1 hrel).mono ?_
 rintro e w' ⟨u,m',σ',rfl,hm,hs',hcr,hfr⟩
 have hkeep:∀x,x<w.heap.size->x≠b->w'.heap[x]? =w.heap[x]? :=fun x hx hne=>hfr.keep x hx fun h=>hne (hw1 x h)
 obtain⟨ds',σt,rfl,hds⟩:∃ds' σt,σ'=.cells ds'::σt/\AV.le.les ds' cs':=by
  unfold ZEK at hm
  split at hm
  ·exact⟨_,_,rfl,hm⟩
  ·exact hm.elim
 have hb0:=hs'.blk 0
 simp only[List.getElem?_cons_zero]at hb0
 obtain⟨b',ccs',ty',q1,q2,q3,q4⟩:=hb0
 have hbb:b=b':=by
  have h0:=hfr.ids 0 (by show 0<m1.n;simp[m1])
  have:=MS.le_box h0 q1
  have e0:m1.f 0=.box b:=by simp[m1]
  rw[e0]at this
  exact MS.box.inj this
 subst hbb
 have hfr':Fr m w m w':=⟨hfr.size,fun x hx hn=>hkeep x hx fun e=>hn (by rw[e];exact hwb),fun x c t hx _ hh=>by
   by_cases e:x=b
   ·subst e;exact hfr.phys x c t hwb1 ⟨0,by rw[q1];rfl⟩ hh
   ·exact⟨c,by rw[hkeep x (hs.mapOk x hx).1 e,hh],rfl⟩,fun x hx=>.inl hx,fun _ _=>.inl rfl,Nat.le_refl _,rfl,hfr.tape,hfr.os,hfr.output⟩
 have hav2:∀x,Av m x->Av m' x:=fun x hx=>by
  by_cases e:x=b
  ·subst e;exact .inl ⟨0,by rw[q1];rfl⟩
  ·exact .inr (by rw[hfr.av];exact⟨hx,e⟩)
 have hlt:l<σ.length:=(List.getElem?_eq_some_iff.1 hl).1
 refine⟨u,r,_,m,rfl,hK,?_,((hcr.toM0 hr).weaken hav2).shift m,hfr'⟩
 refine hs.upd hfr' l (by simpa using hs.n) (fun l' hne=>⟨by rw[List.getElem?_set_ne (Ne.symm hne)],rfl⟩) (fun l' x hne hx=> ?_) ?_ (fun l' x hne hx hx'=> ?_)
 ·refine hkeep x (hs.mapOk x ⟨l',hx⟩).1 fun e=>hne ?_
  subst e
  exact hs.inj l' l x hx (by rw[g1];rfl)
 ·rw[List.getElem?_set_self hlt]
  refine⟨b,ccs',ty',g1,q2,by rw[q3,ZAz hds],fun i x hi=> ?_⟩
  obtain⟨z,hz,hzx⟩:=ZA0 hds hi
  obtain⟨y,hy,hc⟩:=q4 i z hz
  exact⟨y,hy,(((hc.le hzx).toM0 (Zx hp' hi)).weaken hav2).shift m⟩
 ·exact hne (hs.inj l' l x hx hx')
end
attribute [simp ↓] ZPd ZKT
attribute [simp] ZEK ZJu
end Go.Vl
