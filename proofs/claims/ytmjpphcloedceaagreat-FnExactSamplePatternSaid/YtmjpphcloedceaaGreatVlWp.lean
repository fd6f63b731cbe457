import Derived.Test.YtmjpphcloedceaaGreatVlSound6
import Derived.Deep.LoopGhost
set_option linter.all false
open Array renaming getD_eq_getD_getElem?->zA,getElem?_append_right->zB,getElem?_toList->zC,append_assoc->zD,getElem?_append_left->zE,length_toList->zF,getD->zG
open List renaming getElem?_append_right->zH,append_assoc->zI,getElem?_append_left->zJ,range'->zK
open Nat renaming le_refl->zL
namespace Go.Vl
open Go
section
variable {P : Program} {B : Nat} {w : World} {m : Map} {σ : ZE}
theorem GoodN.of1 (h:Sim B m σ w){K:AV->Prop}{K':AV->ZE->Prop}{s:Sem Value}(hx:∃x v,K x/\s.run P w=.ok v w/\Conc B (Av m) w m x v)
  (hK:∀x,K x->K' x σ):GoodN B m w K' ((do pure (.value (←s)):Sem Next).run P w):=by
 obtain⟨x,v,hk,hr,hc⟩:=hx
 have:=GoodN.val h (hK x hk) hc
 simpa[hr]using this
theorem ZFw (h:Sim B m σ w){o:Oper}{ρ:Operand->AV}{ρc:Operand->Value}(hρ:RelO B m w ρ ρc){K:AV->ZE->Prop}
  (hk:aef P B o.op ρ σ K):GoodN B m w K ((execOp ρc o).run P w):=by
 unfold aef at hk
 unfold execOp
 split at hk
 ·next x ho=>rw[ho];exact GoodN.val h hk (hρ x)
 ·next x ho=>rw[ho];exact GoodN.val h hk (hρ x)
 ·next c a b ho=>
  rw[ho]
  split at hk
  ·next v hc=>
   have e:=hρ c;rw[hc]at e;have e:=Conc.lit_inv e
   have:=GoodN.val h hk (u:=if v then ρc a else ρc b) (by cases v<;>simp<;>exact hρ _)
   simpa[asBool,e]using this
  ·exact hk.elim
 ·next t ho=>
  rw[ho]
  split at hk
  ·next i hi=>
   obtain⟨hz,hK⟩:=hk
   obtain⟨d,ti,_,g2,_,_,g4⟩:=ZCv hi
   rw[g4]at hz hK
   obtain⟨zv,hz1,hz2⟩:=ZBi (P:=P) (w:=w) g2 hz
   have hrel:=ZDN (B:=B) (m:=m) (w:=w) zv.cells
   rw[hz2]at hrel
   have key:∃ot cs,ZBe t (ZAa ti)=.tcells ot cs/\(∀T,ot=some T->t=T/\ZO5 w.heap.size zv.cells)/\zv.cells.size=cs.length/\∀i x,cs[i]? =some x->Conc B (Av m) w m x (zv.cells.getD i undef):=by
    have hall:∀i x,((ZAa ti).map AV.lit)[i]? =some x->Conc B (Av m) w m x (zv.cells.getD i undef):=fun i x hi=>by
     obtain⟨y,hy,hc⟩:=hrel.2 i x hi
     have:zv.cells.getD i undef=y:=by simp[zA,hy]
     rw[this];exact hc
    unfold ZBe
    split
    ·next hz3=>
     rw[hz3]at hz2 hrel hall
     refine⟨_,_,rfl,fun T hT=>⟨Option.some.inj hT,.inl ?_,fun a ha=> ?_⟩,hrel.1,fun i x hi=> ?_⟩
     ·rw[←zC,hz2];rfl
     ·rw[←zC,hz2]at ha
      simp at ha;exact ha.symm
     ·match i,hi with
      |0,hi=>simp at hi;subst hi;exact .junk _
      |1,hi=>exact hall 1 x hi
      |i+2,hi=>simp at hi
    ·exact⟨none,_,rfl,(fun _ h=>nomatch h),hrel.1,hall⟩
   obtain⟨ot,cs,hab,hot,hlen,hcc⟩:=key
   rw[hab]at hK
   obtain⟨hf,hs⟩:=h.boxT cs zv.cells t ot hot hlen hcc
   refine⟨.value (.pointer (some ⟨w.heap.size,0,none⟩)),_,_,_,_,w.alloc (.cells zv.cells t),?_,.inl rfl,hK,hs,?_,hf⟩
   ·simp[Instr.alloc,hz1,newVar,newRow]
   ·rw[←h.n];exact .ptrBox m.n 0 w.heap.size (by simp[Map.push]) (Map.push_new _ _)
  ·exact hk.elim
 ·next t x ho=>
  rw[ho]
  obtain⟨cs,hK,hlen,hc⟩:=ZAv h hk (hρ x)
  obtain⟨hf,hs⟩:=h.box cs (ρc x).cells t hlen hc
  refine⟨.value (.pointer (some ⟨w.heap.size,0,none⟩)),_,_,_,_,w.alloc (.cells (ρc x).cells t),?_,.inl rfl,hK,hs,?_,hf⟩
  ·simp[Instr.box,newVar,newRow]
  ·rw[←h.n];exact .ptrBox m.n 0 w.heap.size (by simp[Map.push]) (Map.push_new _ _)
 ·next t parts ho=>
  rw[ho]
  obtain⟨h1,h2⟩:=ZFD hρ parts
  exact(ZF3 h hk h1 h2).toN fun _ _ hh=>hh
 ·next t len parts ho=>
  rw[ho]
  obtain⟨h1,h2⟩:=ZFD hρ parts
  exact(ZCt h hk h1 h2).toN fun _ _ hh=>hh
 ·next t x ho=>
  rw[ho]
  exact GoodN.of1 h (ZDq h hk (hρ x)) fun _ hh=>hh
 ·next t a x ho=>
  rw[ho]
  obtain⟨σ',w',hK,hrun,hs,hf⟩:=ZFy (P:=P) h hk (hρ a) (hρ x)
  exact⟨.skip,undef,_,σ',m,w',by simp[hrun],.inr ⟨rfl,rfl⟩,hK,hs,.lit _,hf⟩
 ·next x ho=>
  rw[ho]
  obtain⟨b,o',hu,_⟩:=ZB4 h hk.1 (hρ x) 0
  have:=GoodN.val h hk.2 (hρ x)
  simpa[hu]using this
 ·next op t x y yt ho=>
  rw[ho]
  exact(ZIZ h hk (hρ x) (hρ y)).toN fun r s hh=>by obtain⟨h1,rfl⟩:=hh;exact h1
 ·next op t x ho=>
  rw[ho]
  exact(ZJ1 h hk (hρ x)).toN fun r s hh=>by obtain⟨h1,rfl⟩:=hh;exact h1
 ·next s d x ho=>
  rw[ho]
  exact(ZG3 h hk (hρ x)).toN fun r s hh=>by obtain⟨h1,rfl⟩:=hh;exact h1
 ·next fn first cap ho=>
  rw[ho]
  obtain⟨a1,a2⟩:=ZEe hρ first
  obtain⟨b1,b2⟩:=ZEe hρ cap
  have:=GoodN.val h hk (Conc.fn fn _ _ _ _ a1 b1 a2 b2)
  simpa[Instr.makeFunc]using this
 ·next t l c ho=>
  rw[ho]
  exact(ZC7 h hk (hρ l) (hρ c)).toN fun _ _ hh=>hh
 ·next t x lo hi mx ho=>
  rw[ho]
  refine(ZFz h hk (hρ x) (by cases lo<;>simp) ?_ (by cases hi<;>simp) ?_ (by cases mx<;>simp)).toN fun _ _ hh=>hh
  ·intro a b ha hb
   cases lo with
   |none=>cases ha
   |some o=>simp at ha hb;subst ha hb;exact hρ o
  ·intro a b ha hb
   cases hi with
   |none=>cases ha
   |some o=>simp at ha hb;subst ha hb;exact hρ o
 ·next t x f ho=>
  rw[ho]
  exact GoodN.of1 h (ZC9 h hk (hρ x)) fun _ hh=>hh
 ·next t x i ho=>
  rw[ho]
  exact GoodN.of1 h (ZC8 h hk (hρ x) (hρ i)) fun _ hh=>hh
 ·next t x i ho=>
  rw[ho]
  exact(ZF1 h hk (hρ x) (hρ i)).toN fun r s hh=>by obtain⟨h1,rfl⟩:=hh;exact h1
 ·next t x f ho=>
  rw[ho]
  exact(ZF2 h hk (hρ x)).toN fun r s hh=>by obtain⟨h1,rfl⟩:=hh;exact h1
 ·next x i ho=>
  rw[ho]
  split at hk
  ·next vs hv=>
   have e:=hρ x;rw[hv]at e
   generalize hu:ρc x=u at e
   cases e with
   |tup vs us hlen hx=>
    have hi:i<us.size:=by rw[hlen];exact hk.1
    have hc:=hx i (vs.getD i .junk) (by simp[List.getD,hk.1])
    have:=GoodN.val h hk.2 hc
    have e2:us.getD i undef=us[i]:=by simp[zG,hi]
    rw[e2]at this
    simpa[Instr.extract,hu,hi]using this
  ·exact hk.elim
 ·next b args ts ho=>
  rw[ho]
  simp only[resolve,invoke,Sem.run_bind,Sem.run_pure,Result.andThen_ok]
  exact ZD6 h hρ hk o.type _
 ·exact hk.elim
end
end Go.Vl
namespace Go.Vl
open Go
abbrev Frm :=List (Nat×AV)
def lk :Frm->Nat->AV
 | [],_=>.junk
 |(i,v)::r,j=>if i=j then v else lk r j
structure ASt where
 fr:Frm
 σ:ZE
def ev (fr:Frm):Operand->AV
 | .tmp t=>lk fr t
 | .const v=>.lit v
 | .global g=>.lit (.pointer (some ⟨g,0,none⟩))
 | .func f=>.fn (.func f) [] []
def ZAL (N:Nat)(d:Option Nat)(r:AV)(fr:Frm)(σ:ZE)(K:ASt->Prop):Prop:=
 match d with
 |some d=>d<N/\K ⟨(d,r)::fr,σ⟩
 |none=>K ⟨fr,σ⟩
def FrSim (B:Nat)(m:Map)(w:World)(N:Nat)(fr:Frm)(tmps:Array Value):Prop:=
 tmps.size=N/\∀i,Conc B (Av m) w m (lk fr i) (tmps.getD i undef)
structure ASim (B nb N:Nat)(m0:Map)(w0:World)(st:ASt)(m:Map)(a:Act)(w:World):Prop where
 sim:Sim B m st.σ w
 fr:FrSim B m w N st.fr a.tmps
 df:a.defers=[]
 step:Fr m0 w0 m w
 base:m0.n=nb
 ok:ZM9 m0 w0
variable {w:World}{fr:Frm}
theorem FrSim.mono {B N:Nat}{m m':Map}{w':World}{tmps:Array Value}(h:FrSim B m w N fr tmps)(hf:Fr m w m' w'):FrSim B m' w' N fr tmps:=
 ⟨h.1,fun i=>(h.2 i).mono hf⟩
theorem FrSim.put {B N:Nat}{m:Map}{a:Act}{d:Nat}{r:AV}{u:Value}(h:FrSim B m w N fr a.tmps)(hd:d<N)(hc:Conc B (Av m) w m r u):
  FrSim B m w N ((d,r)::fr) (a.put (some d) u).tmps:=by
 refine⟨by simp[Act.put,h.1],fun i=> ?_⟩
 simp only[lk,Act.put]
 by_cases e:d=i
 ·subst e
  rw[iP rfl]
  have hd':d<a.tmps.size:=by rw[h.1];exact hd
  simpa[zG,hd']using hc
 ·rw[iN e]
  have:(a.tmps.setIfInBounds d u).getD i undef=a.tmps.getD i undef:=by
   simp[zA,e]
  rw[this];exact h.2 i
theorem RelO.of {B N:Nat}{m:Map}{a:Act}(h:FrSim B m w N fr a.tmps):RelO B m w (ev fr) a.eval:=by
 intro x
 cases x with
 |tmp t=>exact h.2 t
 |const v=>exact .lit v
 |global g=>exact .lit _
 |func f=>exact .fn (.func f) [] [] #[] #[] rfl rfl (fun i x hi=>by simp at hi) (fun i x hi=>by simp at hi)
def Ent (P:Program)(f:FuncId):Prop:=∃fn,P.funcs[f]? =some fn/\(fn.name== "runtime.NumGoroutine")=false/\fn.body.isNone=false
def RelL (B:Nat)(W:Nat->Prop)(m:Map)(w:World)(xs:List AV)(vs:Array Value):Prop:=
 vs.size=xs.length/\∀(i:Nat) (x:AV),xs[i]? =some x->Conc B W w m x (vs.getD i undef)
def ACall (P:Program)(B:Nat)(f:FuncId)(args:List AV)(σ:ZE)(K:AV->ZE->Prop):Prop:=
 Ent P f/\∀m w vs,Sim B m σ w->RelL B (Av m) m w args vs->
  Calls P f vs w fun e w'=>∃u r σ' m',e=.returned u/\K r σ'/\Sim B m' σ' w'/\Conc B (Av m') w' m' r u/\Fr m w m' w'
def ZDt (P:Program)(B:Nat)(f:AV)(args:List AV)(σ:ZE)(K:AV->ZE->Prop):Prop:=
 match f with
 | .fn (.func i) first cap=>ACall P B i (first++args++cap) σ K
 |_=>False
def aop (P:Program)(B N:Nat)(o:Oper)(st:ASt)(K:ASt->Prop):Prop:=
 match o.op with
 | .call {callee:=.value f,args,.. }=>ZDt P B (ev st.fr f) (args.toList.map (ev st.fr)) st.σ fun r σ'=>ZAL N o.dst r st.fr σ' K
 |op=>aef P B op (ev st.fr) st.σ fun r σ'=>ZAL N o.dst r st.fr σ' K
def yb :Value->Option Bool
 | .bool b=>some b
 |_=>none
def ZAX (ops:Array Oper)(fr:Frm)(g:Option (Nat×Bool))(yes no:Prop):Prop:=
 match g with
 |none=>yes
 |some (j,want)=>match(ops[j]?).bind (·.dst)with
  |some d=>match lk fr d with
   | .lit v=>if yb v=some want then yes else no
   |_=>False
  |none=>False
def ZHg (P:Program)(B N:Nat)(ops:Array Oper):List Oper->ASt->(ASt->Prop)->Prop
 | [],st,K=>K st
 |o::rest,st,K=>ZAX ops st.fr o.guard (aop P B N o st fun st'=>ZHg P B N ops rest st' K)
   (ZAL N o.dst (.lit undef) st.fr st.σ fun st'=>ZHg P B N ops rest st' K)
section
variable {P : Program} {B nb N : Nat} {m0 : Map} {w0 : World}
variable {st:ASt}{w:World}{K:ASt->Prop}
theorem ASim.next {m:Map}{a:Act}(h:ASim B nb N m0 w0 st m a w){d:Option Nat}{r:AV}{u:Value}{σ':ZE}{m':Map}{w':World}(hk:ZAL N d r st.fr σ' K)(hs:Sim B m' σ' w')(hc:Conc B (Av m') w' m' r u)(hf:Fr m w m' w'):
  ∃st',K st'/\ASim B nb N m0 w0 st' m' (a.put d u) w':=by
 cases d with
 |none=>exact⟨_,hk,hs,h.fr.mono hf,h.df,h.step.trans hf h.ok,h.base,h.ok⟩
 |some d=>exact⟨_,hk.2,hs,(h.fr.mono hf).put hk.1 hc,h.df,h.step.trans hf h.ok,h.base,h.ok⟩
theorem ZBd {o:Oper}(hk:aop P B N o st K){m:Map}{a:Act}(h:ASim B nb N m0 w0 st m a w){next:Act->World->Prop}{Q:Exit->Act->World->Prop}(hn:∀st' m' a' w',K st'->ASim B nb N m0 w0 st' m' a' w'->next a' w'):o.wp P a w next Q:=by
 have viaAef:aef P B o.op (ev st.fr) st.σ (fun r σ'=>ZAL N o.dst r st.fr σ' K)->o.wp P a w next Q:=by
  intro hk
  obtain⟨nx,u,r,σ',m',w',hR,hnx,hK,hs,hc,hf⟩:=ZFw h.sim (RelO.of h.fr) hk
  obtain⟨st',hst,hsim⟩:=h.next hK hs hc hf
  unfold Oper.wp
  rw[hR]
  rcases hnx with rfl|⟨rfl,rfl⟩
  ·exact hn _ _ _ _ hst hsim
  ·exact hn _ _ _ _ hst hsim
 unfold aop at hk
 split at hk
 ·next f args ts ho=>
  unfold ZDt at hk
  split at hk
  ·next i first cap hf=>
   obtain⟨⟨fn,e1,e2,e3⟩,hcall⟩:=hk
   have hrel:=RelO.of h.fr
   have hfc:=hrel f
   rw[hf]at hfc
   generalize hu:a.eval f=u at hfc
   cases hfc with
   |fn f xs ys us vs l1 l2 c1 c2=>
    obtain⟨a1,a2⟩:=ZEe hrel args
    have key:RelL B (Av m) m w (first++args.toList.map (ev st.fr)++cap) (us++args.map a.eval++vs):=by
     refine⟨by simp[l1,l2],fun j x hj=> ?_⟩
     rw[zA]
     by_cases j1:j<first.length
     ·rw[zI,zJ j1]at hj
      rw[zD,zE (by omega),←zA]
      exact c1 j x hj
     ·by_cases j2:j<first.length+args.size
      ·rw[zI,zH (by omega),zJ (by simp;omega)]at hj
       rw[zD,zB (by omega),zE (by simp;omega),←zA,l1]
       exact a2 _ x hj
      ·rw[zI,zH (by omega),zH (by simp;omega)]at hj
       rw[zD,zB (by omega),zB (by simp;omega),←zA,l1]
       have:(args.map a.eval).size=(args.toList.map (ev st.fr)).length:=by simp
       rw[this]
       exact c2 _ x hj
    have:=hcall m w _ h.sim key
    unfold Oper.wp
    have hrun:(execOp a.eval o).run P w=.ok (.enter i (us++args.map a.eval++vs)) w:=by
     unfold execOp
     rw[ho]
     have e2':¬fn.name= "runtime.NumGoroutine" :=by simpa using e2
     have e3':¬fn.body=none:=by intro h0;rw[h0]at e3;simp at e3
     simp[resolve,hu,Deferred.ofValue,invoke,callFunc,e1,e2',e3']
    rw[hrun,Oper.upon_enter]
    refine this.mono ?_
    rintro e w' ⟨u',r,σ',m',rfl,hK,hs,hc,hf'⟩
    obtain⟨st',hst,hsim⟩:=h.next hK hs hc hf'
    exact hn _ _ _ _ hst hsim
  ·exact hk.elim
 ·exact viaAef hk
theorem ZBj {ops:Array Oper}{tmps:Array Value}{j d:Nat}{v:Value}(h1:(ops[j]?).bind (·.dst)=some d)(h2:tmps.getD d undef=v):yielded ops tmps j=yb v:=by
 unfold yielded
 rw[h1,Option.bind_some]
 cases h:tmps[d]? with
 |none=>simp[zA,h]at h2;subst h2;rfl
 |some u=>simp[zA,h]at h2;subst h2;cases u<;>rfl
theorem ZEU {ops:Array Oper}{K:ASt->Prop}{Q:Exit->Act->World->Prop}
  (hn:∀st' m' a' w',K st'->ASim B nb N m0 w0 st' m' a' w'->Q .normal a' w'):
  ∀(k i:Nat),i+k=ops.size->∀(st:ASt) (m:Map) (a:Act) (w:World),ZHg P B N ops (ops.toList.drop i) st K->ASim B nb N m0 w0 st m a w->
   wpOps P ops Q (zK i k) a w
 |0,i,hik,st,m,a,w,hk,h=>by
  rw[List.drop_eq_nil_of_le (by rw[zF];omega)]at hk
  simp only[List.range'_zero,wpOps]
  exact hn _ _ _ _ hk h
 |k+1,i,hik,st,m,a,w,hk,h=>by
  have hi:i<ops.toList.length:=by rw[zF];omega
  rw[List.drop_eq_getElem_cons hi]at hk
  have hi':ops[i]? =some ops.toList[i]:=by rw[←zC,List.getElem?_eq_getElem hi]
  generalize ops.toList[i]=o at hk hi'
  simp only[List.range'_succ,wpOps,hi']
  have ih:=ZEU (ops:=ops) hn k (i+1) (by omega)
  have yes:aop P B N o st (fun st'=>ZHg P B N ops (ops.toList.drop (i+1)) st' K)->o.wp P a w (wpOps P ops Q (zK (i+1) k)) Q:=by
   intro hk
   exact ZBd hk h fun st' m' a' w' hk' h'=>ih st' m' a' w' hk' h'
  have no:ZAL N o.dst (.lit undef) st.fr st.σ (fun st'=>ZHg P B N ops (ops.toList.drop (i+1)) st' K)->
    wpOps P ops Q (zK (i+1) k) (a.put o.dst undef) w:=by
   intro hk
   obtain⟨st',hst,hsim⟩:=h.next hk h.sim (.lit undef) (Fr.refl m w)
   exact ih st' m _ w hst hsim
  simp only[ZHg,ZAX]at hk
  split at hk
  ·next hg=>
   rw[iP (by simp[Region.wanted,hg])]
   exact .inl (yes hk)
  ·next j want hg=>
   split at hk
   ·next d hd=>
    split at hk
    ·next v hb=>
     have hv:=h.fr.2 d
     rw[hb]at hv
     have hv:=Conc.lit_inv hv
     have hy:=ZBj hd hv
     split at hk
     ·next hbw=>
      rw[iP (by simp[Region.wanted,hg,hy,hbw])]
      exact .inl (yes hk)
     ·next hbw=>
      rw[iN (by simp[Region.wanted,hg,hy,hbw])]
      exact no hk
    ·exact hk.elim
   ·exact hk.elim
def Gh (B nb N:Nat)(st st':ASt):Prop:=
 ∀m0 w0 m a w,ASim B nb N m0 w0 st m a w->∃m',ASim B nb N m0 w0 st' m' a w
def ADraw (P:Program)(B nb N:Nat)(ops:Array Oper)(st:ASt)(K:ASt->Prop):Prop:=
 P.follows .mixedOrders=true/\∀m0 w0 m a w,ASim B nb N m0 w0 st m a w->∀Q:Exit->Act->World->Prop,(∀st' m' a' w',K st'->ASim B nb N m0 w0 st' m' a' w'->Q .normal a' w')->
  wpAny P .any ops Q ops.size (Array.replicate ops.size false) a w
def ALoop (P:Program)(B nb N:Nat)(c:Code)(st:ASt)(Q:Exit->ASt->Prop):Prop:=
 ∀m0 w0 m a w,ASim B nb N m0 w0 st m a w->(Code.loop c).wp P (fun e a' w'=>∃st' m',Q e st'/\ASim B nb N m0 w0 st' m' a' w') a w
def awp (P:Program)(B nb N:Nat):Code->ASt->(Exit->ASt->Prop)->Prop
 | .skip,st,Q=>Q .normal st
 | .region _ ops draw,st,Q=>if draw=true then ADraw P B nb N ops st (Q .normal)else ZHg P B N ops ops.toList st (Q .normal)
 | .seq a b,st,Q=>awp P B nb N a st fun e st'=>match e with
  | .normal=>awp P B nb N b st' Q
  |e=>Q e st'
 | .cond c a b,st,Q=>match ev st.fr c with
  | .lit (.bool v)=>if v=true then awp P B nb N a st Q else awp P B nb N b st Q
  |_=>False
 | .block id c,st,Q=>awp P B nb N c st fun e st'=>match e with
  | .exit id'=>if id'=id then Q .normal st' else Q (.exit id') st'
  |e=>Q e st'
 | .loop c,st,Q=>ALoop P B nb N c st Q
 | .exit id,st,Q=>Q (.exit id) st
 | .ret,st,Q=>Q .ret st
 |_,_,_=>False
theorem Fr.drew (m:Map)(w:World):Fr m w m w.drew:=
 ⟨zL _,fun _ _ _=>rfl,fun _ ccs _ _ _ h=>⟨ccs,h,rfl⟩,fun _ h=>.inl h,fun _ _=>.inl rfl,zL _,rfl,rfl,rfl,rfl⟩
theorem Sim.drew {σ:ZE}{m:Map}(h:Sim B m σ w):Sim B m σ w.drew:=by
 refine h.upd (Fr.drew m w) σ.length h.n (fun l _=>⟨rfl,rfl⟩) (fun _ _ _ _=>rfl) ?_ ?_
 ·rw[List.getElem?_eq_none (zL _),h.dead_of_ge (zL _)];rfl
 ·intro l b _ _ hb;rw[h.dead_of_ge (zL _)]at hb;simp[MS.has]at hb
theorem ZY :∀(c:Code) (st:ASt) (Q:Exit->ASt->Prop),awp P B nb N c st Q->∀(m0:Map) (w0:World) (m:Map) (a:Act) (w:World),ASim B nb N m0 w0 st m a w->
  c.wp P (fun e a' w'=>∃st' m',Q e st'/\ASim B nb N m0 w0 st' m' a' w') a w
 | .skip,st,Q,hk,m0,w0,m,a,w,h=>wp_skip ⟨st,m,hk,h⟩
 | .region id ops draw,st,Q,hk,m0,w0,m,a,w,h=>by
  simp only[awp]at hk
  cases draw with
  |true=>
   simp only[if_true]at hk
   have hf:=Fr.drew m w
   exact wp_region_any hk.1 (hk.2 m0 w0 m a w.drew ⟨h.sim.drew,h.fr.mono hf,h.df,h.step.trans hf h.ok,h.base,h.ok⟩ _ (fun st' m' a' w' hk' hs'=>⟨st',m',hk',hs'⟩))
  |false=>
   simp only[Bool.false_eq_true,if_false]at hk
   refine wp_region ?_
   rw[List.range_eq_range']
   exact ZEU (fun st' m' a' w' hk' h'=>⟨st',m',hk',h'⟩) ops.size 0 (by simp) st m a w (by simpa using hk) h
 | .seq x y,st,Q,hk,m0,w0,m,a,w,h=>by
  refine wp_seq (wp_mono (ZY x st _ hk m0 w0 m a w h) ?_)
  rintro e a' w' ⟨st',m',hq,hs⟩
  cases e with
  |normal=>exact ZY y st' Q hq m0 w0 m' a' w' hs
  |_=>exact⟨st',m',hq,hs⟩
 | .cond c x y,st,Q,hk,m0,w0,m,a,w,h=>by
  simp only[awp]at hk
  split at hk
  ·next v hv=>
   have hc:=RelO.of h.fr c
   rw[hv]at hc
   have hc:=Conc.lit_inv hc
   refine wp_cond hc ?_
   cases v with
   |true=>simp only[if_true]at hk ⊢;exact ZY x st Q hk m0 w0 m a w h
   |false=>simp only[Bool.false_eq_true,if_false]at hk ⊢;exact ZY y st Q hk m0 w0 m a w h
  ·exact hk.elim
 | .block id c,st,Q,hk,m0,w0,m,a,w,h=>by
  refine wp_block (wp_mono (ZY c st _ hk m0 w0 m a w h) ?_)
  rintro e a' w' ⟨st',m',hq,hs⟩
  cases e with
  |exit id'=>
   simp only[Exit.inBlock]
   simp only at hq
   split at hq
   ·next hid=>rw[iP hid];exact⟨st',m',hq,hs⟩
   ·next hid=>rw[iN hid];exact⟨st',m',hq,hs⟩
  |_=>exact⟨st',m',hq,hs⟩
 | .loop c,st,Q,hk,m0,w0,m,a,w,h=>hk m0 w0 m a w h
 | .exit id,st,Q,hk,m0,w0,m,a,w,h=>wp_exit ⟨st,m,hk,h⟩
 | .ret,st,Q,hk,m0,w0,m,a,w,h=>wp_ret ⟨st,m,hk,h⟩
 | .rangeFunc ..,_,_,hk,_,_,_,_,_,_=>hk.elim
 | .scope ..,_,_,hk,_,_,_,_,_,_=>hk.elim
 | .label ..,_,_,hk,_,_,_,_,_,_=>hk.elim
 | .goto ..,_,_,hk,_,_,_,_,_,_=>hk.elim
 | .refuse ..,_,_,hk,_,_,_,_,_,_=>hk.elim
theorem ALoop.intro {c:Code}{Q:Exit->ASt->Prop}(I:Nat->ASt->Prop)(n:Nat)(st0:ASt)(hg:Gh B nb N st st0)(hI:I n st0)(hround:∀n st1,I n st1->awp P B nb N c st1 fun e st'=>match e with
   | .normal=>∃n' st2,n'<n/\Gh B nb N st' st2/\I n' st2
   |e=>Q e st'):ALoop P B nb N c st Q:=by
 intro m0 w0 m a w h
 obtain⟨m1,h1⟩:=hg m0 w0 m a w h
 refine wp_loop_ghost (fun n a w=>∃st m,I n st/\ASim B nb N m0 w0 st m a w) n ⟨st0,m1,hI,h1⟩ ?_
 rintro n a w ⟨st1,m2,hI,h2⟩
 refine wp_mono (ZY c st1 _ (hround n st1 hI) m0 w0 m2 a w h2) ?_
 rintro e a' w' ⟨st',m',hq,hs⟩
 cases e with
 |normal=>
  obtain⟨n',st2,hlt,hg',hI'⟩:=hq
  obtain⟨m3,h3⟩:=hg' m0 w0 m' a' w' hs
  exact⟨n',hlt,st2,m3,hI',h3⟩
 |_=>exact⟨st',m',hq,hs⟩
end
end Go.Vl
