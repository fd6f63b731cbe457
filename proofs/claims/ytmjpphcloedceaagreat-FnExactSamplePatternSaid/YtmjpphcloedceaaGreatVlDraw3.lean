/- Part. -/
import Derived.Test.YtmjpphcloedceaaGreatVlMap2
set_option linter.all false
open List renaming reverse_cons->zA,mem_cons_of_mem->zB,mem_cons_self->zC,mem_cons->zD,length_reverse->zE,tail_drop->zF,toArray->zG
namespace Go.Vl
open Go Go.RowKit
def ZB6 :List ZE->List AV->Prop
 |_,[]=>True
 |ss,p::r=>liveOn ss p/\ZB6 ss r
where liveOn:List ZE->AV->Prop
 | [],_=>True
 |σ::r,p=>ZB5 σ p/\liveOn r p
theorem ZEH {σ:ZE}:∀{ss:List ZE} {p:AV},ZB6.liveOn ss p->σ∈ss->ZB5 σ p
 |a::r,p,h,hm=>by
  rcases zD.1 hm with rfl|hm
  ·exact h.1
  ·exact ZEH h.2 hm
theorem ZDU {σ:ZE}{ss:List ZE}:∀{ps:List AV} {p:AV},ZB6 ss ps->p∈ps->σ∈ss->ZB5 σ p
 |a::r,p,h,hm,hs=>by
  rcases zD.1 hm with rfl|hm
  ·exact ZEH h.1 hs
  ·exact ZDU h.2 hm hs
def ZIe (fs:List FuncId)(P:Program)(B:Nat)(op:Op)(fr:Frm)(σ:ZE)(K:AV->ZE->Prop):Prop:=
 if ZO fs op=true then(match op with
  | .call {callee:=.value f,args,.. }=>ZBE P B (ev fr f) (args.toList.map (ev fr)) σ K
  |op=>aef P B op (ev fr) σ K)
 else ZCY P B op fr σ fun r=>K r σ
def ZAp (x:Nat)(op:Op)(fr:Frm)(ps:List AV):List AV:=
 if x=1 then ps else match ZCX op with
  |some y=>ev fr y::ps
  |none=>ps
def ZLa :Op->Bool
 | .load _ _| .indexAddr _ _ _=>true
 |_=>false
def ZE1 (fs:List FuncId)(x:Nat)(op:Op)(fr:Frm):Prop:=
 if x=1∨ZO fs op=true then True else if x=2 then ZLa op=true else match op with
  | .call {callee:=.value _,.. }=>True
  |op=>match ZCX op with
   |some _=>True
   |none=>ZB0 op=true/\ZEf (op.operands.toList.map (ev fr))
abbrev Lds :=List (TypeId×AV×Option AV×AV×Nat×Nat)
def ZMO (P:Program)(rs:List ZE)(ty:TypeId)(p:AV)(oi:Option AV)(V:AV):Nat->Nat->Prop
 |_,0=>True
 |s,k+1=>ZG2 P ty (rs.getD s []) p oi (hold (fun r=>r=V) .mk)/\ZMO P rs ty p oi V (s+1) k
def ZGZ (P:Program)(rs:List ZE):Lds->Prop
 | []=>True
 |(ty,p,oi,V,lo,hi)::r=>ZMO P rs ty p oi V lo (hi+1-lo)/\ZGZ P rs r
theorem ZHU {P:Program}{rs:List ZE}{ty:TypeId}{p V:AV}{oi:Option AV}:∀(k s0 s:Nat),ZMO P rs ty p oi V s0 k->s0<=s->s<s0+k->ZG2 P ty (rs.getD s []) p oi fun r=>r=V
 |0,s0,s,_,h1,h2=>by omega
 |k+1,s0,s,h,h1,h2=>by
  by_cases e0:s0=s
  ·subst e0;exact h.1
  ·exact ZHU k (s0+1) s h.2 (by omega) (by omega)
theorem ZFS {P:Program}{rs:List ZE}{ty:TypeId}{p V:AV}{oi:Option AV}{lo hi:Nat}:∀{ls:Lds},ZGZ P rs ls->(ty,p,oi,V,lo,hi)∈ls->∀s,lo<=s->s<=hi->ZG2 P ty (rs.getD s []) p oi fun r=>r=V
 |(ty',p',oi',V',lo',hi')::r,h,hm,s,h1,h2=>by
  rcases zD.1 hm with e|hm
  ·cases e;exact ZHU _ _ s h.1 h1 (by omega)
  ·exact ZFS h.2 hm s h1 h2
def ZDW (x:Nat)(op:Op)(fr:Frm)(V:AV)(t:Nat×Nat)(ls:Lds):Lds:=
 if x=2 then match op with
  | .load ty y=>(ty,ev fr y,none,V,t.1,t.2)::ls
  | .indexAddr ty y i=>(ty,ev fr y,some (ev fr i),V,t.1,t.2)::ls
  |_=>ls
 else ls
def aL (fs:List FuncId)(P:Program)(B N:Nat)(ops:Array Oper):List Oper->List Nat->List (Nat×Nat)->Frm->List ZE->List AV->Lds->(Frm->ZE->Prop)->Prop
 | [],_,_,fr,ss,ps,ls,K=>chk (ZB6 ss ps) (hold (chk (ZGZ P ss.reverse ls) (hold (K fr (ss.headD [])) .mk)) .mk)
 |o::rest,xs,ts,fr,ss,ps,ls,K=>ZAX ops fr o.guard
   (chk (ZE1 fs (xs.headD 0) o.op fr) (hold (ZIe fs P B o.op fr (ss.headD []) (hold (fun r σ'=>ZBs N o.dst (hold (aL fs P B N ops rest xs.tail ts.tail (Zl o.dst r fr) (if ZO fs o.op=true then σ'::ss else ss) (ZAp (xs.headD 0) o.op fr ps) (ZDW (xs.headD 0) o.op fr r (ts.headD (0,0)) ls) K) .mk)) .mk)) .mk))
   (ZBs N o.dst (hold (aL fs P B N ops rest xs.tail ts.tail (Zl o.dst (.lit undef) fr) (if ZO fs o.op=true then ss.headD []::ss else ss) ps ls K) .mk))
section
variable {P : Program} {B nb N : Nat} {fs : List FuncId}
def FWhy (e:Info)(x:Nat)(ps:List AV)(t:Nat×Nat)(ls:Lds):Prop:=
 x=1∨(ZB0 e.o.op=true/\ZEf (e.o.op.operands.toList.map (ev e.fr)))∨(∃y,ZCX e.o.op=some y/\ev e.fr y∈ps)∨
  (∃ty y oi,ZHN e.o.op=some (ty,y,oi)/\(ty,ev e.fr y,oi.map (ev e.fr),e.V,t.1,t.2)∈ls)
variable {ps ps':List AV}{ls:Lds}
theorem FWhy.mono {e:Info}{x:Nat}{t:Nat×Nat}{ls':Lds}(hps:∀p,p∈ps->p∈ps')(hls:∀p,p∈ls->p∈ls')(h:FWhy e x ps t ls):FWhy e x ps' t ls':=by
 rcases h with q|q|⟨y,q1,q2⟩|⟨ty,y,oi,q1,q2⟩
 ·exact .inl q
 ·exact .inr (.inl q)
 ·exact .inr (.inr (.inl ⟨y,q1,hps _ q2⟩))
 ·exact .inr (.inr (.inr ⟨ty,y,oi,q1,hls _ q2⟩))
def FP (fs:List FuncId)(infos:List Info)(xs:List Nat)(tab:List (Nat×Nat))(ps:List AV)(ls:Lds):Prop:=∀(i:Nat) (e:Info) (x:Nat),infos[i]? =some e->xs[i]? =some x->e.want=true->ZO fs e.o.op=false->ZS fs e.o.op=false->
 FWhy e x ps (tab.getD i (0,0)) ls
variable {xs:List Nat}
theorem FP.snoc {infos:List Info}{tab:List (Nat×Nat)}{ls':Lds}(h:FP fs infos xs tab ps ls)(hps:∀p,p∈ps->p∈ps')(hls:∀p,p∈ls->p∈ls'){e:Info}(he:∀x,xs[infos.length]? =some x->e.want=true->ZO fs e.o.op=false->ZS fs e.o.op=false->
  FWhy e x ps' (tab.getD infos.length (0,0)) ls'):FP fs (infos++[e]) xs tab ps' ls':=by
 intro i f x hi hx hw h1 h2
 by_cases hlt:i<infos.length
 ·rw[List.getElem?_append_left hlt]at hi
  exact(h i f x hi hx hw h1 h2).mono hps hls
 ·rw[List.getElem?_append_right (by omega)]at hi
  have h0:i-infos.length=0:=by
   rcases Nat.eq_zero_or_pos (i-infos.length)with h0|h0
   ·exact h0
   ·rw[List.getElem?_eq_none (by simp;omega)]at hi;cases hi
  rw[h0]at hi
  simp at hi
  subst hi
  have:i=infos.length:=by omega
  subst this
  exact he x hx hw h1 h2
theorem ZBN {ops:Array Oper}{XS:List Nat}{TS:List (Nat×Nat)}{K:ASt->Prop}:∀(rest:List Oper) (xs:List Nat) (ts:List (Nat×Nat)) (fr:Frm) (acc:List Info) (ss:List ZE) (ps:List AV) (ls:Lds),ss≠[]->xs=XS.drop acc.length->ts=TS.drop acc.length->FP fs acc.reverse XS TS ps ls->
  aL fs P B N ops rest xs ts fr ss ps ls (fun fr' σ'=>K ⟨fr',σ'⟩)->aD fs P B N ops rest fr acc ss fun acc ss fr'=>FOK fs P acc.reverse (XS.map (· ==1)) TS ss/\K ⟨fr',ss.headD []⟩
 | [],xs,ts,fr,acc,ss,ps,ls,hss,hxs,hts,hfp,h=>by
  unfold aL at h
  obtain⟨hlv,hld,hK⟩:=h
  refine⟨fun i e x hi hx hw h1 h2=> ?_,hK⟩
  rw[List.getElem?_map,Option.map_eq_some_iff]at hx
  obtain⟨x',hx,rfl⟩:=hx
  rcases hfp i e x' hi hx hw h1 h2 with q|q|⟨y,q1,q2⟩|⟨ty,y,oi,q1,q2⟩
  ·exact .inl (.inl (by simpa using q))
  ·exact .inl (.inr (.inl q))
  ·exact .inl (.inr (.inr ⟨y,q1,fun σ hσ=>ZDU hlv q2 hσ⟩))
  ·exact .inr ⟨ty,y,oi,q1,fun s hs1 hs2=>ZFS hld q2 s hs1 hs2⟩
 |o::rest,xs,ts,fr,acc,ss,ps,ls,hss,hxs,hts,hfp,h=>by
  have hhead:∀x,XS[acc.reverse.length]? =some x->xs.headD 0=x:=by
   intro x hx
   rw[hxs]
   rw[zE]at hx
   have:=(List.getElem?_eq_some_iff.1 hx)
   rw[List.drop_eq_getElem_cons this.1,this.2];rfl
  have htail:∀e:Info,xs.tail=XS.drop (e::acc).length:=by
   intro e;rw[hxs,zF];rfl
  have htt:∀e:Info,ts.tail=TS.drop (e::acc).length:=by
   intro e;rw[hts,zF];rfl
  have hth:TS.getD acc.reverse.length (0,0)=ts.headD (0,0):=by
   rw[hts,zE,List.getD_eq_getElem?_getD,List.headD_eq_head?_getD,List.head?_drop]
  have fpF:∀(V:AV) (eff:Bool) (r:Nat),FP fs (acc.reverse++[⟨o,false,eff,fr,V,r⟩]) XS TS ps ls:=fun V eff r=>hfp.snoc (fun _ h=>h) (fun _ h=>h) fun x _ hw=>by cases hw
  unfold aL at h
  unfold aD
  have hno:ZBs N o.dst (hold (aL fs P B N ops rest xs.tail ts.tail (Zl o.dst (.lit undef) fr) (if ZO fs o.op=true then ss.headD []::ss else ss) ps ls (fun fr' σ'=>K ⟨fr',σ'⟩)) .mk)->
    dOk N o.dst/\if ZO fs o.op=true then aD fs P B N ops rest (Zl o.dst (.lit undef) fr) (⟨o,false,true,fr,.lit undef,ss.length-1⟩::acc) (ss.headD []::ss) fun acc ss fr'=>FOK fs P acc.reverse (XS.map (· ==1)) TS ss/\K ⟨fr',ss.headD []⟩
     else aD fs P B N ops rest (Zl o.dst (.lit undef) fr) (⟨o,false,false,fr,.lit undef,0⟩::acc) ss fun acc ss fr'=>FOK fs P acc.reverse (XS.map (· ==1)) TS ss/\K ⟨fr',ss.headD []⟩:=by
   intro h
   refine⟨h.1,?_⟩
   have h2:=h.2
   split
   ·next he=>
    rw[iP he]at h2
    exact ZBN rest _ _ _ _ (ss.headD []::ss) ps ls (by simp) (htail _) (htt _) (by rw[zA];exact fpF _ _ _) h2
   ·next he=>
    rw[iN he]at h2
    exact ZBN rest _ _ _ _ ss ps ls hss (htail _) (htt _) (by rw[zA];exact fpF _ _ _) h2
  have hyes:chk (ZE1 fs (xs.headD 0) o.op fr) (hold (ZIe fs P B o.op fr (ss.headD []) (hold (fun r σ'=>ZBs N o.dst (hold (aL fs P B N ops rest xs.tail ts.tail (Zl o.dst r fr) (if ZO fs o.op=true then σ'::ss else ss) (ZAp (xs.headD 0) o.op fr ps) (ZDW (xs.headD 0) o.op fr r (ts.headD (0,0)) ls) (fun fr' σ'=>K ⟨fr',σ'⟩)) .mk)) .mk)) .mk)->
    (match o.op with
    | .call {callee:=.value f,args,.. }=>if ZO fs o.op=true then ZBE P B (ev fr f) (args.toList.map (ev fr)) (ss.headD []) fun r σ'=>dOk N o.dst/\aD fs P B N ops rest (Zl o.dst r fr) (⟨o,true,true,fr,r,ss.length-1⟩::acc) (σ'::ss) fun acc ss fr'=>FOK fs P acc.reverse (XS.map (· ==1)) TS ss/\K ⟨fr',ss.headD []⟩
      else PCall P B (ev fr f) (args.toList.map (ev fr)) fun r=>dOk N o.dst/\aD fs P B N ops rest (Zl o.dst r fr) (⟨o,true,false,fr,r,0⟩::acc) ss fun acc ss fr'=>FOK fs P acc.reverse (XS.map (· ==1)) TS ss/\K ⟨fr',ss.headD []⟩
    |op=>aef P B op (ev fr) (ss.headD []) fun r σ'=>dOk N o.dst/\
      if ZO fs o.op=true then aD fs P B N ops rest (Zl o.dst r fr) (⟨o,true,true,fr,r,ss.length-1⟩::acc) (σ'::ss) fun acc ss fr'=>FOK fs P acc.reverse (XS.map (· ==1)) TS ss/\K ⟨fr',ss.headD []⟩
      else σ'=ss.headD []/\aD fs P B N ops rest (Zl o.dst r fr) (⟨o,true,false,fr,r,ss.length-1⟩::acc) ss fun acc ss fr'=>FOK fs P acc.reverse (XS.map (· ==1)) TS ss/\K ⟨fr',ss.headD []⟩):=by
   rintro⟨hc,h⟩
   simp only[hold]at h
   have hps:∀p,p∈ps->p∈ZAp (xs.headD 0) o.op fr ps:=by
    intro p hp
    unfold ZAp
    split
    ·exact hp
    ·split
     ·exact zB _ hp
     ·exact hp
   have hls:∀(V:AV),∀p,p∈ls->p∈ZDW (xs.headD 0) o.op fr V (ts.headD (0,0)) ls:=by
    intro V p hp
    unfold ZDW
    split
    ·split
     ·exact zB _ hp
     ·exact zB _ hp
     ·exact hp
    ·exact hp
   have fp:∀(eff:Bool) (V:AV) (r:Nat),FP fs (acc.reverse++[⟨o,true,eff,fr,V,r⟩]) XS TS (ZAp (xs.headD 0) o.op fr ps) (ZDW (xs.headD 0) o.op fr V (ts.headD (0,0)) ls):=by
    intro eff V r
    refine hfp.snoc hps (hls V) fun x hx _ h1 h2=> ?_
    have hx':=hhead x hx
    rw[hth]
    rw[hx']at hc
    unfold ZE1 at hc
    by_cases hxt:x=1
    ·exact .inl hxt
    ·have hne:¬(x=1∨ZO fs o.op=true):=by
      rintro(q|q)
      ·exact hxt q
      ·rw[h1]at q;cases q
     rw[iN hne]at hc
     by_cases hx2:x=2
     ·rw[iP hx2]at hc
      refine .inr (.inr (.inr ?_))
      unfold ZDW
      rw[hx',iP hx2]
      simp only at h1 h2 ⊢
      generalize o.op=op at hc ⊢
      cases op with
      |load ty y=>exact⟨ty,y,none,rfl,zC ..⟩
      |indexAddr ty y i=>exact⟨ty,y,some i,rfl,zC ..⟩
      |_=>cases hc
     ·rw[iN hx2]at hc
      split at hc
      ·next f args ts hop=>unfold ZS at h2;simp only at h1 h2;rw[h1,hop]at h2;cases h2
      ·split at hc
       ·next y hy=>
        refine .inr (.inr (.inl ⟨y,hy,?_⟩))
        unfold ZAp
        rw[hx',iN hxt,hy]
        exact zC ..
       ·exact .inr (.inl hc)
   have goE:∀(r:AV) (σ':ZE),ZO fs o.op=true->ZBs N o.dst (aL fs P B N ops rest xs.tail ts.tail (Zl o.dst r fr) (σ'::ss) (ZAp (xs.headD 0) o.op fr ps) (ZDW (xs.headD 0) o.op fr r (ts.headD (0,0)) ls) (fun fr' σ'=>K ⟨fr',σ'⟩))->
     dOk N o.dst/\aD fs P B N ops rest (Zl o.dst r fr) (⟨o,true,true,fr,r,ss.length-1⟩::acc) (σ'::ss) fun acc ss fr'=>FOK fs P acc.reverse (XS.map (· ==1)) TS ss/\K ⟨fr',ss.headD []⟩:=by
    intro r σ' he hk
    have hk2:=hk.2
    exact⟨hk.1,ZBN rest _ _ _ _ (σ'::ss) _ _ (by simp) (htail _) (htt _) (by rw[zA];exact fp _ _ _) hk2⟩
   have goN:∀(r:AV) (n:Nat),ZO fs o.op=false->ZBs N o.dst (aL fs P B N ops rest xs.tail ts.tail (Zl o.dst r fr) ss (ZAp (xs.headD 0) o.op fr ps) (ZDW (xs.headD 0) o.op fr r (ts.headD (0,0)) ls) (fun fr' σ'=>K ⟨fr',σ'⟩))->
     dOk N o.dst/\aD fs P B N ops rest (Zl o.dst r fr) (⟨o,true,false,fr,r,n⟩::acc) ss fun acc ss fr'=>FOK fs P acc.reverse (XS.map (· ==1)) TS ss/\K ⟨fr',ss.headD []⟩:=by
    intro r n he hk
    have hk2:=hk.2
    exact⟨hk.1,ZBN rest _ _ _ _ ss _ _ hss (htail _) (htt _) (by rw[zA];exact fp _ _ _) hk2⟩
   clear hno hc fp fpF
   unfold ZIe at h
   cases he:ZO fs o.op with
   |true=>
    simp only[he,if_true]at h goE ⊢
    generalize hop:o.op=op at h ⊢
    have gen:(aef P B op (ev fr) (ss.headD []) fun r σ'=>ZBs N o.dst (hold (aL fs P B N ops rest xs.tail ts.tail (Zl o.dst r fr) (σ'::ss) (ZAp (xs.headD 0) op fr ps) (ZDW (xs.headD 0) op fr r (ts.headD (0,0)) ls) (fun fr' σ'=>K ⟨fr',σ'⟩)) .mk))->
      aef P B op (ev fr) (ss.headD []) fun r σ'=>dOk N o.dst/\aD fs P B N ops rest (Zl o.dst r fr) (⟨o,true,true,fr,r,ss.length-1⟩::acc) (σ'::ss) fun acc ss fr'=>FOK fs P acc.reverse (XS.map (· ==1)) TS ss/\K ⟨fr',ss.headD []⟩:=by
     intro h
     obtain⟨r,s,h1,h2⟩:=ZDQ P B op (ev fr) (ss.headD []) _ h
     exact h2 _ (goE r s trivial (by rw[hop];exact h1))
    cases op with
    |call c=>
     obtain⟨cal,args,ts⟩:=c
     cases cal with
     |value f=>
      simp only[ZBE]at h ⊢
      split at h
      ·obtain⟨r,σ',q1,q2⟩:=h
       exact⟨r,σ',q1,goE r σ' trivial (by rw[hop];exact q2)⟩
      ·exact h.elim
     |_=>exact gen h
    |_=>exact gen h
   |false=>
    simp only[he,Bool.false_eq_true,if_false]at h goN ⊢
    generalize hop:o.op=op at h ⊢
    have gen:(aef P B op (ev fr) (ss.headD []) fun r σ'=>σ'=ss.headD []/\ZBs N o.dst (hold (aL fs P B N ops rest xs.tail ts.tail (Zl o.dst r fr) ss (ZAp (xs.headD 0) op fr ps) (ZDW (xs.headD 0) op fr r (ts.headD (0,0)) ls) (fun fr' σ'=>K ⟨fr',σ'⟩)) .mk))->
      aef P B op (ev fr) (ss.headD []) fun r σ'=>dOk N o.dst/\σ'=ss.headD []/\aD fs P B N ops rest (Zl o.dst r fr) (⟨o,true,false,fr,r,ss.length-1⟩::acc) ss fun acc ss fr'=>FOK fs P acc.reverse (XS.map (· ==1)) TS ss/\K ⟨fr',ss.headD []⟩:=by
     intro h
     obtain⟨r,s,⟨h0,h1⟩,h2⟩:=ZDQ P B op (ev fr) (ss.headD []) _ h
     have:=goN r (ss.length-1) trivial (by rw[hop];exact h1)
     exact h2 _ ⟨this.1,h0,this.2⟩
    unfold ZCY at h
    cases op with
    |call c=>
     obtain⟨cal,args,ts⟩:=c
     cases cal with
     |value f=>exact PCall.mono h fun r hr=>goN r 0 trivial (by rw[hop];exact hr)
     |_=>exact gen h
    |_=>exact gen h
  unfold ZAX at h ⊢
  split at h
  ·exact hyes h
  ·split at h
   ·split at h
    ·split at h
     ·next hb=>simp only[hb,if_true];exact hyes h
     ·next hb=>simp only[hb,if_false];exact hno h
    ·exact h.elim
   ·exact h.elim
variable {ops:Array Oper}{fr:Frm}{σ:ZE}
theorem ADraw.eff {b:Box ops}{K:ASt->Prop}{b':Box K}(fs:List FuncId)(tab:List (Nat×Nat))(xs:List Nat)(hm:P.follows .mixedOrders=true)(hd:ZAZ fs ops=true)(ht:ZIa fs ops tab=true)(hx:ZBO fs ops tab (xs.map (· ==1))=true)(h:aL fs P B N (hold ops .mk) ops.toList xs tab fr [σ] [] [] (hold (fun fr' σ'=>K ⟨fr',σ'⟩) .mk)):ADraw P B nb N (hold ops b) ⟨fr,σ⟩ (hold K b'):=by
 refine ADraw.exact hm hd tab ht _ hx ?_
 exact ZBN ops.toList xs tab fr [] [σ] [] [] (by simp) rfl rfl (fun i e x hi=>by simp at hi) h
def ZE0 (P:Program)(B:Nat)(op:Op)(fr:Frm)(σ:ZE)(K:AV->ZE->Prop):Prop:=
 match op with
 | .call {callee:=.value f,args,.. }=>ZBE P B (ev fr f) (args.toList.map (ev fr)) σ K
 |op=>aef P B op (ev fr) σ K
variable {ts:List (Nat×Nat)}{ss:List ZE}
theorem ZMZ {bo:Box ops}{l:List Oper}{K:Frm->ZE->Prop}{k:Box K}:aL fs P B N (hold ops bo) (Array.toList (zG l)) xs ts fr ss ps ls (hold K k)=aL fs P B N (hold ops bo) (hold l .mk) xs ts fr ss ps ls (hold K k):=id rfl
theorem ZOO {b:Box ([]:List Oper)}{K:Frm->ZE->Prop}{k:Box K}:aL fs P B N ops (hold [] b) xs ts fr ss ps ls (hold K k)=chk (ZB6 ss ps) (hold (chk (ZGZ P ss.reverse ls) (hold (K fr (ss.headD [])) .mk)) .mk):=id rfl
theorem ZMa {bo:Box ops}{o:Oper}{rest:List Oper}{br:Box (o::rest)}{K:Frm->ZE->Prop}{k:Box K}:aL fs P B N (hold ops bo) (hold (o::rest) br) xs ts fr ss ps ls (hold K k)=
  ZAX (hold ops .mk) fr o.guard
   (hold (chk (ZE1 fs (xs.headD 0) o.op fr) (hold (ZIe fs P B o.op fr (ss.headD []) (hold (fun r σ'=>ZBs N o.dst (hold (aL fs P B N (hold ops .mk) (hold rest .mk) xs.tail ts.tail (Zl o.dst r fr) (if ZO fs o.op=true then σ'::ss else ss) (ZAp (xs.headD 0) o.op fr ps) (ZDW (xs.headD 0) o.op fr r (ts.headD (0,0)) ls) (hold K .mk)) .mk)) .mk)) .mk)) .mk)
   (hold (ZBs N o.dst (hold (aL fs P B N (hold ops .mk) (hold rest .mk) xs.tail ts.tail (Zl o.dst (.lit undef) fr) (if ZO fs o.op=true then ss.headD []::ss else ss) ps ls (hold K .mk)) .mk)) .mk):=id rfl
variable {rs:List ZE}
theorem ZJU :ZGZ P rs []=True:=id rfl
variable {ty:TypeId}{p:AV}{oi:Option AV}
theorem ZH7 {V:AV}{lo hi:Nat}{r:Lds}:ZGZ P rs ((ty,p,oi,V,lo,hi)::r)=(ZMO P rs ty p oi V lo (hi+1-lo)/\ZGZ P rs r):=id rfl
theorem ZJS {V:AV}{s:Nat}:ZMO P rs ty p oi V s 0=True:=id rfl
theorem ZJT {V:AV}{s k:Nat}:ZMO P rs ty p oi V s (k+1)=(ZG2 P ty (rs.getD s []) p oi (hold (fun r=>r=V) .mk)/\ZMO P rs ty p oi V (s+1) k):=id rfl
theorem ZLE {K:AV->Prop}{k:Box K}:ZG2 P ty σ p none (hold K k)=ZCs P ty σ p (hold K .mk):=id rfl
theorem ZLF {i:AV}{K:AV->Prop}{k:Box K}:ZG2 P ty σ p (some i) (hold K k)=Zk P ty σ p i (hold K .mk):=id rfl
variable {K:AV->ZE->Prop}{k:Box K}
theorem ZPb {op:Op}:ZIe fs P B op fr σ (hold K k)=if ZO fs op=true then ZE0 P B op fr σ (hold K .mk)else ZCY P B op fr σ (hold (fun r=>K r σ) .mk):=id rfl
variable {t:TypeId}
theorem ZKr :ZE0 P B (.alloc t) fr σ (hold K k)=aef P B (.alloc t) (ev fr) σ (hold K .mk):=id rfl
theorem ZOQ {x:Operand}:ZE0 P B (.box t x) fr σ (hold K k)=aef P B (.box t x) (ev fr) σ (hold K .mk):=id rfl
theorem ZKq {ps:Array (Nat×Operand)}:ZE0 P B (.build t ps) fr σ (hold K k)=aef P B (.build t ps) (ev fr) σ (hold K .mk):=id rfl
theorem ZEr {n:Nat}{ps:Array (Nat×Operand)}:ZE0 P B (.buildSlice t n ps) fr σ (hold K k)=aef P B (.buildSlice t n ps) (ev fr) σ (hold K .mk):=id rfl
theorem ZFZ {l c:Operand}:ZE0 P B (.makeSlice t l c) fr σ (hold K k)=aef P B (.makeSlice t l c) (ev fr) σ (hold K .mk):=id rfl
theorem ZKl {a x:Operand}:ZE0 P B (.store t a x) fr σ (hold K k)=aef P B (.store t a x) (ev fr) σ (hold K .mk):=id rfl
theorem ZIG {bi:Builtin}{args:Array Operand}{ts:Array TypeId}:ZE0 P B (.call {callee:=.builtin bi,args:=args,argTypes:=ts}) fr σ (hold K k)=aef P B (.call {callee:=.builtin bi,args:=args,argTypes:=ts}) (ev fr) σ (hold K .mk):=id rfl
theorem ZMb {f:Operand}{l:List Operand}{ts:Array TypeId}:ZE0 P B (.call {callee:=.value f,args:=zG l,argTypes:=ts}) fr σ (hold K k)=ZBE P B (ev fr f) (l.map (ev fr)) σ (hold K .mk):=id rfl
variable {args:List AV}
theorem ZKp {i:FuncId}{first cap:List AV}:ZBE P B (.fn (.func i) first cap) args σ (hold K k)=ECallA P B i (first++args++cap) σ (hold K .mk):=id rfl
variable {f:FuncId}{args':List AV}
theorem MutCall.ego {cs:List AV}{r:AV}{cs':List AV}(h:MutCall P B f cs args r cs')(l:Nat){ds:List AV}(hl:σ[l]? =some (.cells ds))(hle:AV.le.les ds cs)(hlen:cs'.length=cs.length)(ha:ZId l args' args)(hK:K r (σ.set l (.cells cs'))):ECallA P B f args' σ (hold K k):=
 ⟨r,σ.set l (.cells cs'),fun K' hK'=>MutCall.go (k:=(.mk:Box K')) h l hl hle hlen ha hK',hK⟩
variable {b:Box K}
theorem PureCall.elend {r:AV}(h:PureCall P B f args' r)(hb:brw.brws σ args args')(hr:r.lits)(hK:K r σ):ECallA P B f args σ (hold K b):=
 ⟨r,σ,fun K' hK'=>PureCall.lend (b:=(.mk:Box K')) h hb hr hK',hK⟩
theorem ZL1 (σ:ZE)(x:AV):Pt2 (ZKv σ x):=by
 intro K h
 unfold ZKv at h ⊢
 split at h
 ·next cs=>
  obtain⟨r,s,h1,h2⟩:=ZFF cs σ _ h
  exact⟨_,_,h1,fun K' hK'=>h2 (fun cs' σ'=>K' (.agg cs') σ') hK'⟩
 ·next l n=>
  split at h
  ·exact⟨_,_,h.2.2,fun K' hK'=>⟨h.1,h.2.1,hK'⟩⟩
  ·exact h.elim
 ·exact⟨_,_,h,fun K' hK'=>hK'⟩
theorem ZI2 :∀(xs:List AV) (σ:ZE),Pt2 (ZJg σ xs)
 | [],σ=>fun K h=>⟨_,_,h,fun K' hK'=>hK'⟩
 |x::r,σ=>fun K h=>by
  obtain⟨x',σ1,h1,h2⟩:=ZL1 σ x _ h
  obtain⟨r',σ2,h3,h4⟩:=ZI2 r σ1 _ h1
  exact⟨_,_,h3,fun K' hK'=>h2 (fun x' σ'=>ZJg σ' r fun r' σ''=>K' (x'::r') σ'') (h4 (fun r' σ''=>K' (x'::r') σ'') hK')⟩
theorem ECallA.frz (h:ZJg σ args (hold (fun args' σ'=>ECallA P B f args' σ' (hold K b)) .mk))(he:Ent P f):ECallA P B f args σ (hold K b):=by
 obtain⟨args',σ1,⟨r,σ',h1,h2⟩,h3⟩:=ZI2 args σ _ h
 exact⟨r,σ',fun K' hK'=>ACall.frz (b:=(.mk:Box K')) (h3 _ (h1 K' hK')) he,h2⟩
theorem PureCall.ego {r:AV}(h:PureCall P B f args' r)(hl:AV.le.les args args')(hp:ZEf args)(hK:K r σ):ECallA P B f args σ (hold K b):=
 ⟨r,σ,fun K' hK'=>PureCall.goW (b:=(.mk:Box K')) h hl hp hK',hK⟩
end
attribute [simp] ZOO ZMa
attribute [simp ↓] ZMZ ZPb ZKr ZOQ ZKq ZEr ZFZ ZKl ZIG ZMb ZKp
attribute [simp] ZLE ZLF ZJU ZH7 ZJS ZJT ZDW ZLa List.headD_cons List.headD_nil
attribute [simp] ZB6 ZB6.liveOn ZAp ZE1 ZCX ZB0 ZO ZEf Op.operands Call.operands
end Go.Vl
