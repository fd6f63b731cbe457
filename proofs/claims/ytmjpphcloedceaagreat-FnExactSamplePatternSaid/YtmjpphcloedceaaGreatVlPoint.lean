import Derived.Test.YtmjpphcloedceaaGreatVlMore
set_option linter.all false
open List renaming getD_eq_getElem?_getD->zA,map_congr_left->zB,range->zC,all_eq_true->zD,mem_cons_self->zE
open Array renaming getElem?_eq_some_iff->zF,getElem?_eq_getElem->zG
open Bool renaming and_eq_true->zH,or_eq_true->zI
open Nat renaming lt_or_ge->zJ,lt_trichotomy->zK,testBit_or->zL
open Option.some renaming inj->zM
open Classical renaming byContradiction->zN
namespace Go.Vl
open Go Go.RowKit
theorem ZB {n:Int}(h0: -9223372036854775808<=n)(h1:n<=9223372036854775807):IntKind.i64.wrap n=n:=by
 simp only[IntKind.wrap,IntKind.bits,IntKind.signed];simp;omega
end Go.Vl
namespace Go.Vl
open Go Go.RowKit
open Go.Region renaming binds->zO,ready->zP,wanted->zQ
open Go.Op renaming operands->zR
attribute [local simp] lk ZAL ev ZBR AV.adv Sh.isAgg
def ZO9 :Operand->Option Nat
 | .tmp t=>some t
 |_=>none
def ZC3 (ops:Array Oper)(o:Oper):List Nat:=
 o.op.operands.toList.filterMap ZO9++(match o.guard with
  |some (j,_)=>((ops[j]?).bind (·.dst)).toList
  |none=>[])
def ZO (fs:List FuncId):Op->Bool
 | .alloc _| .box _ _| .buildSlice _ _ _| .makeSlice _ _ _| .store _ _ _=>true
 | .call {callee:=.builtin .append,.. }=>true
 | .call {callee:=.value (.func i),.. }=>fs.contains i
 | .build t _=>fs.contains (1000000+t)
 |_=>false
def ZKb (D:List Nat)(e:Edge)(m:Nat):Nat:=if zO .any e=true then m|||(1<<<e.on)|||D.getD e.on 0 else m
def ZHT (o:Oper)(D:List Nat):Nat:=o.after.toList.foldr (ZKb D) 0
def ZEy :List Oper->List Nat->List Nat
 | [],D=>D
 |o::r,D=>ZEy r (D++[ZHT o D])
def Zh (ops:Array Oper)(i j:Nat):Bool:=((ZEy ops.toList []).getD i 0).testBit j
def ZLQ (ops:Array Oper)(i j:Nat)(_o _p:Oper):Bool:=if j<i then Zh ops i j else Zh ops j i
def ZNm (fs:List FuncId)(ops:Array Oper)(i j:Nat)(o p:Oper):Bool:=
 i==j||((o.dst.isNone||o.dst !=p.dst)&& (match p.dst with
  |none=>true
  |some d=> !(ZC3 ops o).contains d||ZLQ ops i j o p)&& (!(ZO fs o.op&& ZO fs p.op)||ZLQ ops i j o p))
def ZAZ (fs:List FuncId)(ops:Array Oper):Bool:=
 (zC ops.size).all fun i=>match ops[i]? with
  |none=>true
  |some o=>o.after.toList.all (fun e=> !zO .any e||decide (e.on<i))&& (zC ops.size).all fun j=>match ops[j]? with
   |none=>true
   |some p=>ZNm fs ops i j o p
structure Info where
 o:Oper
 want:Bool
 eff:Bool
 fr:Frm
 V:AV
 rank:Nat
def ZOt (P:Program)(B:Nat)(f:FuncId)(args:List AV)(σ:ZE)(V:AV)(σ':ZE):Prop:=∀K:AV->ZE->Prop,K V σ'->ACall P B f args σ K
def OpEx (P:Program)(B:Nat)(o:Oper)(ρ:Operand->AV)(σ:ZE)(V:AV)(σ':ZE):Prop:=
 match o.op with
 | .call {callee:=.value f,args,.. }=>match ρ f with
  | .fn (.func i) first cap=>(σ'=σ/\PureCall P B i (first++args.toList.map ρ++cap) V/\ZEf (first++args.toList.map ρ++cap))∨ZOt P B i (first++args.toList.map ρ++cap) σ V σ'
  |_=>False
 |op=>aef P B op ρ σ fun r σ''=>r=V/\σ''=σ'
section
variable {P : Program} {B nb N : Nat} {fs : List FuncId}
variable {ρ ρ':Operand->AV}
theorem ZAH {xs:Array Operand}(h:∀x,x∈xs->ρ x=ρ' x):xs.toList.map ρ=xs.toList.map ρ':=
 zB fun x hx=>h x (by simpa using hx)
theorem ZJ0 {op:Op}{σ:ZE}{K:AV->ZE->Prop}(h:∀x,x∈op.operands->ρ x=ρ' x)(hk:aef P B op ρ σ K):aef P B op ρ' σ K:=by
 unfold aef at hk ⊢
 split at hk
 ·next x=>rw[←h x (by simp[zR])];exact hk
 ·next x=>rw[←h x (by simp[zR])];exact hk
 ·next c a b=>rw[←h c (by simp[zR]),←h a (by simp[zR]),←h b (by simp[zR])];exact hk
 ·exact hk
 ·next t x=>rw[←h x (by simp[zR])];exact hk
 ·next t parts=>
  have:parts.toList.map (fun p=>(p.1,ρ p.2))=parts.toList.map (fun p=>(p.1,ρ' p.2)):=
   zB fun p hp=>by rw[h p.2 (by simp[zR];exact⟨p.1,by simpa using hp⟩)]
  rw[←this];exact hk
 ·next t len parts=>
  have:parts.toList.map (fun p=>(p.1,ρ p.2))=parts.toList.map (fun p=>(p.1,ρ' p.2)):=
   zB fun p hp=>by rw[h p.2 (by simp[zR];exact⟨p.1,by simpa using hp⟩)]
  rw[←this];exact hk
 ·next t x=>rw[←h x (by simp[zR])];exact hk
 ·next t a x=>rw[←h a (by simp[zR]),←h x (by simp[zR])];exact hk
 ·next x=>rw[←h x (by simp[zR])];exact hk
 ·next op t x y yt=>rw[←h x (by simp[zR]),←h y (by simp[zR])];exact hk
 ·next op t x=>rw[←h x (by simp[zR])];exact hk
 ·next s d x=>rw[←h x (by simp[zR])];exact hk
 ·next fn first cap=>
  rw[←ZAH (xs:=first) (fun x hx=>h x (by simp[zR,hx])),←ZAH (xs:=cap) (fun x hx=>h x (by simp[zR,hx]))];exact hk
 ·next t l c=>rw[←h l (by simp[zR]),←h c (by simp[zR])];exact hk
 ·next t x lo hi mx=>
  have e1:∀(o:Option Operand),(∀y,o=some y->y∈(Op.slice t x lo hi mx).operands)->o.map ρ=o.map ρ':=by
   intro o ho
   cases o with
   |none=>rfl
   |some y=>simp[h y (ho y rfl)]
  rw[←h x (by simp[zR]),←e1 lo (by rintro y rfl;simp[zR]),←e1 hi (by rintro y rfl;simp[zR]),←e1 mx (by rintro y rfl;simp[zR])]
  exact hk
 ·next t x f=>rw[←h x (by simp[zR])];exact hk
 ·next t x i=>rw[←h x (by simp[zR]),←h i (by simp[zR])];exact hk
 ·next t x i=>rw[←h x (by simp[zR]),←h i (by simp[zR])];exact hk
 ·next t x f=>rw[←h x (by simp[zR])];exact hk
 ·next x i=>rw[←h x (by simp[zR])];exact hk
 ·next b args ts=>rw[←ZAH (xs:=args) (fun x hx=>h x (by simp[zR,Call.operands,hx]))];exact hk
 ·exact hk.elim
variable {o:Oper}
theorem OpEx.congr {σ σ':ZE}{V:AV}(h:∀x,x∈o.op.operands->ρ x=ρ' x)(hk:OpEx P B o ρ σ V σ'):OpEx P B o ρ' σ V σ':=by
 unfold OpEx at hk ⊢
 split at hk
 ·next f args ts ho=>
  rw[ho]at h
  rw[←h f (by simp[zR,Call.operands]),←ZAH (xs:=args) (fun x hx=>h x (by simp[zR,Call.operands,hx]))]
  exact hk
 ·exact ZJ0 h hk
variable {Q:Exit->Act->World->Prop}
theorem OpEx.wp {m0:Map}{w0:World}{st:ASt}{V:AV}{σ':ZE}(hk:OpEx P B o (ev st.fr) st.σ V σ'){m:Map}{a:Act}{w:World}(h:ASim B nb N m0 w0 st m a w)(hd:∀d,o.dst=some d->d<N){next:Act->World->Prop}(hn:∀fr' m' a' w',(∀t,lk fr' t=if o.dst=some t then V else lk st.fr t)->ASim B nb N m0 w0 ⟨fr',σ'⟩ m' a' w'->next a' w'):o.wp P a w next Q:=by
 unfold OpEx at hk
 split at hk
 ·next f args ts ho=>
  have key:aop P B N o st (fun st'=>(∀t,lk st'.fr t=if o.dst=some t then V else lk st.fr t)/\st'.σ=σ'):=by
   have fin:ZAL N o.dst V st.fr σ' (fun st'=>(∀t,lk st'.fr t=if o.dst=some t then V else lk st.fr t)/\st'.σ=σ'):=by
    unfold ZAL
    cases hdst:o.dst with
    |none=>simp
    |some d=>simp[hd d hdst]
   unfold aop
   rw[ho]
   simp only[ZDt]
   split at hk
   ·next hf=>
    rw[hf]
    rcases hk with⟨rfl,hk⟩|hk
    ·exact PureCall.call hk.1 hk.2 fin
    ·exact hk _ fin
   ·exact hk.elim
  refine ZBd key h fun st' m' a' w' hk' h'=> ?_
  obtain⟨fr',σ''⟩:=st'
  obtain⟨h1,rfl⟩:=hk'
  exact hn fr' m' a' w' h1 h'
 ·obtain⟨nx,u,r,σ1,m',w',hR,hnx,⟨rfl,rfl⟩,hs,hc,hf⟩:=ZFw h.sim (RelO.of h.fr) hk
  have fin:ZAL N o.dst r st.fr σ1 (fun st'=>(∀t,lk st'.fr t=if o.dst=some t then r else lk st.fr t)/\st'.σ=σ1):=by
   unfold ZAL
   cases hdst:o.dst with
   |none=>simp
   |some d=>simp[hd d hdst]
  obtain⟨⟨fr',σ''⟩,⟨h1,rfl⟩,hsim⟩:=h.next fin hs hc hf
  unfold Oper.wp
  rw[hR]
  rcases hnx with rfl|⟨rfl,rfl⟩
  ·exact hn fr' _ _ _ h1 hsim
  ·exact hn fr' _ _ _ h1 hsim
def FrX (X:Nat->Prop)(fr0:Frm)(infos:List Info)(fr:Frm):Prop:=
 ∀t,(∀(j:Nat) (e:Info),infos[j]? =some e->X j->e.o.dst=some t->lk fr t=e.V)/\
  ((∀(j:Nat) (e:Info),infos[j]? =some e->X j->e.o.dst≠some t)->lk fr t=lk fr0 t)
structure PlanOk (fs:List FuncId)(P:Program)(B N:Nat)(ops:Array Oper)(fr0:Frm)(infos:List Info)(Sg:Nat->ZE)(S:Nat):Prop where
 len:infos.length=ops.size
 op:∀(i:Nat) (e:Info),infos[i]? =some e->ops[i]? =some e.o
 dst:∀(i:Nat) (e:Info) d,infos[i]? =some e->e.o.dst=some d->d<N
 fr:∀(i:Nat) (e:Info),infos[i]? =some e->FrX (fun j=>j<i) fr0 infos e.fr
 guard:∀(i:Nat) (e:Info),infos[i]? =some e->match e.o.guard with
  |none=>e.want=true
  |some (j,want)=>∃d v,(ops[j]?).bind (·.dst)=some d/\lk e.fr d=.lit v/\e.want=(yb v==some want)
 no:∀(i:Nat) (e:Info),infos[i]? =some e->e.want=false->e.V=.lit undef
 pur:∀(i:Nat) (e:Info),infos[i]? =some e->e.want=true->e.eff=false->∀s,s<=S->
  (∀(j:Nat) (f:Info),infos[j]? =some f->f.eff=true->Zh ops i j=true->f.rank<s)->
  (∀(j:Nat) (f:Info),infos[j]? =some f->f.eff=true->Zh ops j i=true->s<=f.rank)->
  OpEx P B e.o (ev e.fr) (Sg s) e.V (Sg s)
 eff:∀(i:Nat) (e:Info),infos[i]? =some e->e.eff=true->e.rank<S/\ZO fs e.o.op=true/\(if e.want=true then OpEx P B e.o (ev e.fr) (Sg e.rank) e.V (Sg (e.rank+1))else Sg (e.rank+1)=Sg e.rank)
 ranks:∀r,r<S->∃(i:Nat) (e:Info),infos[i]? =some e/\e.eff=true/\e.rank=r
 mono:∀(i j:Nat) (e f:Info),infos[i]? =some e->infos[j]? =some f->e.eff=true->f.eff=true->i<j->e.rank<f.rank
variable {ops:Array Oper}
theorem Zd (h:ZAZ fs ops=true){i j:Nat}{p:Oper}(hi:ops[i]? =some o)(hj:ops[j]? =some p):
  (∀e∈o.after,zO .any e=true->e.on<i)/\(i≠j->(∀d,o.dst=some d->p.dst≠some d)/\(∀d,p.dst=some d->d∈ZC3 ops o->ZLQ ops i j o p=true)/\(ZO fs o.op=true->ZO fs p.op=true->ZLQ ops i j o p=true)):=by
 have hin:i<ops.size:=(zF.1 hi).1
 have hjn:j<ops.size:=(zF.1 hj).1
 unfold ZAZ at h
 have h1:=zD.1 h i (by simpa using hin)
 simp only[hi,zH]at h1
 obtain⟨h1,h2⟩:=h1
 have h3:=zD.1 h2 j (by simpa using hjn)
 simp only[hj]at h3
 refine⟨fun e he hb=>by have:=zD.1 h1 e (by simpa using he);simpa[hb]using this,fun hne=> ?_⟩
 unfold ZNm at h3
 have hne':(i==j)=false:=by simpa using hne
 rw[hne',Bool.false_or,zH,zH]at h3
 obtain⟨⟨a1,a2⟩,a3⟩:=h3
 refine⟨fun d hd hp=> ?_,fun d hd hs=> ?_,fun e1 e2=> ?_⟩
 ·rw[hd,hp]at a1;simp at a1
 ·rw[hd]at a2;simpa[hs]using a2
 ·simpa[e1,e2]using a3
theorem ZFO {D:List Nat}{j:Nat}:∀(l:List Edge),(l.foldr (ZKb D) 0).testBit j=true->∃e∈l,zO .any e=true/\(j=e.on∨(D.getD e.on 0).testBit j=true)
 | [],h=>by simp at h
 |e::r,h=>by
  have rest:(r.foldr (ZKb D) 0).testBit j=true->∃e'∈e::r,zO .any e'=true/\(j=e'.on∨(D.getD e'.on 0).testBit j=true):=fun h=>by
   obtain⟨e',h1,h2⟩:=ZFO r h
   exact⟨e',List.mem_cons_of_mem _ h1,h2⟩
  simp only[List.foldr_cons]at h
  unfold ZKb at h
  split at h
  ·next hb=>
   rw[zL,zL,zI,zI]at h
   rcases h with(h|h)|h
   ·exact rest h
   ·refine⟨e,zE ..,hb,.inl ?_⟩
    rw[Nat.one_shiftLeft,Nat.testBit_two_pow]at h
    exact(of_decide_eq_true h).symm
   ·exact⟨e,zE ..,hb,.inr h⟩
  ·exact rest h
theorem ZDi :∀(l:List Oper) (D:List Nat) (k:Nat),k<D.length->(ZEy l D).getD k 0=D.getD k 0
 | [],D,k,_=>rfl
 |o::r,D,k,h=>by
  rw[ZEy,ZDi r _ k (by simp;omega),zA,zA,List.getElem?_append_left h]
theorem ZFt :∀(l:List Oper) (D:List Nat) (t:Nat) (o:Oper),l[t]? =some o->∃D',(∀k,k<D.length+t->D'.getD k 0=(ZEy l D).getD k 0)/\(ZEy l D).getD (D.length+t) 0=ZHT o D'
 | [],D,t,o,h=>by simp at h
 |p::r,D,0,o,h=>by
  simp at h;subst h
  refine⟨D,fun k hk=>(ZDi _ _ k (by simpa using hk)).symm,?_⟩
  rw[ZEy,ZDi r _ _ (by simp)]
  simp[zA]
 |p::r,D,t+1,o,h=>by
  obtain⟨D',h1,h2⟩:=ZFt r (D++[ZHT p D]) t o (by simpa using h)
  refine⟨D',fun k hk=> ?_,?_⟩
  ·rw[ZEy];exact h1 k (by simp;omega)
  ·rw[ZEy]
   have:D.length+(t+1)=(D++[ZHT p D]).length+t:=by simp;omega
   rw[this];exact h2
theorem ZBl (hlow:∀(i:Nat) (o:Oper),ops[i]? =some o->∀e∈o.after,zO .any e=true->e.on<i){i j:Nat}(ho:ops[i]? =some o)(h:Zh ops i j=true):
  ∃e∈o.after,zO .any e=true/\(j=e.on∨Zh ops e.on j=true):=by
 unfold Zh at h
 obtain⟨D',h1,h2⟩:=ZFt ops.toList [] i o (by simpa using ho)
 simp only[List.length_nil,Nat.zero_add]at h1 h2
 rw[h2]at h
 obtain⟨e,he,hb,hj⟩:=ZFO _ h
 have he':e∈o.after:=by simpa using he
 refine⟨e,he',hb,hj.imp id fun hj=> ?_⟩
 rw[h1 e.on (hlow i o ho e he' hb)]at hj
 exact hj
theorem Zn {ops:Array Oper}(hlow:∀(i:Nat) (o:Oper),ops[i]? =some o->∀e∈o.after,zO .any e=true->e.on<i){listed:Array Bool}(hsz:listed.size=ops.size)
  (hcl:∀(i:Nat) (o:Oper),ops[i]? =some o->listed.getD i true=true->∀e∈o.after,zO .any e=true->listed.getD e.on false=true):
  ∀(n i j:Nat) (o:Oper),i<n->ops[i]? =some o->listed.getD i true=true->Zh ops i j=true->listed.getD j false=true
 |0,i,j,o,hn,_,_,_=>by omega
 |n+1,i,j,o,hn,ho,hl,h=>by
  obtain⟨e,he,hb,hj⟩:=ZBl hlow ho h
  have h1:=hcl i o ho hl e he hb
  rcases hj with rfl|hj
  ·exact h1
  ·have hlt:=hlow i o ho e he hb
   have hin:i<ops.size:=(zF.1 ho).1
   refine Zn hlow hsz hcl n e.on j _ (by omega) (zG (by omega)) ?_ hj
   have hs:e.on<listed.size:=by omega
   simp[hs]at h1 ⊢
   exact h1
theorem ZFh {p q:Nat->Bool}{i:Nat}(hpq:∀x,q x=true->p x=true)(hp:p i=true)(hq:q i=false):∀l:List Nat,i∈l->(l.filter q).length<(l.filter p).length:=by
 have le:∀l:List Nat,(l.filter q).length<=(l.filter p).length:=by
  intro l
  induction l with
  |nil=>simp
  |cons a r ih=>
   by_cases h1:q a=true
   ·simp[h1,hpq a h1,ih]
   ·by_cases h2:p a=true
    ·simp[h1,h2];omega
    ·simp[h1,h2,ih]
 intro l
 induction l with
 |nil=>intro h;simp at h
 |cons a r ih=>
  intro h
  by_cases e:a=i
  ·subst e
   have:=le r
   simp[hp,hq];omega
  ·have hm:i∈r:=by
    rcases List.mem_cons.1 h with h|h
    ·exact absurd h.symm e
    ·exact h
   have:=ih hm
   by_cases h1:q a=true
   ·simp[h1,hpq a h1,this]
   ·by_cases h2:p a=true
    ·simp[h1,h2];omega
    ·simp[h1,h2,this]
theorem ZCy {t:Nat}(h:Operand.tmp t∈o.op.operands):t∈ZC3 ops o:=by
 unfold ZC3
 refine List.mem_append_left _ (List.mem_filterMap.2 ⟨.tmp t,by simpa using h,rfl⟩)
theorem ZJr {fr0 frN:Frm}{infos:List Info}{Sg:Nat->ZE}{S:Nat}(hd:ZAZ fs ops=true)(hp:PlanOk fs P B N ops fr0 infos Sg S)(hN:FrX (fun _=>True) fr0 infos frN){K:ASt->Prop}(hK:K ⟨frN,Sg S⟩){m0:Map}{w0:World}(hn:∀st' m' a' w',K st'->ASim B nb N m0 w0 st' m' a' w'->Q .normal a' w'):
  ∀(fuel:Nat) (listed:Array Bool) (fr:Frm) (s:Nat) (m:Map) (a:Act) (w:World),listed.size=ops.size->
   ((zC ops.size).filter fun i=> !listed.getD i true).length<=fuel->
   (∀(i:Nat) (o:Oper),ops[i]? =some o->listed.getD i true=true->∀e∈o.after,zO .any e=true->listed.getD e.on false=true)->
   FrX (fun j=>listed.getD j true=true) fr0 infos fr->s<=S->
   (∀(j:Nat) (e:Info),infos[j]? =some e->e.eff=true->(listed.getD j true=true↔e.rank<s))->
   ASim B nb N m0 w0 ⟨fr,Sg s⟩ m a w->wpAny P .any ops Q fuel listed a w:=by
 have hlow:∀(i:Nat) (o:Oper),ops[i]? =some o->∀e∈o.after,zO .any e=true->e.on<i:=fun i o ho=>(Zd hd ho ho).1
 have inB:∀{listed:Array Bool},listed.size=ops.size->∀{i:Nat} {o:Oper},ops[i]? =some o->∀b:Bool,listed.getD i true=listed.getD i b:=by
  intro listed hs i o hi b
  have:i<listed.size:=by rw[hs];exact(zF.1 hi).1
  simp[this]
 have done:∀(listed:Array Bool) (fr:Frm) (s:Nat) (m:Map) (a:Act) (w:World),listed.size=ops.size->zP .any ops listed=[]->
   FrX (fun j=>listed.getD j true=true) fr0 infos fr->s<=S->(∀(j:Nat) (e:Info),infos[j]? =some e->e.eff=true->(listed.getD j true=true↔e.rank<s))->
   ASim B nb N m0 w0 ⟨fr,Sg s⟩ m a w->Q .normal a w:=by
  intro listed fr s m a w hsz hr hfr hsS hst h
  have all:∀i,listed.getD i true=true:=by
   intro i
   induction i using Nat.strongRecOn with
   |_ i ih=>
    cases hl:listed.getD i true with
    |true=>rfl
    |false=>
     have hin:i<ops.size:=by
      rcases zJ i listed.size with h'|h'
      ·omega
      ·rw[Array.getD_eq_getD_getElem?,Array.getElem?_eq_none h']at hl;simp at hl
     have hio:ops[i]? =some ops[i]:=zG hin
     have:i∈zP .any ops listed:=mem_ready.2 ⟨hl,ops[i],hio,fun e he hb=>by
      have hlt:=(Zd hd hio hio).1 e he hb
      have:=ih e.on hlt
      have heo:ops[e.on]? =some (ops[e.on]'(by omega)):=zG (by omega)
      rw[inB hsz heo false]at this;exact this⟩
     rw[hr]at this;simp at this
  have hs:s=S:=by
   rcases zJ s S with hlt|hge
   ·obtain⟨i,e,hi,he,hrk⟩:=hp.ranks s hlt
    have:=(hst i e hi he).1 (all i)
    omega
   ·omega
  subst hs
  refine hn ⟨frN,Sg s⟩ m a w hK ⟨h.sim,⟨h.fr.1,fun t=> ?_⟩,h.df,h.step,h.base,h.ok⟩
  have:lk frN t=lk fr t:=by
   by_cases hex:∃(j:Nat) (e:Info),infos[j]? =some e/\e.o.dst=some t
   ·obtain⟨j,e,hj,hdj⟩:=hex
    rw[(hN t).1 j e hj trivial hdj,(hfr t).1 j e hj (all j) hdj]
   ·have hno:∀(j:Nat) (e:Info),infos[j]? =some e->e.o.dst≠some t:=fun j e hj hdj=>hex ⟨j,e,hj,hdj⟩
    rw[(hN t).2 (fun j e hj _=>hno j e hj),(hfr t).2 (fun j e hj _=>hno j e hj)]
  show Conc B _ w m (lk frN t) _
  rw[this];exact h.fr.2 t
 intro fuel
 induction fuel with
 |zero=>
  intro listed fr s m a w hsz hcnt hcl hfr hsS hst h
  have hr:zP .any ops listed=[]:=by
   apply List.eq_nil_iff_forall_not_mem.2
   intro i hi
   obtain⟨h0,o,ho,_⟩:=mem_ready.1 hi
   have hin:i<ops.size:=(zF.1 ho).1
   have:i∈(zC ops.size).filter fun i=> !listed.getD i true:=by
    rw[List.mem_filter];exact⟨by simpa using hin,by simp only[h0];rfl⟩
   rw[List.eq_nil_of_length_eq_zero (Nat.le_zero.1 hcnt)]at this
   simp at this
  exact⟨hr,done listed fr s m a w hsz hr hfr hsS hst h⟩
 |succ fuel ih=>
  intro listed fr s m a w hsz hcnt hcl hfr hsS hst h
  refine⟨fun hr=>done listed fr s m a w hsz hr hfr hsS hst h,fun i hi=> ?_⟩
  obtain⟨h0,o,ho,hall⟩:=mem_ready.1 hi
  have hin:i<ops.size:=(zF.1 ho).1
  obtain⟨e,he⟩:∃e,infos[i]? =some e:=⟨infos[i]'(by rw[hp.len];exact hin),List.getElem?_eq_getElem (by rw[hp.len];exact hin)⟩
  have heo:e.o=o:=by have:=hp.op i e he;rw[ho]at this;exact(zM this).symm
  subst heo
  have rdy:∀j,Zh ops i j=true->listed.getD j false=true:=fun j hj=>by
   obtain⟨ed,hed,hb,hj⟩:=ZBl hlow ho hj
   have h1:=hall ed hed hb
   rcases hj with rfl|hj
   ·exact h1
   ·have hlt:=hlow i e.o ho ed hed hb
    have heo:ops[ed.on]? =some (ops[ed.on]'(by omega)):=zG (by omega)
    exact Zn hlow hsz hcl (ed.on+1) ed.on j _ (by omega) heo (by rw[inB hsz heo false];exact h1) hj
  -- the ZC3 read as in the lexical order
  have agree:∀t,t∈ZC3 ops e.o->lk fr t=lk e.fr t:=by
   intro t ht
   have hlex:=hp.fr i e he
   by_cases hex:∃(j:Nat) (f:Info),infos[j]? =some f/\f.o.dst=some t
   ·obtain⟨j,f,hj,hdj⟩:=hex
    have hjo:=hp.op j f hj
    have uniq:∀(j':Nat) (f':Info),infos[j']? =some f'->f'.o.dst=some t->j'=j:=by
     intro j' f' hj' hdj'
     apply zN
     intro hne
     exact((Zd hd (hp.op j' f' hj') hjo).2 hne).1 t hdj' hdj
    by_cases hij:i=j
    ·subst hij
     rw[(hfr t).2 (fun j' f' hj' hx hdj'=>by rw[uniq j' f' hj' hdj',h0]at hx;cases hx),
      (hlex t).2 (fun j' f' hj' hx hdj'=>by rw[uniq j' f' hj' hdj']at hx;omega)]
    ·have hord:=((Zd hd ho hjo).2 hij).2.1 t hdj ht
     unfold ZLQ at hord
     split at hord
     ·next hlt=>
      have hl:=rdy j hord
      rw[←inB hsz hjo false]at hl
      rw[(hfr t).1 _ f hj hl hdj,(hlex t).1 _ f hj hlt hdj]
     ·next hge=>
      have hnl:listed.getD j true=false:=by
       cases hl:listed.getD j true with
       |false=>rfl
       |true=>
        have:=Zn hlow hsz hcl (j+1) j i f.o (by omega) hjo hl hord
        rw[←inB hsz ho false,h0]at this;cases this
      rw[(hfr t).2 (fun j' f' hj' hx hdj'=>by rw[uniq j' f' hj' hdj',hnl]at hx;cases hx),
       (hlex t).2 (fun j' f' hj' hx hdj'=>by rw[uniq j' f' hj' hdj']at hx;omega)]
   ·have hno:∀(j:Nat) (f:Info),infos[j]? =some f->f.o.dst≠some t:=fun j f hj hdj=>hex ⟨j,f,hj,hdj⟩
    rw[(hfr t).2 (fun j f hj _=>hno j f hj),(hlex t).2 (fun j f hj _=>hno j f hj)]
  have hrho:∀x,x∈e.o.op.operands->ev e.fr x=ev fr x:=by
   intro x hx
   cases x with
   |tmp t=>exact(agree t (ZCy hx)).symm
   |_=>rfl
  -- one step on
  have next:∀(fr':Frm) (s':Nat) (m':Map) (a':Act) (w':World),(∀t,lk fr' t=if e.o.dst=some t then e.V else lk fr t)->s'<=S->
    (∀(j:Nat) (f:Info),infos[j]? =some f->f.eff=true->((listed.getD j true=true∨j=i)↔f.rank<s'))->ASim B nb N m0 w0 ⟨fr',Sg s'⟩ m' a' w'->
    wpAny P .any ops Q fuel (listed.setIfInBounds i true) a' w':=by
   intro fr' s' m' a' w' hlk hs' hst' h'
   have hset:∀j,(listed.setIfInBounds i true).getD j true=true↔(listed.getD j true=true∨j=i):=by
    intro j
    by_cases e:i=j
    ·subst e;simp[hsz,hin]
    ·rw[getD_set_ne true e];simp[Ne.symm e]
   refine ih (listed.setIfInBounds i true) fr' s' m' a' w' (by simpa using hsz) ?_ ?_ ?_ hs' (fun j f hj hf=>by rw[hset];exact hst' j f hj hf) h'
   ·have hlt:=ZFh (p:=fun i=> !listed.getD i true) (q:=fun j=> !(listed.setIfInBounds i true).getD j true) (i:=i)
     (fun x hx=>by
      cases hl:listed.getD x true with
      |false=>rfl
      |true=>have:=(hset x).2 (.inl hl);rw[this]at hx;cases hx)
     (by simp only[h0];rfl) (by rw[(hset i).2 (.inr rfl)];rfl) (zC ops.size) (by simpa using hin)
    exact Nat.le_of_lt_succ (Nat.lt_of_lt_of_le hlt hcnt)
   ·intro j o' hj hl ed hed hb
    rcases(hset j).1 hl with hl|rfl
    ·exact getD_set_true (hcl j o' hj hl ed hed hb)
    ·rw[ho]at hj;obtain rfl:=zM hj
     exact getD_set_true (hall ed hed hb)
   ·intro t
    refine⟨fun j f hj hx hdj=> ?_,fun hno=> ?_⟩
    ·rw[hlk]
     rcases(hset j).1 hx with hx|rfl
     ·by_cases hdi:e.o.dst=some t
      ·by_cases hij:i=j
       ·subst hij;rw[he]at hj;obtain rfl:=zM hj;rw[iP hdi]
       ·exact absurd hdj (((Zd hd ho (hp.op j f hj)).2 hij).1 t hdi)
      ·rw[iN hdi];exact(hfr t).1 j f hj hx hdj
     ·rw[he]at hj;obtain rfl:=zM hj;rw[iP hdj]
    ·rw[hlk,iN (hno i e he ((hset i).2 (.inr rfl)))]
     exact(hfr t).2 fun j f hj hx=>hno j f hj ((hset j).2 (.inl hx))
  have stay:e.eff=false->∀(j:Nat) (f:Info),infos[j]? =some f->f.eff=true->((listed.getD j true=true∨j=i)↔f.rank<s):=by
   intro hne j f hj hf
   rw[←hst j f hj hf]
   refine⟨fun hx=>hx.elim id fun e'=> ?_,.inl⟩
   subst e';rw[he]at hj;obtain rfl:=zM hj;rw[hne]at hf;cases hf
  have hwant:zQ e.o (yielded ops a.tmps)=e.want:=by
   have hg:=hp.guard i e he
   unfold zQ
   cases hgd:e.o.guard with
   |none=>rw[hgd]at hg;exact hg.symm
   |some g=>
    obtain⟨j,want⟩:=g
    rw[hgd]at hg
    obtain⟨d,b,h1,h2,h3⟩:=hg
    have hsl:d∈ZC3 ops e.o:=by
     unfold ZC3;rw[hgd];exact List.mem_append_right _ (by show d∈((ops[j]?).bind (·.dst)).toList;rw[h1];simp)
    have hv:Conc B (Av m) w m (lk fr d) (a.tmps.getD d undef):=h.fr.2 d
    rw[agree d hsl,h2]at hv
    have:=ZBj h1 (Conc.lit_inv hv)
    simp only[this,h3]
  unfold wpOp
  rw[ho]
  simp only[hwant]
  have ranked:e.eff=true->s=e.rank:=by
   intro hef
   obtain⟨hrS,hie,_⟩:=hp.eff i e he hef
   have h1:s<=e.rank:=by
    apply zN
    intro hlt
    have:=(hst i e he hef).2 (by omega)
    rw[h0]at this;cases this
   rcases zJ s e.rank with hlt|hge
   ·obtain⟨j,f,hj,hf,hrk⟩:=hp.ranks s (by omega)
    have hji:j<i:=by
     rcases zK j i with h'|h'|h'
     ·exact h'
     ·subst h';rw[he]at hj;obtain rfl:=zM hj;omega
     ·have:=hp.mono i j e f he hj hef hf h';omega
    have hfe:=(hp.eff j f hj hf).2.1
    have hord:=((Zd hd ho (hp.op j f hj)).2 (by omega)).2.2 hie hfe
    unfold ZLQ at hord
    rw[iP hji]at hord
    have hl:=rdy j hord
    rw[←inB hsz (hp.op _ f hj) false]at hl
    have:=(hst _ f hj hf).1 hl
    omega
   ·omega
  have up:e.eff=true->∀(j:Nat) (f:Info),infos[j]? =some f->f.eff=true->((listed.getD j true=true∨j=i)↔f.rank<e.rank+1):=by
   intro hef j f hj hf
   have hs:=ranked hef
   subst hs
   constructor
   ·rintro(hl|rfl)
    ·have:=(hst j f hj hf).1 hl;omega
    ·rw[he]at hj;obtain rfl:=zM hj;omega
   ·intro hlt
    rcases zJ f.rank e.rank with h'|h'
    ·exact .inl ((hst j f hj hf).2 h')
    ·right
     rcases zK j i with h''|h''|h''
     ·have:=hp.mono j i f e hj he hf hef h'';omega
     ·exact h''
     ·have:=hp.mono i j e f he hj hef hf h'';omega
  cases hw:e.want with
  |false=>
   have hV:=hp.no i e he hw
   simp only[Bool.false_eq_true,if_false]
   have fin:ZAL N e.o.dst (.lit undef) fr (Sg s) (fun st'=>(∀t,lk st'.fr t=if e.o.dst=some t then e.V else lk fr t)/\st'.σ=Sg s):=by
    unfold ZAL
    cases hdst:e.o.dst with
    |none=>simp
    |some d=>simp[hp.dst i e d he hdst,hV]
   obtain⟨⟨fr',σ'⟩,⟨h1,rfl⟩,hsim⟩:=h.next fin h.sim (.lit undef) (Fr.refl m w)
   cases hef:e.eff with
   |false=>exact next fr' s m _ w h1 hsS (stay hef) hsim
   |true=>
    obtain⟨hrS,_,hx⟩:=hp.eff i e he hef
    rw[iN (by simp[hw])]at hx
    have hs:=ranked hef
    subst hs
    exact next fr' (e.rank+1) m _ w h1 hrS (up hef) (by rw[hx];exact hsim)
  |true=>
   simp only[if_true]
   left
   cases hef:e.eff with
   |false=>
    have hx:=hp.pur i e he hw hef s hsS
     (fun j f hj hf hed=>by
      have hl:=rdy j hed
      rw[←inB hsz (hp.op _ f hj) false]at hl
      exact(hst _ f hj hf).1 hl)
     (fun j f hj hf hed=>by
      apply zN
      intro hlt
      have hl:=(hst j f hj hf).2 (by omega)
      have:=Zn hlow hsz hcl (j+1) j i f.o (by omega) (hp.op j f hj) hl hed
      rw[←inB hsz ho false,h0]at this;cases this)
    have hx':=OpEx.congr (ρ':=ev fr) hrho hx
    exact OpEx.wp (st:=⟨fr,Sg s⟩) hx' h (fun d hdst=>hp.dst i e d he hdst) fun fr' m' a' w' h1 h2=>next fr' s m' a' w' h1 hsS (stay hef) h2
   |true=>
    obtain⟨hrS,hie,hx⟩:=hp.eff i e he hef
    rw[iP hw]at hx
    have hs:=ranked hef
    subst hs
    have hx':=OpEx.congr (ρ':=ev fr) hrho hx
    exact OpEx.wp (st:=⟨fr,Sg e.rank⟩) hx' h (fun d hdst=>hp.dst i e d he hdst) fun fr' m' a' w' h1 h2=>next fr' (e.rank+1) m' a' w' h1 hrS (up hef) h2
end
end Go.Vl
namespace Go.Vl
open Go Go.RowKit
attribute [local simp] lk ZAL ev ZBR AV.adv Sh.isAgg
def Pt {α:Type}(F:(α->Prop)->Prop):Prop:=∀K,F K->∃r,K r/\∀K':α->Prop,K' r->F K'
variable {α:Type}
theorem Pt.no :Pt (fun _:α->Prop=>False):=fun _ h=>h.elim
theorem Pt.one (r:α):Pt (fun K:α->Prop=>K r):=fun _ h=>⟨r,h,fun _ h'=>h'⟩
variable {F:(α->Prop)->Prop}
theorem Pt.and {c:Prop}(h:c->Pt F):Pt (fun K=>c/\F K):=fun K hk=>
  let⟨r,h1,h2⟩:=h hk.1 K hk.2
  ⟨r,h1,fun K' hk'=>⟨hk.1,h2 K' hk'⟩⟩
theorem Pt.ite {α:Type}{c:Prop}[Decidable c]{F G:(α->Prop)->Prop}(h:c->Pt F)(h':¬c->Pt G):Pt (fun K=>if c then F K else G K):=by
  by_cases hc:c
  all_goals simp_all
variable {β:Type}
theorem Pt.comp (h:Pt F){G:α->(β->Prop)->Prop}(hG:∀a,Pt (G a)):Pt (fun K=>F (fun a=>G a K)):=fun K hk=>
  let⟨a,h1,h2⟩:=h _ hk
  let⟨r,h3,h4⟩:=hG a K h1
  ⟨r,h3,fun K' hk'=>h2 _ (h4 K' hk')⟩
theorem ZCJ (σ:ZE)(x:AV):Pt (x.cellsK σ):=by
  cases x<;>first|exact Pt.one _|exact Pt.and fun _=>Pt.one _
theorem ZI0 (e:List AV)(off n:Nat):Pt (rdE e off n):=Pt.ite (fun _=>Pt.one _) fun _=>Pt.and fun _=>Pt.one _
theorem ZNh (σ:ZE)(p:AV)(n:Nat):Pt (rdN σ p n):=by
  cases p with
  |rptr e off=>exact ZI0 e off n
  |ptr l off=>unfold rdN;(try dsimp only);generalize σ[l]? =ob;rcases ob with _|(_|⟨(_|_),cs⟩|⟨(_|_),sz,es⟩)<;>(try dsimp only)<;>first|exact Pt.no|exact ZI0 _ _ _
  |eptr l k i off=>unfold rdN;(try dsimp only);generalize σ[l]? =ob;rcases ob with _|(_|⟨(_|_),cs⟩|⟨(_|_),sz,es⟩)<;>(try dsimp only)<;>first|exact Pt.no|exact Pt.and fun _=>Pt.and fun _=>ZI0 _ _ _
  |_=>exact Pt.no
theorem ZNi (σ:ZE)(p:AV):Pt (rd1 σ p):=by
  cases p with
  |rptr e off=>exact Pt.and fun _=>Pt.one _
  |ptr l off=>unfold rd1;(try dsimp only);generalize σ[l]? =ob;rcases ob with _|(_|⟨(_|_),cs⟩|⟨(_|_),sz,es⟩)<;>(try dsimp only)<;>first|exact Pt.no|exact Pt.and fun _=>Pt.one _
  |eptr l k i off=>unfold rd1;(try dsimp only);generalize σ[l]? =ob;rcases ob with _|(_|⟨(_|_),cs⟩|⟨(_|_),sz,es⟩)<;>(try dsimp only)<;>first|exact Pt.no|exact Pt.and fun _=>Pt.and fun _=>Pt.and fun _=>Pt.one _
  |_=>exact Pt.no
theorem ZKN (P:Program)(t:TypeId)(σ:ZE)(p:AV):Pt (ZCs P t σ p):=by
  unfold ZCs
  generalize Zs P t=ob
  cases ob with
  |none=>exact Pt.no
  |some i=>exact Pt.ite (fun _=>(ZNh σ p i.size).comp fun cs=>Pt.one _) fun _=>ZNi σ p
theorem ZIz (e:List AV)(off:Nat)(cs:List AV):Pt (wrE e off cs):=Pt.ite (fun _=>Pt.one _) fun _=>Pt.and fun _=>Pt.one _
theorem ZNg (σ:ZE)(p:AV)(cs:List AV):Pt (wrN σ p cs):=by
  cases p with
  |ptr l off=>unfold wrN;(try dsimp only);generalize σ[l]? =ob;rcases ob with _|(_|⟨(_|_),cs⟩|⟨(_|_),sz,es⟩)<;>(try dsimp only)<;>first|exact Pt.no|exact(ZIz _ _ _).comp fun _=>Pt.one _
  |eptr l k i off=>unfold wrN;(try dsimp only);generalize σ[l]? =ob;rcases ob with _|(_|⟨(_|_),cs⟩|⟨(_|_),sz,es⟩)<;>(try dsimp only)<;>first|exact Pt.no|exact Pt.and fun _=>Pt.and fun _=>(ZIz _ _ _).comp fun _=>Pt.one _
  |_=>exact Pt.no
theorem ZI4 (P:Program)(t:TypeId)(σ:ZE)(p v:AV):Pt (ZDo P t σ p v):=by
  unfold ZDo
  generalize Zs P t=ob
  cases ob with
  |none=>exact Pt.no
  |some i=>exact(ZCJ σ v).comp fun cs=>Pt.and fun _=>Pt.and fun _=>ZNg σ p cs
theorem ZEj (P:Program)(t:TypeId)(σ:ZE)(p:AV)(f:Nat):Pt (ZAJ P t σ p f):=by
  unfold ZAJ
  generalize Zs P t=ob;rcases ob with _|⟨sh,sz,z⟩<;>(try dsimp only)
  · exact Pt.no
  · cases sh<;>(try dsimp only)<;>first|exact Pt.no|skip
    next offs=>
      generalize offs[f]? =ob;rcases ob with _|⟨o,_|s⟩<;>(try dsimp only)<;>first|exact Pt.no|exact Pt.and fun _=>Pt.one _
theorem ZEi (P:Program)(t:TypeId)(σ:ZE)(x i:AV):Pt (Zk P t σ x i):=by
  unfold Zk
  cases i<;>(try dsimp only)<;>first|exact Pt.no|skip
  next v=>
    cases v<;>(try dsimp only)<;>first|exact Pt.no|skip
    next k n=>
      generalize Zs P t=ob;rcases ob with _|⟨sh,sz,z⟩<;>(try dsimp only)
      · exact Pt.no
      · cases sh<;>(try dsimp only)<;>first|exact Pt.no|skip
        · cases x<;>(try dsimp only)<;>first|exact Pt.no|skip
          · exact Pt.and fun _=>Pt.and fun _=>Pt.and fun _=>Pt.one _
          · next l _=>generalize σ[l]? =ob;rcases ob with _|(_|⟨(_|_),cs⟩|⟨(_|_),sz,es⟩)<;>(try dsimp only)<;>first|exact Pt.no|exact Pt.and fun _=>Pt.and fun _=>Pt.and fun _=>Pt.and fun _=>Pt.one _
        · next len s=>cases s<;>(try dsimp only)<;>first|exact Pt.no|exact Pt.and fun _=>Pt.and fun _=>Pt.and fun _=>Pt.one _
theorem ZI7 (P:Program)(t:TypeId)(x:AV)(f:Nat):Pt (ZDs P t x f):=by
  unfold ZDs
  cases x<;>(try dsimp only)<;>first|exact Pt.no|skip
  generalize P.underlying t=ob
  rcases ob with _|d<;>(try dsimp only)
  · exact Pt.no
  · cases d<;>(try dsimp only)<;>first|exact Pt.no|skip
    next fs=>
      generalize fs[f]? =ob
      rcases ob with _|d<;>(try dsimp only)
      · exact Pt.no
      · generalize Zs P d.type=ob
        rcases ob with _|j<;>(try dsimp only)
        · exact Pt.no
        · exact Pt.and fun _=>Pt.and fun _=>Pt.one _
theorem ZI6 (P:Program)(t:TypeId)(x i:AV):Pt (ZC2 P t x i):=by
  unfold ZC2
  cases x<;>(try dsimp only)<;>first|exact Pt.no|skip
  · next v=>
    cases v<;>(try dsimp only)<;>first|exact Pt.no|skip
    next s=>
      cases i<;>(try dsimp only)<;>first|exact Pt.no|skip
      next v=>cases v<;>(try dsimp only)<;>first|exact Pt.no|exact Pt.and fun _=>Pt.and fun _=>Pt.and fun _=>Pt.one _
  · next cs=>
    cases i<;>(try dsimp only)<;>first|exact Pt.no|skip
    next v=>
      cases v<;>(try dsimp only)<;>first|exact Pt.no|skip
      generalize P.underlying t=ob
      rcases ob with _|d<;>(try dsimp only)
      · exact Pt.no
      · cases d<;>(try dsimp only)<;>first|exact Pt.no|skip
        next len e=>
          generalize Zs P e=ob2
          rcases ob2 with _|j<;>(try dsimp only)
          · exact Pt.no
          · exact Pt.and fun _=>Pt.and fun _=>Pt.and fun _=>Pt.and fun _=>Pt.and fun _=>Pt.one _
theorem ZL3 (P:Program)(t:TypeId)(σ:ZE)(x:AV):Pt (ZLH P t σ x):=by
  unfold ZLH
  generalize P.underlying t=ob
  cases ob with
  |none=>exact Pt.no
  |some d=>
    (try dsimp only)
    cases d<;>(try dsimp only)<;>first|exact Pt.no|exact Pt.one _|skip
    · cases x<;>(try dsimp only)<;>first|exact Pt.no|skip
      next v=>
        cases v<;>(try dsimp only)<;>first|exact Pt.no|exact Pt.one _
    · cases x<;>(try dsimp only)<;>first|exact Pt.no|exact Pt.one _|skip
      · next v=>
          cases v<;>(try dsimp only)<;>first|exact Pt.no|skip
          next a n c=>
            cases a<;>cases n<;>cases c<;>(try dsimp only)<;>first|exact Pt.no|exact Pt.one _
theorem ZI3 (σ:ZE)(x:AV):Pt (ZC0 σ x):=by
  unfold ZC0
  cases x<;>(try dsimp only)<;>first|exact Pt.no|exact Pt.one _|skip
  · next v=>
      cases v<;>(try dsimp only)<;>first|exact Pt.no|skip
      next a n c=>
        cases a<;>cases n<;>cases c<;>(try dsimp only)<;>first|exact Pt.no|exact Pt.one _
  · next l _=>generalize σ[l]? =ob;rcases ob with _|(_|⟨(_|_),cs⟩|⟨(_|_),sz,es⟩)<;>(try dsimp only)<;>first|exact Pt.no|exact Pt.and fun _=>Pt.one _
def Pt2 {α β:Type}(F:(α->β->Prop)->Prop):Prop:=∀K,F K->∃r s,K r s/\∀K':α->β->Prop,K' r s->F K'
theorem Pt2.no :Pt2 (fun _:α->β->Prop=>False):=fun _ h=>h.elim
theorem Pt2.one (r:α)(s:β):Pt2 (fun K:α->β->Prop=>K r s):=fun _ h=>⟨r,s,h,fun _ h'=>h'⟩
theorem Pt2.and {c:Prop}{F:(α->β->Prop)->Prop}(h:c->Pt2 F):Pt2 (fun K=>c/\F K):=fun K hk=>
  let⟨r,s,h1,h2⟩:=h hk.1 K hk.2
  ⟨r,s,h1,fun K' hk'=>⟨hk.1,h2 K' hk'⟩⟩
theorem Pt.comp2 {γ:Type}(h:Pt F){G:α->(β->γ->Prop)->Prop}(hG:∀a,Pt2 (G a)):Pt2 (fun K=>F (fun a=>G a K)):=fun K hk=>
  let⟨a,h1,h2⟩:=h _ hk
  let⟨r,s,h3,h4⟩:=hG a K h1
  ⟨r,s,h3,fun K' hk'=>h2 _ (h4 K' hk')⟩
theorem Pt2.comp2 {γ δ:Type}{F:(α->δ->Prop)->Prop}(h:Pt2 F){G:α->δ->(β->γ->Prop)->Prop}(hG:∀a d,Pt2 (G a d)):Pt2 (fun K=>F (fun a d=>G a d K)):=fun K hk=>
  let⟨a,d,h1,h2⟩:=h _ hk
  let⟨r,s,h3,h4⟩:=hG a d K h1
  ⟨r,s,h3,fun K' hk'=>h2 _ (h4 K' hk')⟩
theorem Pt.toPt2 (h:Pt F)(s:β):Pt2 (fun K:α->β->Prop=>F (fun a=>K a s)):=h.comp2 fun a=>Pt2.one a s
theorem ZFF :∀(cs:List AV) (σ:ZE),Pt2 (frz σ cs)
  | [],σ=>Pt2.one _ _
  |c::r,σ=>by
    have gen:Pt2 (fun K=>frz σ r (fun r' σ'=>K (c::r') σ')):=(ZFF r σ).comp2 fun a d=>Pt2.one _ _
    cases c with
    |own l n=>show Pt2 (fun K=>frz σ (.own l n::r) K);simp only[frz];generalize σ[l]? =ob;rcases ob with _|(_|⟨(_|_),cs⟩|⟨(_|_),sz,es⟩)<;>(try dsimp only)<;>first|exact Pt2.no|exact Pt2.and fun _=>Pt2.and fun _=>(ZFF r _).comp2 fun a d=>Pt2.one _ _
    |lit v=>exact gen
    |junk=>exact gen
    |arr es=>exact gen
    |rptr e o=>exact gen
    |ptr l o=>exact gen
    |eptr l n i o=>exact gen
    |pre l n k=>exact gen
    |agg cs=>exact gen
    |tup cs=>exact gen
    |fn f xs ys=>exact gen
theorem ZI1 :∀(es:List (List AV)) (σ:ZE),Pt2 (ZKt σ es)
  | [],σ=>Pt2.one _ _
  |e::r,σ=>(ZFF e σ).comp2 fun e' σ'=>(ZI1 r σ').comp2 fun a d=>Pt2.one _ _
theorem ZHL (place:Nat->Option (Nat×Nat))(σ:ZE):∀(parts:List (Nat×AV)) (cs:List AV),Pt (ZBg place σ cs parts)
  | [],cs=>Pt.one _
  |(i,x)::rest,cs=>by
    show Pt (fun K=>ZBg place σ cs ((i,x)::rest) K)
    simp only[ZBg]
    generalize place i=ob;rcases ob with _|⟨off,size⟩
    · exact Pt.no
    · exact(ZCJ σ x).comp fun new=>Pt.and fun _=>(ZIz _ _ _).comp fun cs'=>ZHL place σ rest cs'
theorem ZFG (σ:ZE)(sz:Nat):∀(parts:List (Nat×AV)) (j:Nat),Pt (ZBy σ sz j parts)
  | [],j=>Pt.one _
  |(i,x)::rest,j=>by
    show Pt (fun K=>ZBy σ sz j ((i,x)::rest) K)
    simp only[ZBy]
    exact Pt.and fun _=>(ZCJ σ x).comp fun e=>Pt.and fun _=>(ZFG σ sz rest (j+1)).comp fun es=>Pt.one _
theorem ZKM (es:List (List AV))(σ:ZE):Pt2 (bfrzs σ es):=by
  by_cases h:σ.any isK=true/\σ.any isP=true
  · have:bfrzs σ es=fun K=>K es σ:=by funext K;unfold bfrzs;rw[iP h]
    rw[this];exact Pt2.one _ _
  · have:bfrzs σ es=ZKt σ es:=by funext K;unfold bfrzs;rw[iN h]
    rw[this];exact ZI1 es σ
theorem ZL2 (cs:List AV)(σ:ZE):Pt2 (bfrz σ cs):=by
  by_cases h:σ.any isM=true
  · have:bfrz σ cs=fun K=>K cs σ:=by funext K;unfold bfrz;rw[iP h]
    rw[this];exact Pt2.one _ _
  · have:bfrz σ cs=frz σ cs:=by funext K;unfold bfrz;rw[iN h]
    rw[this];exact ZFF cs σ
theorem ZI8 (P:Program)(t:TypeId)(σ:ZE)(parts:List (Nat×AV)):Pt2 (ZBz P t σ parts):=by
  unfold ZBz
  generalize Zs P t=ob;rcases ob with _|⟨sh,sz,z⟩<;>(try dsimp only)
  · exact Pt2.no
  · cases sh<;>(try dsimp only)<;>first|exact Pt2.no|(exact Pt2.and fun _=>Pt2.and fun _=>(ZHL _ σ parts _).comp2 fun cs=>(ZL2 cs σ).comp2 fun a d=>Pt2.one _ _)|skip
    next n s=>cases s<;>(try dsimp only)<;>first|exact Pt2.no|exact Pt2.and fun _=>Pt2.and fun _=>Pt2.one _ _
theorem ZDv (P:Program)(B:Nat)(t:TypeId)(σ:ZE)(len:Nat)(parts:List (Nat×AV)):Pt2 (ZAG P B t σ len parts):=by
  unfold ZAG
  generalize Zs P t=ob;rcases ob with _|⟨sh,sz,z⟩<;>(try dsimp only)
  · exact Pt2.no
  · cases sh<;>(try dsimp only)<;>first|exact Pt2.no|exact Pt2.and fun _=>Pt2.and fun _=>Pt2.and fun _=>Pt2.and fun _=>Pt2.and fun _=>(ZFG σ _ parts 0).comp2 fun es=>(ZKM es σ).comp2 fun a d=>Pt2.one _ _
theorem ZEh (P:Program)(B:Nat)(t:TypeId)(σ:ZE)(l c:AV):Pt2 (ZAT P B t σ l c):=by
  unfold ZAT
  generalize Zs P t=ob;rcases ob with _|⟨sh,sz,z⟩<;>(try dsimp only)
  · exact Pt2.no
  · cases sh<;>(try dsimp only)<;>first|exact Pt2.no|skip
    cases l<;>(try dsimp only)<;>first|exact Pt2.no|skip
    next v=>
      cases v<;>(try dsimp only)<;>first|exact Pt2.no|skip
      cases c<;>(try dsimp only)<;>first|exact Pt2.no|skip
      next v=>
        cases v<;>(try dsimp only)<;>first|exact Pt2.no|exact Pt2.and fun _=>Pt2.and fun _=>Pt2.and fun _=>Pt2.and fun _=>Pt2.and fun _=>Pt2.and fun _=>Pt2.and fun _=>Pt2.one _ _
theorem ZBV (x:Option AV)(d:Nat):Pt (ZAm x d):=by
  unfold ZAm
  cases x with
  |none=>exact Pt.one _
  |some v=>
    cases v<;>(try dsimp only)<;>first|exact Pt.no|skip
    next v=>cases v<;>(try dsimp only)<;>first|exact Pt.no|exact Pt.and fun _=>Pt.one _
theorem ZI5 (P:Program)(t:TypeId)(σ:ZE)(x:AV)(lo hi mx:Option AV):Pt2 (ZBx P t σ x lo hi mx):=by
  unfold ZBx
  cases x<;>(try dsimp only)<;>first|exact Pt2.no|skip
  · next v=>
      cases v<;>(try dsimp only)<;>first|exact Pt2.no|skip
      cases mx<;>(try dsimp only)<;>first|exact Pt2.no|exact Pt2.and fun _=>(ZBV _ _).comp2 fun l=>(ZBV _ _).comp2 fun h=>Pt2.and fun _=>Pt2.and fun _=>Pt2.one _ _
  · cases mx<;>(try dsimp only)<;>first|exact Pt2.no|skip
    generalize Zs P t=ob;rcases ob with _|⟨sh,sz,z⟩<;>(try dsimp only)<;>first|exact Pt2.no|skip
    cases sh<;>(try dsimp only)<;>first|exact Pt2.no|exact Pt2.and fun _=>(ZBV _ _).comp2 fun l=>(ZBV _ _).comp2 fun h=>Pt2.and fun _=>Pt2.and fun _=>Pt2.one _ _
  · cases mx<;>(try dsimp only)<;>first|exact Pt2.no|skip
    cases lo<;>(try dsimp only)<;>first|exact Pt2.no|skip
    generalize Zs P t=ob;rcases ob with _|⟨sh,sz,z⟩<;>(try dsimp only)<;>first|exact Pt2.no|skip
    cases sh<;>(try dsimp only)<;>first|exact Pt2.no|exact(ZBV _ _).comp2 fun h=>Pt2.and fun _=>Pt2.one _ _
theorem ZH0 (P:Program)(B:Nat)(t t2:TypeId)(σ:ZE)(s x:AV):Pt2 (ZCC P B t t2 σ s x):=by
  unfold ZCC
  generalize Zs P t=ob;rcases ob with _|⟨sh,sz,z⟩<;>(try dsimp only)<;>first|exact Pt2.no|skip
  cases sh<;>(try dsimp only)<;>first|exact Pt2.no|skip
  generalize P.underlying t2=ob
  cases ob with
  |none=>exact Pt2.no
  |some d=>
    cases d<;>(try dsimp only)<;>first|exact Pt2.no|skip
    refine Pt2.and fun _=>Pt2.and fun _=>Pt2.and fun _=>(ZI3 σ x).comp2 fun new=>Pt2.and fun _=>Pt2.and fun _=> ?_
    cases s<;>(try dsimp only)<;>first|exact Pt2.no|skip
    · next v=>
        cases v<;>(try dsimp only)<;>first|exact Pt2.no|skip
        next a n c=>
          cases a<;>cases n<;>cases c<;>(try dsimp only)<;>first|exact Pt2.no|exact Pt2.and fun _=>Pt2.and fun _=>Pt2.one _ _
    · next l _=>generalize σ[l]? =ob;rcases ob with _|(_|⟨(_|_),cs⟩|⟨(_|_),sz,es⟩)<;>(try dsimp only)<;>first|exact Pt2.no|exact Pt2.and fun _=>Pt2.and fun _=>Pt2.and fun _=>Pt2.and fun _=>Pt2.one _ _
theorem ZI9 (P:Program)(op:BinOp)(t:TypeId)(x y:AV):Pt (ZM6 P op t x y):=by
  unfold ZM6
  cases x<;>(try dsimp only)<;>first|exact Pt.no|skip
  next v=>
    cases v<;>(try dsimp only)<;>first|exact Pt.no|skip
    all_goals(cases y<;>(try dsimp only)<;>first|exact Pt.no|skip)
    all_goals(rename_i v;cases v<;>(try dsimp only)<;>first|exact Pt.no|skip)
    all_goals first
      |(cases op<;>(try dsimp only)<;>first|exact Pt.no|exact Pt.and fun _=>Pt.one _|exact Pt.one _|exact Pt.and fun _=>Pt.no|exact Pt.and fun _=>Pt.and fun _=>Pt.one _)
      | (rename_i a' n' c'
         cases a'<;>cases n'<;>cases c'<;>(try dsimp only)<;>first|exact Pt.no|(cases op<;>(try dsimp only)<;>first|exact Pt.and fun _=>Pt.one _|exact Pt.and fun _=>Pt.no))
  next es=>
    cases y<;>(try dsimp only)<;>first|exact Pt.no|skip
    rename_i v
    cases v<;>(try dsimp only)<;>first|exact Pt.no|skip
    rename_i a' n' c'
    cases a'<;>cases n'<;>cases c'<;>(try dsimp only)<;>first|exact Pt.no|(cases op<;>(try dsimp only)<;>first|exact Pt.and fun _=>Pt.and fun _=>Pt.one _|exact Pt.and fun _=>Pt.and fun _=>Pt.no)
  next xs=>
    cases y<;>(try dsimp only)<;>first|exact Pt.no|skip
    next ys=>
      generalize ZA6 xs=p
      generalize ZA6 ys=q
      generalize ZBT xs=p'
      generalize ZBT ys=q'
      generalize ZCH xs=p2
      generalize ZCH ys=q2
      cases p<;>cases q<;>(try dsimp only)
      all_goals first
        |(cases op<;>(try dsimp only)<;>first|exact Pt.and fun _=>Pt.no|exact Pt.and fun _=>Pt.one _)
        | (cases p' <;> cases q' <;> (try dsimp only)
           all_goals first
            |(cases op<;>(try dsimp only)<;>first|exact Pt.and fun _=>Pt.no|exact Pt.and fun _=>Pt.one _)
            | (cases p2 <;> cases q2 <;> (try dsimp only) <;> first | exact Pt.no | skip
               cases op<;>(try dsimp only)<;>first|exact Pt.and fun _=>Pt.no|exact Pt.and fun _=>Pt.one _))
theorem ZLO (op:UnOp)(x:AV):Pt (aUn op x):=by
  unfold aUn
  cases op<;>(try dsimp only)<;>first|exact Pt.no|skip
  all_goals(cases x<;>(try dsimp only)<;>first|exact Pt.no|skip)
  all_goals(next v=>cases v<;>(try dsimp only)<;>first|exact Pt.no|exact Pt.one _)
theorem ZKO (P:Program)(s d:TypeId)(σ:ZE)(x:AV):Pt (ZD5 P s d σ x):=by
  unfold ZD5
  generalize P.underlying s=ob;rcases ob with _|a<;>(try dsimp only)<;>first|exact Pt.no|skip
  cases a<;>(try dsimp only)<;>first|exact Pt.no|skip
  all_goals(generalize P.underlying d=ob;rcases ob with _|a<;>(try dsimp only)<;>first|exact Pt.no|skip)
  all_goals(cases a<;>(try dsimp only)<;>first|exact Pt.no|skip)
  all_goals(cases x<;>(try dsimp only)<;>first|exact Pt.no|skip)
  · next v=>cases v<;>(try dsimp only)<;>first|exact Pt.no|exact Pt.one _
  · next e es=>
    refine Pt.and fun _=> ?_
    generalize u8s es=o
    cases o<;>(try dsimp only)<;>first|exact Pt.no|exact Pt.one _
  · next e l n=>
    refine Pt.and fun _=> ?_
    generalize σ[l]? =ob;rcases ob with _|(_|⟨(_|_),cs⟩|⟨(_|_),sz,es⟩)<;>(try dsimp only)<;>first|exact Pt.no|skip
    refine Pt.and fun _=> ?_
    generalize u8s es=o
    cases o<;>(try dsimp only)<;>first|exact Pt.no|exact Pt.one _
theorem ZGQ (P:Program)(B:Nat)(b:Builtin)(ts:Array TypeId)(σ:ZE)(args:List AV):Pt2 (ZAx P B b ts σ args):=by
  unfold ZAx
  cases b<;>(try dsimp only)<;>first|exact Pt2.no|skip
  all_goals(rcases args with _|⟨x,_|⟨y,_|⟨z,r⟩⟩⟩<;>(try dsimp only)<;>first|exact Pt2.no|skip)
  · generalize ts[0]? =ob1;generalize ts[1]? =ob2
    cases ob1<;>(try dsimp only)<;>first|exact Pt2.no|skip
    cases ob2<;>(try dsimp only)<;>first|exact Pt2.no|exact ZH0 _ _ _ _ _ _ _
  · generalize ts[0]? =ob
    cases ob<;>(try dsimp only)<;>first|exact Pt2.no|exact(ZL3 _ _ _ _).toPt2 _
  all_goals(cases x<;>(try dsimp only)<;>first|exact Pt2.no|skip)
  all_goals(rename_i v;cases v<;>(try dsimp only)<;>first|exact Pt2.no|skip)
  all_goals(cases y<;>(try dsimp only)<;>first|exact Pt2.no|skip)
  all_goals(rename_i v;cases v<;>(try dsimp only)<;>first|exact Pt2.no|exact Pt2.one _ _)
theorem ZDQ (P:Program)(B:Nat)(op:Op)(ρ:Operand->AV)(σ:ZE):Pt2 (aef P B op ρ σ):=by
  unfold aef
  cases op<;>(try dsimp only)<;>first|exact Pt2.no|exact Pt2.one _ _|skip
  case pick c a b=>
    generalize ρ c=ob
    cases ob<;>(try dsimp only)<;>first|exact Pt2.no|skip
    rename_i v;cases v<;>(try dsimp only)<;>first|exact Pt2.no|exact Pt2.one _ _
  case alloc t=>
    generalize Zs P t=ob
    cases ob<;>(try dsimp only)<;>first|exact Pt2.no|exact Pt2.and fun _=>Pt2.one _ _
  case box t x=>exact(ZCJ σ (ρ x)).comp2 fun cs=>Pt2.one _ _
  case build t parts=>exact ZI8 _ _ _ _
  case buildSlice t len parts=>exact ZDv _ _ _ _ _ _
  case load t x=>exact(ZKN _ _ _ _).toPt2 _
  case store t a x=>exact(ZI4 _ _ _ _ _).comp2 fun _=>Pt2.one _ _
  case nilCheck x=>exact Pt2.and fun _=>Pt2.one _ _
  case binOp op t x y yt=>exact(ZI9 _ _ _ _ _).toPt2 _
  case unOp op t x=>exact(ZLO _ _).toPt2 _
  case convert s d x=>exact(ZKO _ _ _ _ _).toPt2 _
  case makeSlice t l c=>exact ZEh _ _ _ _ _ _
  case slice t x lo hi mx=>exact ZI5 _ _ _ _ _ _ _
  case fieldAddr t x f=>exact(ZEj _ _ _ _ _).toPt2 _
  case indexAddr t x i=>exact(ZEi _ _ _ _ _).toPt2 _
  case index t x i=>exact(ZI6 _ _ _ _).toPt2 _
  case field t x f=>exact(ZI7 _ _ _ _).toPt2 _
  case extract x i=>
    generalize ρ x=ob
    cases ob<;>(try dsimp only)<;>first|exact Pt2.no|exact Pt2.and fun _=>Pt2.one _ _
  case call c=>
    obtain⟨cal,args,ts⟩:=c
    cases cal<;>(try dsimp only)<;>first|exact Pt2.no|exact ZGQ _ _ _ _ _ _
end Go.Vl
