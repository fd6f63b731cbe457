/- The value-level layer, part 16: regions whose order is drawn. -/
import Derived.Test.YtojdombnghnbmaaVlSimp
set_option linter.unusedSimpArgs false
set_option linter.unusedVariables false
namespace Go.Vl
open Go Go.RowKit
attribute [local simp] lk putK ev frOf AV.adv Sh.isAgg
def tmpOf :Operand→Option Nat
 | .tmp t=>some t
 |_=>none
def slots (ops:Array Oper)(o:Oper):List Nat:=
 o.op.operands.toList.filterMap tmpOf++(match o.guard with
  |some (j,_)=>((ops[j]?).bind (·.dst)).toList
  |none=>[])
def isEff (fs:List FuncId):Op→Bool
 | .alloc _| .box _ _| .buildSlice _ _ _| .makeSlice _ _ _| .store _ _ _=>true
 | .call {callee:=.builtin .append,.. }=>true
 | .call {callee:=.value (.func i),.. }=>fs.contains i
 | .build t _=>fs.contains (1000000+t)
 |_=>false
def maskE (D:List Nat)(e:Edge)(m:Nat):Nat:=if Region.binds .any e=true then m|||(1<<<e.on)|||D.getD e.on 0 else m
def maskOf (o:Oper)(D:List Nat):Nat:=o.after.toList.foldr (maskE D) 0
def closA :List Oper→List Nat→List Nat
 | [],D=>D
 |o::r,D=>closA r (D++[maskOf o D])
def reachB (ops:Array Oper)(i j:Nat):Bool:=((closA ops.toList []).getD i 0).testBit j
def ordB (ops:Array Oper)(i j:Nat)(_o _p:Oper):Bool:=if j<i then reachB ops i j else reachB ops j i
def pairB (fs:List FuncId)(ops:Array Oper)(i j:Nat)(o p:Oper):Bool:=
 i==j||((o.dst.isNone||o.dst !=p.dst)&& (match p.dst with
  |none=>true
  |some d=> !(slots ops o).contains d||ordB ops i j o p)&& (!(isEff fs o.op&& isEff fs p.op)||ordB ops i j o p))
def drawB (fs:List FuncId)(ops:Array Oper):Bool:=
 (List.range ops.size).all fun i=>match ops[i]? with
  |none=>true
  |some o=>o.after.toList.all (fun e=> !Region.binds .any e||decide (e.on<i))&& (List.range ops.size).all fun j=>match ops[j]? with
   |none=>true
   |some p=>pairB fs ops i j o p
structure Info where
 o:Oper
 want:Bool
 eff:Bool
 fr:Frm
 V:AV
 rank:Nat
def ECall (P:Program)(B:Nat)(f:FuncId)(args:List AV)(σ:Store)(V:AV)(σ':Store):Prop:=∀K:AV→Store→Prop,K V σ'→ACall P B f args σ K
def OpEx (P:Program)(B:Nat)(o:Oper)(ρ:Operand→AV)(σ:Store)(V:AV)(σ':Store):Prop:=
 match o.op with
 | .call {callee:=.value f,args,.. }=>match ρ f with
  | .fn (.func i) first cap=>(σ'=σ∧PureCall P B i (first++args.toList.map ρ++cap) V∧purs (first++args.toList.map ρ++cap))∨ECall P B i (first++args.toList.map ρ++cap) σ V σ'
  |_=>False
 |op=>aef P B op ρ σ fun r σ''=>r=V∧σ''=σ'
section
variable {P : Program} {B nb N : Nat} {fs : List FuncId}
theorem ρ_congr_list {ρ ρ':Operand→AV}{xs:Array Operand}(h:∀x,x∈xs→ρ x=ρ' x):xs.toList.map ρ=xs.toList.map ρ':=
 List.map_congr_left fun x hx=>h x (by simpa using hx)
theorem aef_congr {op:Op}{ρ ρ':Operand→AV}{σ:Store}{K:AV→Store→Prop}(h:∀x,x∈op.operands→ρ x=ρ' x)(hk:aef P B op ρ σ K):aef P B op ρ' σ K:=by
 unfold aef at hk ⊢
 split at hk
 ·next x=>rw[←h x (by simp[Op.operands])];exact hk
 ·next x=>rw[←h x (by simp[Op.operands])];exact hk
 ·next c a b=>rw[←h c (by simp[Op.operands]),←h a (by simp[Op.operands]),←h b (by simp[Op.operands])];exact hk
 ·exact hk
 ·next t x=>rw[←h x (by simp[Op.operands])];exact hk
 ·next t parts=>
  have:parts.toList.map (fun p=>(p.1,ρ p.2))=parts.toList.map (fun p=>(p.1,ρ' p.2)):=
   List.map_congr_left fun p hp=>by rw[h p.2 (by simp[Op.operands];exact⟨p.1,by simpa using hp⟩)]
  rw[←this];exact hk
 ·next t len parts=>
  have:parts.toList.map (fun p=>(p.1,ρ p.2))=parts.toList.map (fun p=>(p.1,ρ' p.2)):=
   List.map_congr_left fun p hp=>by rw[h p.2 (by simp[Op.operands];exact⟨p.1,by simpa using hp⟩)]
  rw[←this];exact hk
 ·next t x=>rw[←h x (by simp[Op.operands])];exact hk
 ·next t a x=>rw[←h a (by simp[Op.operands]),←h x (by simp[Op.operands])];exact hk
 ·next x=>rw[←h x (by simp[Op.operands])];exact hk
 ·next op t x y yt=>rw[←h x (by simp[Op.operands]),←h y (by simp[Op.operands])];exact hk
 ·next op t x=>rw[←h x (by simp[Op.operands])];exact hk
 ·next s d x=>rw[←h x (by simp[Op.operands])];exact hk
 ·next fn first cap=>
  rw[←ρ_congr_list (xs:=first) (fun x hx=>h x (by simp[Op.operands,hx])),←ρ_congr_list (xs:=cap) (fun x hx=>h x (by simp[Op.operands,hx]))];exact hk
 ·next t l c=>rw[←h l (by simp[Op.operands]),←h c (by simp[Op.operands])];exact hk
 ·next t x lo hi mx=>
  have e1:∀(o:Option Operand),(∀y,o=some y→y∈(Op.slice t x lo hi mx).operands)→o.map ρ=o.map ρ':=by
   intro o ho
   cases o with
   |none=>rfl
   |some y=>simp[h y (ho y rfl)]
  rw[←h x (by simp[Op.operands]),←e1 lo (by rintro y rfl;simp[Op.operands]),←e1 hi (by rintro y rfl;simp[Op.operands]),←e1 mx (by rintro y rfl;simp[Op.operands])]
  exact hk
 ·next t x f=>rw[←h x (by simp[Op.operands])];exact hk
 ·next t x i=>rw[←h x (by simp[Op.operands]),←h i (by simp[Op.operands])];exact hk
 ·next t x i=>rw[←h x (by simp[Op.operands]),←h i (by simp[Op.operands])];exact hk
 ·next x i=>rw[←h x (by simp[Op.operands])];exact hk
 ·next b args ts=>rw[←ρ_congr_list (xs:=args) (fun x hx=>h x (by simp[Op.operands,Call.operands,hx]))];exact hk
 ·exact hk.elim
theorem OpEx.congr {o:Oper}{ρ ρ':Operand→AV}{σ σ':Store}{V:AV}(h:∀x,x∈o.op.operands→ρ x=ρ' x)(hk:OpEx P B o ρ σ V σ'):OpEx P B o ρ' σ V σ':=by
 unfold OpEx at hk ⊢
 split at hk
 ·next f args ts ho=>
  rw[ho]at h
  rw[←h f (by simp[Op.operands,Call.operands]),←ρ_congr_list (xs:=args) (fun x hx=>h x (by simp[Op.operands,Call.operands,hx]))]
  exact hk
 ·exact aef_congr h hk
theorem OpEx.wp {m0:Map}{w0:World}{o:Oper}{st:ASt}{V:AV}{σ':Store}(hk:OpEx P B o (ev st.fr) st.σ V σ'){m:Map}{a:Act}{w:World}(h:ASim B nb N m0 w0 st m a w)
  (hd:∀d,o.dst=some d→d<N) {next:Act→World→Prop} {Q:Exit→Act→World→Prop}
  (hn:∀fr' m' a' w',(∀t,lk fr' t=if o.dst=some t then V else lk st.fr t)→ASim B nb N m0 w0 ⟨fr',σ'⟩ m' a' w'→next a' w'):o.wp P a w next Q:=by
 unfold OpEx at hk
 split at hk
 ·next f args ts ho=>
  have key:aop P B N o st (fun st'=>(∀t,lk st'.fr t=if o.dst=some t then V else lk st.fr t)∧st'.σ=σ'):=by
   have fin:putK N o.dst V st.fr σ' (fun st'=>(∀t,lk st'.fr t=if o.dst=some t then V else lk st.fr t)∧st'.σ=σ'):=by
    unfold putK
    cases hdst:o.dst with
    |none=>simp
    |some d=>simp[hd d hdst]
   unfold aop
   rw[ho]
   simp only[aCallV]
   split at hk
   ·next hf=>
    rw[hf]
    rcases hk with⟨rfl,hk⟩|hk
    ·exact PureCall.call hk.1 hk.2 fin
    ·exact hk _ fin
   ·exact hk.elim
  refine aop_sound key h fun st' m' a' w' hk' h'=> ?_
  obtain⟨fr',σ''⟩:=st'
  obtain⟨h1,rfl⟩:=hk'
  exact hn fr' m' a' w' h1 h'
 ·obtain⟨nx,u,r,σ1,m',w',hR,hnx,⟨rfl,rfl⟩,hs,hc,hf⟩:=aef_sound h.sim (RelO.of h.fr) hk
  have fin:putK N o.dst r st.fr σ1 (fun st'=>(∀t,lk st'.fr t=if o.dst=some t then r else lk st.fr t)∧st'.σ=σ1):=by
   unfold putK
   cases hdst:o.dst with
   |none=>simp
   |some d=>simp[hd d hdst]
  obtain⟨⟨fr',σ''⟩,⟨h1,rfl⟩,hsim⟩:=h.next fin hs hc hf
  unfold Oper.wp
  rw[hR]
  rcases hnx with rfl|⟨rfl,rfl⟩
  ·exact hn fr' _ _ _ h1 hsim
  ·exact hn fr' _ _ _ h1 hsim
def FrX (X:Nat→Prop)(fr0:Frm)(infos:List Info)(fr:Frm):Prop:=
 ∀t,(∀(j:Nat) (e:Info),infos[j]? =some e→X j→e.o.dst=some t→lk fr t=e.V)∧
  ((∀(j:Nat) (e:Info),infos[j]? =some e→X j→e.o.dst≠some t)→lk fr t=lk fr0 t)
structure PlanOk (fs:List FuncId)(P:Program)(B N:Nat)(ops:Array Oper)(fr0:Frm)(infos:List Info)(Sg:Nat→Store)(S:Nat):Prop where
 len:infos.length=ops.size
 op:∀(i:Nat) (e:Info),infos[i]? =some e→ops[i]? =some e.o
 dst:∀(i:Nat) (e:Info) d,infos[i]? =some e→e.o.dst=some d→d<N
 fr:∀(i:Nat) (e:Info),infos[i]? =some e→FrX (fun j=>j<i) fr0 infos e.fr
 guard:∀(i:Nat) (e:Info),infos[i]? =some e→match e.o.guard with
  |none=>e.want=true
  |some (j,want)=>∃d v,(ops[j]?).bind (·.dst)=some d∧lk e.fr d=.lit v∧e.want=(yb v==some want)
 no:∀(i:Nat) (e:Info),infos[i]? =some e→e.want=false→e.V=.lit undef
 pur:∀(i:Nat) (e:Info),infos[i]? =some e→e.want=true→e.eff=false→∀s,s≤S→
  (∀(j:Nat) (f:Info),infos[j]? =some f→f.eff=true→reachB ops i j=true→f.rank<s)→
  (∀(j:Nat) (f:Info),infos[j]? =some f→f.eff=true→reachB ops j i=true→s≤f.rank)→
  OpEx P B e.o (ev e.fr) (Sg s) e.V (Sg s)
 eff:∀(i:Nat) (e:Info),infos[i]? =some e→e.eff=true→e.rank<S∧isEff fs e.o.op=true∧(if e.want=true then OpEx P B e.o (ev e.fr) (Sg e.rank) e.V (Sg (e.rank+1))else Sg (e.rank+1)=Sg e.rank)
 ranks:∀r,r<S→∃(i:Nat) (e:Info),infos[i]? =some e∧e.eff=true∧e.rank=r
 mono:∀(i j:Nat) (e f:Info),infos[i]? =some e→infos[j]? =some f→e.eff=true→f.eff=true→i<j→e.rank<f.rank
theorem pair_spec {ops:Array Oper}(h:drawB fs ops=true){i j:Nat}{o p:Oper}(hi:ops[i]? =some o)(hj:ops[j]? =some p):
  (∀e∈o.after,Region.binds .any e=true→e.on<i)∧(i≠j→(∀d,o.dst=some d→p.dst≠some d)∧(∀d,p.dst=some d→d∈slots ops o→ordB ops i j o p=true)∧(isEff fs o.op=true→isEff fs p.op=true→ordB ops i j o p=true)):=by
 have hin:i<ops.size:=(Array.getElem?_eq_some_iff.1 hi).1
 have hjn:j<ops.size:=(Array.getElem?_eq_some_iff.1 hj).1
 unfold drawB at h
 have h1:=List.all_eq_true.1 h i (by simpa using hin)
 simp only[hi,Bool.and_eq_true]at h1
 obtain⟨h1,h2⟩:=h1
 have h3:=List.all_eq_true.1 h2 j (by simpa using hjn)
 simp only[hj]at h3
 refine⟨fun e he hb=>by have:=List.all_eq_true.1 h1 e (by simpa using he);simpa[hb]using this,fun hne=> ?_⟩
 unfold pairB at h3
 have hne':(i==j)=false:=by simpa using hne
 rw[hne',Bool.false_or,Bool.and_eq_true,Bool.and_eq_true]at h3
 obtain⟨⟨a1,a2⟩,a3⟩:=h3
 refine⟨fun d hd hp=> ?_,fun d hd hs=> ?_,fun e1 e2=> ?_⟩
 ·rw[hd,hp]at a1;simp at a1
 ·rw[hd]at a2;simpa[hs]using a2
 ·simpa[e1,e2]using a3
theorem mask_spec {D:List Nat}{j:Nat}:∀(l:List Edge),(l.foldr (maskE D) 0).testBit j=true→∃e∈l,Region.binds .any e=true∧(j=e.on∨(D.getD e.on 0).testBit j=true)
 | [],h=>by simp at h
 |e::r,h=>by
  have rest:(r.foldr (maskE D) 0).testBit j=true→∃e'∈e::r,Region.binds .any e'=true∧(j=e'.on∨(D.getD e'.on 0).testBit j=true):=fun h=>by
   obtain⟨e',h1,h2⟩:=mask_spec r h
   exact⟨e',List.mem_cons_of_mem _ h1,h2⟩
  simp only[List.foldr_cons]at h
  unfold maskE at h
  split at h
  ·next hb=>
   rw[Nat.testBit_or,Nat.testBit_or,Bool.or_eq_true,Bool.or_eq_true]at h
   rcases h with(h|h)|h
   ·exact rest h
   ·refine⟨e,List.mem_cons_self ..,hb,.inl ?_⟩
    rw[Nat.one_shiftLeft,Nat.testBit_two_pow]at h
    exact(of_decide_eq_true h).symm
   ·exact⟨e,List.mem_cons_self ..,hb,.inr h⟩
  ·exact rest h
theorem closA_pre :∀(l:List Oper) (D:List Nat) (k:Nat),k<D.length→(closA l D).getD k 0=D.getD k 0
 | [],D,k,_=>rfl
 |o::r,D,k,h=>by
  rw[closA,closA_pre r _ k (by simp;omega),List.getD_eq_getElem?_getD,List.getD_eq_getElem?_getD,List.getElem?_append_left h]
theorem closA_get :∀(l:List Oper) (D:List Nat) (t:Nat) (o:Oper),l[t]? =some o→∃D',(∀k,k<D.length+t→D'.getD k 0=(closA l D).getD k 0)∧(closA l D).getD (D.length+t) 0=maskOf o D'
 | [],D,t,o,h=>by simp at h
 |p::r,D,0,o,h=>by
  simp at h;subst h
  refine⟨D,fun k hk=>(closA_pre _ _ k (by simpa using hk)).symm,?_⟩
  rw[closA,closA_pre r _ _ (by simp)]
  simp[List.getD_eq_getElem?_getD]
 |p::r,D,t+1,o,h=>by
  obtain⟨D',h1,h2⟩:=closA_get r (D++[maskOf p D]) t o (by simpa using h)
  refine⟨D',fun k hk=> ?_,?_⟩
  ·rw[closA];exact h1 k (by simp;omega)
  ·rw[closA]
   have:D.length+(t+1)=(D++[maskOf p D]).length+t:=by simp;omega
   rw[this];exact h2
theorem reach_spec {ops:Array Oper}(hlow:∀(i:Nat) (o:Oper),ops[i]? =some o→∀e∈o.after,Region.binds .any e=true→e.on<i){i j:Nat}{o:Oper}(ho:ops[i]? =some o)(h:reachB ops i j=true):
  ∃e∈o.after,Region.binds .any e=true∧(j=e.on∨reachB ops e.on j=true):=by
 unfold reachB at h
 obtain⟨D',h1,h2⟩:=closA_get ops.toList [] i o (by simpa using ho)
 simp only[List.length_nil,Nat.zero_add]at h1 h2
 rw[h2]at h
 obtain⟨e,he,hb,hj⟩:=mask_spec _ h
 have he':e∈o.after:=by simpa using he
 refine⟨e,he',hb,hj.imp id fun hj=> ?_⟩
 rw[h1 e.on (hlow i o ho e he' hb)]at hj
 exact hj
theorem reach_listed {ops:Array Oper}(hlow:∀(i:Nat) (o:Oper),ops[i]? =some o→∀e∈o.after,Region.binds .any e=true→e.on<i){listed:Array Bool}(hsz:listed.size=ops.size)
  (hcl:∀(i:Nat) (o:Oper),ops[i]? =some o→listed.getD i true=true→∀e∈o.after,Region.binds .any e=true→listed.getD e.on false=true):
  ∀(n i j:Nat) (o:Oper),i<n→ops[i]? =some o→listed.getD i true=true→reachB ops i j=true→listed.getD j false=true
 |0,i,j,o,hn,_,_,_=>by omega
 |n+1,i,j,o,hn,ho,hl,h=>by
  obtain⟨e,he,hb,hj⟩:=reach_spec hlow ho h
  have h1:=hcl i o ho hl e he hb
  rcases hj with rfl|hj
  ·exact h1
  ·have hlt:=hlow i o ho e he hb
   have hin:i<ops.size:=(Array.getElem?_eq_some_iff.1 ho).1
   refine reach_listed hlow hsz hcl n e.on j _ (by omega) (Array.getElem?_eq_getElem (by omega)) ?_ hj
   have hs:e.on<listed.size:=by omega
   simp[hs]at h1 ⊢
   exact h1
theorem filter_lt {p q:Nat→Bool}{i:Nat}(hpq:∀x,q x=true→p x=true)(hp:p i=true)(hq:q i=false):∀l:List Nat,i∈l→(l.filter q).length<(l.filter p).length:=by
 have le:∀l:List Nat,(l.filter q).length≤(l.filter p).length:=by
  intro l
  induction l with
  |nil=>simp
  |cons a r ih=>
   by_cases h1:q a=true
   ·simp[h1,hpq a h1,ih]
   ·by_cases h2:p a=true
    ·simp[h1,h2];omega
    ·simp[h1,h2,ih]
 intro l
 induction l with
 |nil=>intro h;simp at h
 |cons a r ih=>
  intro h
  by_cases e:a=i
  ·subst e
   have:=le r
   simp[hp,hq];omega
  ·have hm:i∈r:=by
    rcases List.mem_cons.1 h with h|h
    ·exact absurd h.symm e
    ·exact h
   have:=ih hm
   by_cases h1:q a=true
   ·simp[h1,hpq a h1,this]
   ·by_cases h2:p a=true
    ·simp[h1,h2];omega
    ·simp[h1,h2,this]
theorem operand_slot {ops:Array Oper}{o:Oper}{t:Nat}(h:Operand.tmp t∈o.op.operands):t∈slots ops o:=by
 unfold slots
 refine List.mem_append_left _ (List.mem_filterMap.2 ⟨.tmp t,by simpa using h,rfl⟩)
theorem draw_core {ops:Array Oper}{fr0 frN:Frm}{infos:List Info}{Sg:Nat→Store}{S:Nat}(hd:drawB fs ops=true)(hp:PlanOk fs P B N ops fr0 infos Sg S)
  (hN:FrX (fun _=>True) fr0 infos frN) {K:ASt→Prop} (hK:K ⟨frN,Sg S⟩) {m0:Map} {w0:World} {Q:Exit→Act→World→Prop}
  (hn:∀st' m' a' w',K st'→ASim B nb N m0 w0 st' m' a' w'→Q .normal a' w'):
  ∀(fuel:Nat) (listed:Array Bool) (fr:Frm) (s:Nat) (m:Map) (a:Act) (w:World),listed.size=ops.size→
   ((List.range ops.size).filter fun i=> !listed.getD i true).length≤fuel→
   (∀(i:Nat) (o:Oper),ops[i]? =some o→listed.getD i true=true→∀e∈o.after,Region.binds .any e=true→listed.getD e.on false=true)→
   FrX (fun j=>listed.getD j true=true) fr0 infos fr→s≤S→
   (∀(j:Nat) (e:Info),infos[j]? =some e→e.eff=true→(listed.getD j true=true↔e.rank<s))→
   ASim B nb N m0 w0 ⟨fr,Sg s⟩ m a w→wpAny P .any ops Q fuel listed a w:=by
 have hlow:∀(i:Nat) (o:Oper),ops[i]? =some o→∀e∈o.after,Region.binds .any e=true→e.on<i:=fun i o ho=>(pair_spec hd ho ho).1
 have inB:∀{listed:Array Bool},listed.size=ops.size→∀{i:Nat} {o:Oper},ops[i]? =some o→∀b:Bool,listed.getD i true=listed.getD i b:=by
  intro listed hs i o hi b
  have:i<listed.size:=by rw[hs];exact(Array.getElem?_eq_some_iff.1 hi).1
  simp[this]
 have done:∀(listed:Array Bool) (fr:Frm) (s:Nat) (m:Map) (a:Act) (w:World),listed.size=ops.size→Region.ready .any ops listed=[]→
   FrX (fun j=>listed.getD j true=true) fr0 infos fr→s≤S→(∀(j:Nat) (e:Info),infos[j]? =some e→e.eff=true→(listed.getD j true=true↔e.rank<s))→
   ASim B nb N m0 w0 ⟨fr,Sg s⟩ m a w→Q .normal a w:=by
  intro listed fr s m a w hsz hr hfr hsS hst h
  have all:∀i,listed.getD i true=true:=by
   intro i
   induction i using Nat.strongRecOn with
   |_ i ih=>
    cases hl:listed.getD i true with
    |true=>rfl
    |false=>
     have hin:i<ops.size:=by
      rcases Nat.lt_or_ge i listed.size with h'|h'
      ·omega
      ·rw[Array.getD_eq_getD_getElem?,Array.getElem?_eq_none h']at hl;simp at hl
     have hio:ops[i]? =some ops[i]:=Array.getElem?_eq_getElem hin
     have:i∈Region.ready .any ops listed:=mem_ready.2 ⟨hl,ops[i],hio,fun e he hb=>by
      have hlt:=(pair_spec hd hio hio).1 e he hb
      have:=ih e.on hlt
      have heo:ops[e.on]? =some (ops[e.on]'(by omega)):=Array.getElem?_eq_getElem (by omega)
      rw[inB hsz heo false]at this;exact this⟩
     rw[hr]at this;simp at this
  have hs:s=S:=by
   rcases Nat.lt_or_ge s S with hlt|hge
   ·obtain⟨i,e,hi,he,hrk⟩:=hp.ranks s hlt
    have:=(hst i e hi he).1 (all i)
    omega
   ·omega
  subst hs
  refine hn ⟨frN,Sg s⟩ m a w hK ⟨h.sim,⟨h.fr.1,fun t=> ?_⟩,h.df,h.step,h.base,h.ok⟩
  have:lk frN t=lk fr t:=by
   by_cases hex:∃(j:Nat) (e:Info),infos[j]? =some e∧e.o.dst=some t
   ·obtain⟨j,e,hj,hdj⟩:=hex
    rw[(hN t).1 j e hj trivial hdj,(hfr t).1 j e hj (all j) hdj]
   ·have hno:∀(j:Nat) (e:Info),infos[j]? =some e→e.o.dst≠some t:=fun j e hj hdj=>hex ⟨j,e,hj,hdj⟩
    rw[(hN t).2 (fun j e hj _=>hno j e hj),(hfr t).2 (fun j e hj _=>hno j e hj)]
  show Conc B _ w m (lk frN t) _
  rw[this];exact h.fr.2 t
 intro fuel
 induction fuel with
 |zero=>
  intro listed fr s m a w hsz hcnt hcl hfr hsS hst h
  have hr:Region.ready .any ops listed=[]:=by
   apply List.eq_nil_iff_forall_not_mem.2
   intro i hi
   obtain⟨h0,o,ho,_⟩:=mem_ready.1 hi
   have hin:i<ops.size:=(Array.getElem?_eq_some_iff.1 ho).1
   have:i∈(List.range ops.size).filter fun i=> !listed.getD i true:=by
    rw[List.mem_filter];exact⟨by simpa using hin,by simp only[h0];rfl⟩
   rw[List.eq_nil_of_length_eq_zero (Nat.le_zero.1 hcnt)]at this
   simp at this
  exact⟨hr,done listed fr s m a w hsz hr hfr hsS hst h⟩
 |succ fuel ih=>
  intro listed fr s m a w hsz hcnt hcl hfr hsS hst h
  refine⟨fun hr=>done listed fr s m a w hsz hr hfr hsS hst h,fun i hi=> ?_⟩
  obtain⟨h0,o,ho,hall⟩:=mem_ready.1 hi
  have hin:i<ops.size:=(Array.getElem?_eq_some_iff.1 ho).1
  obtain⟨e,he⟩:∃e,infos[i]? =some e:=⟨infos[i]'(by rw[hp.len];exact hin),List.getElem?_eq_getElem (by rw[hp.len];exact hin)⟩
  have heo:e.o=o:=by have:=hp.op i e he;rw[ho]at this;exact(Option.some.inj this).symm
  subst heo
  have rdy:∀j,reachB ops i j=true→listed.getD j false=true:=fun j hj=>by
   obtain⟨ed,hed,hb,hj⟩:=reach_spec hlow ho hj
   have h1:=hall ed hed hb
   rcases hj with rfl|hj
   ·exact h1
   ·have hlt:=hlow i e.o ho ed hed hb
    have heo:ops[ed.on]? =some (ops[ed.on]'(by omega)):=Array.getElem?_eq_getElem (by omega)
    exact reach_listed hlow hsz hcl (ed.on+1) ed.on j _ (by omega) heo (by rw[inB hsz heo false];exact h1) hj
  -- the slots read as in the lexical order
  have agree:∀t,t∈slots ops e.o→lk fr t=lk e.fr t:=by
   intro t ht
   have hlex:=hp.fr i e he
   by_cases hex:∃(j:Nat) (f:Info),infos[j]? =some f∧f.o.dst=some t
   ·obtain⟨j,f,hj,hdj⟩:=hex
    have hjo:=hp.op j f hj
    have uniq:∀(j':Nat) (f':Info),infos[j']? =some f'→f'.o.dst=some t→j'=j:=by
     intro j' f' hj' hdj'
     apply Classical.byContradiction
     intro hne
     exact((pair_spec hd (hp.op j' f' hj') hjo).2 hne).1 t hdj' hdj
    by_cases hij:i=j
    ·subst hij
     rw[(hfr t).2 (fun j' f' hj' hx hdj'=>by rw[uniq j' f' hj' hdj',h0]at hx;cases hx),
      (hlex t).2 (fun j' f' hj' hx hdj'=>by rw[uniq j' f' hj' hdj']at hx;omega)]
    ·have hord:=((pair_spec hd ho hjo).2 hij).2.1 t hdj ht
     unfold ordB at hord
     split at hord
     ·next hlt=>
      have hl:=rdy j hord
      rw[←inB hsz hjo false]at hl
      rw[(hfr t).1 _ f hj hl hdj,(hlex t).1 _ f hj hlt hdj]
     ·next hge=>
      have hnl:listed.getD j true=false:=by
       cases hl:listed.getD j true with
       |false=>rfl
       |true=>
        have:=reach_listed hlow hsz hcl (j+1) j i f.o (by omega) hjo hl hord
        rw[←inB hsz ho false,h0]at this;cases this
      rw[(hfr t).2 (fun j' f' hj' hx hdj'=>by rw[uniq j' f' hj' hdj',hnl]at hx;cases hx),
       (hlex t).2 (fun j' f' hj' hx hdj'=>by rw[uniq j' f' hj' hdj']at hx;omega)]
   ·have hno:∀(j:Nat) (f:Info),infos[j]? =some f→f.o.dst≠some t:=fun j f hj hdj=>hex ⟨j,f,hj,hdj⟩
    rw[(hfr t).2 (fun j f hj _=>hno j f hj),(hlex t).2 (fun j f hj _=>hno j f hj)]
  have hrho:∀x,x∈e.o.op.operands→ev e.fr x=ev fr x:=by
   intro x hx
   cases x with
   |tmp t=>exact(agree t (operand_slot hx)).symm
   |_=>rfl
  -- one step on
  have next:∀(fr':Frm) (s':Nat) (m':Map) (a':Act) (w':World),(∀t,lk fr' t=if e.o.dst=some t then e.V else lk fr t)→s'≤S→
    (∀(j:Nat) (f:Info),infos[j]? =some f→f.eff=true→((listed.getD j true=true∨j=i)↔f.rank<s'))→ASim B nb N m0 w0 ⟨fr',Sg s'⟩ m' a' w'→
    wpAny P .any ops Q fuel (listed.setIfInBounds i true) a' w':=by
   intro fr' s' m' a' w' hlk hs' hst' h'
   have hset:∀j,(listed.setIfInBounds i true).getD j true=true↔(listed.getD j true=true∨j=i):=by
    intro j
    by_cases e:i=j
    ·subst e;simp[hsz,hin]
    ·rw[getD_set_ne true e];simp[Ne.symm e]
   refine ih (listed.setIfInBounds i true) fr' s' m' a' w' (by simpa using hsz) ?_ ?_ ?_ hs' (fun j f hj hf=>by rw[hset];exact hst' j f hj hf) h'
   ·have hlt:=filter_lt (p:=fun i=> !listed.getD i true) (q:=fun j=> !(listed.setIfInBounds i true).getD j true) (i:=i)
     (fun x hx=>by
      cases hl:listed.getD x true with
      |false=>rfl
      |true=>have:=(hset x).2 (.inl hl);rw[this]at hx;cases hx)
     (by simp only[h0];rfl) (by rw[(hset i).2 (.inr rfl)];rfl) (List.range ops.size) (by simpa using hin)
    exact Nat.le_of_lt_succ (Nat.lt_of_lt_of_le hlt hcnt)
   ·intro j o' hj hl ed hed hb
    rcases(hset j).1 hl with hl|rfl
    ·exact getD_set_true (hcl j o' hj hl ed hed hb)
    ·rw[ho]at hj;obtain rfl:=Option.some.inj hj
     exact getD_set_true (hall ed hed hb)
   ·intro t
    refine⟨fun j f hj hx hdj=> ?_,fun hno=> ?_⟩
    ·rw[hlk]
     rcases(hset j).1 hx with hx|rfl
     ·by_cases hdi:e.o.dst=some t
      ·by_cases hij:i=j
       ·subst hij;rw[he]at hj;obtain rfl:=Option.some.inj hj;rw[if_pos hdi]
       ·exact absurd hdj (((pair_spec hd ho (hp.op j f hj)).2 hij).1 t hdi)
      ·rw[if_neg hdi];exact(hfr t).1 j f hj hx hdj
     ·rw[he]at hj;obtain rfl:=Option.some.inj hj;rw[if_pos hdj]
    ·rw[hlk,if_neg (hno i e he ((hset i).2 (.inr rfl)))]
     exact(hfr t).2 fun j f hj hx=>hno j f hj ((hset j).2 (.inl hx))
  have stay:e.eff=false→∀(j:Nat) (f:Info),infos[j]? =some f→f.eff=true→((listed.getD j true=true∨j=i)↔f.rank<s):=by
   intro hne j f hj hf
   rw[←hst j f hj hf]
   refine⟨fun hx=>hx.elim id fun e'=> ?_,.inl⟩
   subst e';rw[he]at hj;obtain rfl:=Option.some.inj hj;rw[hne]at hf;cases hf
  have hwant:Region.wanted e.o (yielded ops a.tmps)=e.want:=by
   have hg:=hp.guard i e he
   unfold Region.wanted
   cases hgd:e.o.guard with
   |none=>rw[hgd]at hg;exact hg.symm
   |some g=>
    obtain⟨j,want⟩:=g
    rw[hgd]at hg
    obtain⟨d,b,h1,h2,h3⟩:=hg
    have hsl:d∈slots ops e.o:=by
     unfold slots;rw[hgd];exact List.mem_append_right _ (by show d∈((ops[j]?).bind (·.dst)).toList;rw[h1];simp)
    have hv:Conc B (Av m) w m (lk fr d) (a.tmps.getD d undef):=h.fr.2 d
    rw[agree d hsl,h2]at hv
    have:=yielded_of h1 (Conc.lit_inv hv)
    simp only[this,h3]
  unfold wpOp
  rw[ho]
  simp only[hwant]
  have ranked:e.eff=true→s=e.rank:=by
   intro hef
   obtain⟨hrS,hie,_⟩:=hp.eff i e he hef
   have h1:s≤e.rank:=by
    apply Classical.byContradiction
    intro hlt
    have:=(hst i e he hef).2 (by omega)
    rw[h0]at this;cases this
   rcases Nat.lt_or_ge s e.rank with hlt|hge
   ·obtain⟨j,f,hj,hf,hrk⟩:=hp.ranks s (by omega)
    have hji:j<i:=by
     rcases Nat.lt_trichotomy j i with h'|h'|h'
     ·exact h'
     ·subst h';rw[he]at hj;obtain rfl:=Option.some.inj hj;omega
     ·have:=hp.mono i j e f he hj hef hf h';omega
    have hfe:=(hp.eff j f hj hf).2.1
    have hord:=((pair_spec hd ho (hp.op j f hj)).2 (by omega)).2.2 hie hfe
    unfold ordB at hord
    rw[if_pos hji]at hord
    have hl:=rdy j hord
    rw[←inB hsz (hp.op _ f hj) false]at hl
    have:=(hst _ f hj hf).1 hl
    omega
   ·omega
  have up:e.eff=true→∀(j:Nat) (f:Info),infos[j]? =some f→f.eff=true→((listed.getD j true=true∨j=i)↔f.rank<e.rank+1):=by
   intro hef j f hj hf
   have hs:=ranked hef
   subst hs
   constructor
   ·rintro(hl|rfl)
    ·have:=(hst j f hj hf).1 hl;omega
    ·rw[he]at hj;obtain rfl:=Option.some.inj hj;omega
   ·intro hlt
    rcases Nat.lt_or_ge f.rank e.rank with h'|h'
    ·exact .inl ((hst j f hj hf).2 h')
    ·right
     rcases Nat.lt_trichotomy j i with h''|h''|h''
     ·have:=hp.mono j i f e hj he hf hef h'';omega
     ·exact h''
     ·have:=hp.mono i j e f he hj hef hf h'';omega
  cases hw:e.want with
  |false=>
   have hV:=hp.no i e he hw
   simp only[Bool.false_eq_true,if_false]
   have fin:putK N e.o.dst (.lit undef) fr (Sg s) (fun st'=>(∀t,lk st'.fr t=if e.o.dst=some t then e.V else lk fr t)∧st'.σ=Sg s):=by
    unfold putK
    cases hdst:e.o.dst with
    |none=>simp
    |some d=>simp[hp.dst i e d he hdst,hV]
   obtain⟨⟨fr',σ'⟩,⟨h1,rfl⟩,hsim⟩:=h.next fin h.sim (.lit undef) (Fr.refl m w)
   cases hef:e.eff with
   |false=>exact next fr' s m _ w h1 hsS (stay hef) hsim
   |true=>
    obtain⟨hrS,_,hx⟩:=hp.eff i e he hef
    rw[if_neg (by simp[hw])]at hx
    have hs:=ranked hef
    subst hs
    exact next fr' (e.rank+1) m _ w h1 hrS (up hef) (by rw[hx];exact hsim)
  |true=>
   simp only[if_true]
   left
   cases hef:e.eff with
   |false=>
    have hx:=hp.pur i e he hw hef s hsS
     (fun j f hj hf hed=>by
      have hl:=rdy j hed
      rw[←inB hsz (hp.op _ f hj) false]at hl
      exact(hst _ f hj hf).1 hl)
     (fun j f hj hf hed=>by
      apply Classical.byContradiction
      intro hlt
      have hl:=(hst j f hj hf).2 (by omega)
      have:=reach_listed hlow hsz hcl (j+1) j i f.o (by omega) (hp.op j f hj) hl hed
      rw[←inB hsz ho false,h0]at this;cases this)
    have hx':=OpEx.congr (ρ':=ev fr) hrho hx
    exact OpEx.wp (st:=⟨fr,Sg s⟩) hx' h (fun d hdst=>hp.dst i e d he hdst) fun fr' m' a' w' h1 h2=>next fr' s m' a' w' h1 hsS (stay hef) h2
   |true=>
    obtain⟨hrS,hie,hx⟩:=hp.eff i e he hef
    rw[if_pos hw]at hx
    have hs:=ranked hef
    subst hs
    have hx':=OpEx.congr (ρ':=ev fr) hrho hx
    exact OpEx.wp (st:=⟨fr,Sg e.rank⟩) hx' h (fun d hdst=>hp.dst i e d he hdst) fun fr' m' a' w' h1 h2=>next fr' (e.rank+1) m' a' w' h1 hrS (up hef) h2
end
end Go.Vl
