/- Part. -/
import Derived.Test.YtmjpphcloedceaaGreatVlPoint
set_option linter.all false
open List renaming getD_eq_getElem?_getD->zA,getElem?_eq_some_iff->zB,getElem?_append_left->zC,getElem?_eq_getElem->zD,length_append->zE,filter_cons_of_pos->zF,take_succ_cons->zG,length_reverse->zH,range->zI,filter_cons_of_neg->zJ,reverse_append->zK,filter_append->zL,any_eq_true->zM,all_eq_true->zN,mem_map->zO
open Array renaming getElem?_eq_some_iff->zP,getElem?_toList->zQ
open Bool renaming and_eq_true->zR,false_eq_true->zS,or_eq_true->zT
open Option.some renaming injEq->zU,inj->zV
namespace Go.Vl
open Go Go.RowKit
open AV renaming pure->zW
open Go.Op renaming operands->zX
attribute [local simp] lk ZAL ev ZBR AV.adv Sh.isAgg
def ZEX (P:Program)(B:Nat)(f:FuncId)(args:List AV)(K:AV->Prop):Prop:=∃r,PureCall P B f args r/\ZEf args/\K r
def PCall (P:Program)(B:Nat)(f:AV)(args:List AV)(K:AV->Prop):Prop:=
 match f with
 | .fn (.func i) first cap=>ZEX P B i (first++args++cap) K
 |_=>False
def Zl (d:Option Nat)(r:AV)(fr:Frm):Frm:=
 match d with
 |some d=>(d,r)::fr
 |none=>fr
def dOk (N:Nat)(d:Option Nat):Prop:=
 match d with
 |some d=>d<N
 |none=>True
def ZS (fs:List FuncId)(op:Op):Bool:= !ZO fs op&& match op with
 | .call {callee:=.value _,.. }=>true
 |_=>false
def ECallA (P:Program)(B:Nat)(f:FuncId)(args:List AV)(σ:ZE)(K:AV->ZE->Prop):Prop:=∃r σ',ZOt P B f args σ r σ'/\K r σ'
def ZBE (P:Program)(B:Nat)(f:AV)(args:List AV)(σ:ZE)(K:AV->ZE->Prop):Prop:=
 match f with
 | .fn (.func i) first cap=>ECallA P B i (first++args++cap) σ K
 |_=>False
def effCnt (fs:List FuncId)(l:List Oper):Nat:=(l.filter fun o=>ZO fs o.op).length
def aD (fs:List FuncId)(P:Program)(B N:Nat)(ops:Array Oper):List Oper->Frm->List Info->List ZE->(List Info->List ZE->Frm->Prop)->Prop
 | [],fr,acc,ss,K=>K acc ss fr
 |o::rest,fr,acc,ss,K=>ZAX ops fr o.guard
   (match o.op with
    | .call {callee:=.value f,args,.. }=>if ZO fs o.op=true then ZBE P B (ev fr f) (args.toList.map (ev fr)) (ss.headD []) fun r σ'=>dOk N o.dst/\aD fs P B N ops rest (Zl o.dst r fr) (⟨o,true,true,fr,r,ss.length-1⟩::acc) (σ'::ss) K
      else PCall P B (ev fr f) (args.toList.map (ev fr)) fun r=>dOk N o.dst/\aD fs P B N ops rest (Zl o.dst r fr) (⟨o,true,false,fr,r,0⟩::acc) ss K
    |op=>aef P B op (ev fr) (ss.headD []) fun r σ'=>dOk N o.dst/\
      if ZO fs o.op=true then aD fs P B N ops rest (Zl o.dst r fr) (⟨o,true,true,fr,r,ss.length-1⟩::acc) (σ'::ss) K
      else σ'=ss.headD []/\aD fs P B N ops rest (Zl o.dst r fr) (⟨o,true,false,fr,r,ss.length-1⟩::acc) ss K)
   (dOk N o.dst/\if ZO fs o.op=true then aD fs P B N ops rest (Zl o.dst (.lit undef) fr) (⟨o,false,true,fr,.lit undef,ss.length-1⟩::acc) (ss.headD []::ss) K
    else aD fs P B N ops rest (Zl o.dst (.lit undef) fr) (⟨o,false,false,fr,.lit undef,0⟩::acc) ss K)
def ZDJ (fs:List FuncId)(ops:Array Oper)(i:Nat)(o:Oper)(lo hi:Nat):Bool:=
 (lo==0||(zI ops.size).any fun j=>match ops[j]? with
  |some p=>ZO fs p.op&& Zh ops i j&& decide (lo<=effCnt fs (ops.toList.take j)+1)
  |none=>false)&&
 (decide (effCnt fs ops.toList<=hi)||(zI ops.size).any fun j=>match ops[j]? with
  |some p=>ZO fs p.op&& Zh ops j i&& decide (effCnt fs (ops.toList.take j)<=hi)
  |none=>false)
def ZIa (fs:List FuncId)(ops:Array Oper)(tab:List (Nat×Nat)):Bool:=
 decide (tab.length=ops.size)&& (zI ops.size).all fun i=>match ops[i]?,tab[i]? with
  |some o,some t=>ZDJ fs ops i o t.1 t.2
  |_,_=>true
section
variable {P : Program} {B nb N : Nat} {fs : List FuncId}
theorem ZGq (l:List Oper)(o:Oper):effCnt fs (l++[o])=effCnt fs l+if ZO fs o.op=true then 1 else 0:=by
 unfold effCnt
 rw[zL,zE]
 congr 1
 by_cases h:ZO fs o.op=true<;>simp[h]
structure Lex (fs:List FuncId)(P:Program)(B N:Nat)(ops:Array Oper)(xc:Nat)(fr0:Frm)(infos:List Info)(fr:Frm)(ss:List ZE):Prop where
 len:infos.length<=ops.size
 op:∀(i:Nat) (e:Info),infos[i]? =some e->ops[i]? =some e.o
 dst:∀(i:Nat) (e:Info),infos[i]? =some e->dOk N e.o.dst
 lex:∀(i:Nat) (e:Info),infos[i]? =some e->FrX (fun j=>j<i) fr0 infos e.fr
 guard:∀(i:Nat) (e:Info),infos[i]? =some e->match e.o.guard with
  |none=>e.want=true
  |some (j,want)=>∃d v,(ops[j]?).bind (·.dst)=some d/\lk e.fr d=.lit v/\e.want=(yb v==some want)
 no:∀(i:Nat) (e:Info),infos[i]? =some e->e.want=false->e.V=.lit undef/\(e.eff=true->e.rank+1<ss.length/\ss.reverse.getD (e.rank+1) []=ss.reverse.getD e.rank [])
 eff:∀(i:Nat) (e:Info),infos[i]? =some e->e.eff=ZO fs e.o.op
 rank:∀(i:Nat) (e:Info),infos[i]? =some e->e.want=true∨e.eff=true->ZS fs e.o.op=false->e.rank=effCnt fs (ops.toList.take i)
 call:∀(i:Nat) (e:Info),infos[i]? =some e->e.want=true->ZS fs e.o.op=true->∀σ,OpEx P B e.o (ev e.fr) σ e.V σ
 ex:∀(i:Nat) (e:Info),infos[i]? =some e->i≠xc->e.want=true->ZS fs e.o.op=false->e.rank+(if e.eff=true then 1 else 0)<ss.length/\
  OpEx P B e.o (ev e.fr) (ss.reverse.getD e.rank []) e.V (ss.reverse.getD (if e.eff=true then e.rank+1 else e.rank) [])
 cur:FrX (fun _=>True) fr0 infos fr
 st:ss.length=effCnt fs (ops.toList.take infos.length)+1
variable {fr0 fr:Frm}{infos:List Info}
theorem FrX.more {X:Nat->Prop}{more:List Info}(h:FrX X fr0 infos fr)(hX:∀j,X j->j<infos.length):FrX X fr0 (infos++more) fr:=by
 intro t
 refine⟨fun j e hj hx hd=>(h t).1 j e (by rwa[zC (hX j hx)]at hj) hx hd,fun hno=>(h t).2 fun j e hj hx=>hno j e (by rw[zC (hX j hx)];exact hj) hx⟩
variable {ops:Array Oper}{o:Oper}{V:AV}
theorem Lex.snoc {xc:Nat}(hd:ZAZ fs ops=true){ss ss':List ZE}(h:Lex fs P B N ops xc fr0 infos fr ss)(ho:ops[infos.length]? =some o)(hdst:dOk N o.dst){want eff:Bool}{rank:Nat}(hguard:match o.guard with
   |none=>want=true
   |some (j,w)=>∃d v,(ops[j]?).bind (·.dst)=some d/\lk fr d=.lit v/\want=(yb v==some w))(hno:want=false->V=.lit undef/\(eff=true->rank+1<ss'.length/\ss'.reverse.getD (rank+1) []=ss'.reverse.getD rank []))(heff:eff=ZO fs o.op)(hrank:want=true∨eff=true->ZS fs o.op=false->rank=ss.length-1)(hcall:want=true->ZS fs o.op=true->∀σ,OpEx P B o (ev fr) σ V σ)(hst:ss'.length=ss.length+if eff=true then 1 else 0)(hmore:∃m,ss'=m++ss)(hex:infos.length≠xc->want=true->ZS fs o.op=false->rank+(if eff=true then 1 else 0)<ss'.length/\OpEx P B o (ev fr) (ss'.reverse.getD rank []) V (ss'.reverse.getD (if eff=true then rank+1 else rank) [])):
  Lex fs P B N ops xc fr0 (infos++[⟨o,want,eff,fr,V,rank⟩]) (Zl o.dst V fr) ss':=by
 have hlt:infos.length<ops.size:=(zP.1 ho).1
 have cases':∀{i:Nat} {e:Info},(infos++[⟨o,want,eff,fr,V,rank⟩])[i]? =some e->infos[i]? =some e∨(i=infos.length/\e=⟨o,want,eff,fr,V,rank⟩):=by
  intro i e hi
  by_cases h':i<infos.length
  ·rw[zC h']at hi;exact .inl hi
  ·rw[List.getElem?_append_right (by omega)]at hi
   have:i-infos.length=0:=by
    rcases Nat.eq_zero_or_pos (i-infos.length)with h0|h0
    ·exact h0
    ·rw[List.getElem?_eq_none (by simp;omega)]at hi;cases hi
   rw[this]at hi
   simp at hi
   exact .inr ⟨by omega,hi.symm⟩
 have old:∀k,k<ss.length->ss'.reverse.getD k []=ss.reverse.getD k []:=by
  obtain⟨m,rfl⟩:=hmore
  intro k hk
  rw[zK,zA,zC (by simpa using hk),←zA]
 have hll:ss.length<=ss'.length:=by omega
 have htake:ops.toList.take (infos.length+1)=ops.toList.take infos.length++[o]:=by
  rw[List.take_add_one]
  have:ops.toList[infos.length]? =some o:=by rw[zQ];exact ho
  rw[this];rfl
 refine⟨by simp;omega,?_,?_,?_,?_,?_,?_,?_,?_,?_,?_,?_⟩
 ·intro i e hi
  rcases cases' hi with hi|⟨rfl,rfl⟩
  ·exact h.op i e hi
  ·exact ho
 ·intro i e hi
  rcases cases' hi with hi|⟨rfl,rfl⟩
  ·exact h.dst i e hi
  ·exact hdst
 ·intro i e hi
  rcases cases' hi with hi|⟨rfl,rfl⟩
  ·have hil:=(zB.1 hi).1
   exact(h.lex i e hi).more fun j hj=>by omega
  ·refine FrX.more (X:=fun j=>j<infos.length) ?_ (fun j hj=>hj)
   intro t
   refine⟨fun j e hj _ hdj=>(h.cur t).1 j e hj trivial hdj,fun hno'=>(h.cur t).2 fun j e hj _=>hno' j e hj (zB.1 hj).1⟩
 ·intro i e hi
  rcases cases' hi with hi|⟨rfl,rfl⟩
  ·exact h.guard i e hi
  ·exact hguard
 ·intro i e hi
  rcases cases' hi with hi|⟨rfl,rfl⟩
  ·intro hw
   refine⟨(h.no i e hi hw).1,fun he=> ?_⟩
   obtain⟨h1,h2⟩:=(h.no i e hi hw).2 he
   exact⟨by omega,by rw[old _ (by omega),old _ (by omega),h2]⟩
  ·exact hno
 ·intro i e hi
  rcases cases' hi with hi|⟨rfl,rfl⟩
  ·exact h.eff i e hi
  ·exact heff
 ·intro i e hi
  rcases cases' hi with hi|⟨rfl,rfl⟩
  ·exact h.rank i e hi
  ·intro hw hc;simp only at hw hc ⊢;rw[hrank hw hc,h.st];omega
 ·intro i e hi
  rcases cases' hi with hi|⟨rfl,rfl⟩
  ·exact h.call i e hi
  ·exact hcall
 ·intro i e hi hxc hw hc
  rcases cases' hi with hi|⟨rfl,rfl⟩
  ·obtain⟨h1,h2⟩:=h.ex i e hi hxc hw hc
   obtain⟨m,rfl⟩:=hmore
   have g:∀k,k<ss.length->(m++ss).reverse.getD k []=ss.reverse.getD k []:=by
    intro k hk
    rw[zK,zA,zC (by simpa using hk),←zA]
   refine⟨by rw[zE];omega,?_⟩
   rw[g _ (by omega),g _ (by cases hee:e.eff<;>rw[hee]at h1<;>simp at h1 ⊢<;>omega)]
   exact h2
  ·exact hex hxc hw hc
 ·intro t
  have lkp:lk (Zl o.dst V fr) t=if o.dst=some t then V else lk fr t:=by
   unfold Zl
   cases hdo:o.dst with
   |none=>simp
   |some d=>simp[lk]
  refine⟨fun j e hj _ hdj=> ?_,fun hno'=> ?_⟩
  ·rw[lkp]
   rcases cases' hj with hj|⟨rfl,rfl⟩
   ·have hjl:=(zB.1 hj).1
    rw[iN fun he=>((Zd hd ho (h.op j e hj)).2 (by omega)).1 t he hdj]
    exact(h.cur t).1 j e hj trivial hdj
   ·rw[iP hdj]
  ·rw[lkp,iN (hno' infos.length ⟨o,want,eff,fr,V,rank⟩ (by simp) trivial)]
   exact(h.cur t).2 fun j e hj _=>hno' j e (by rw[zC (zB.1 hj).1];exact hj) trivial
 ·rw[hst,h.st,zE,List.length_singleton,htake,ZGq,heff];omega
theorem ZBC {ops:Array Oper}{xc:Nat}(post:List Oper)(hd:ZAZ fs ops=true){fr0:Frm}{K:List Info->List ZE->Frm->Prop}:
  ∀(rest:List Oper) (fr:Frm) (acc:List Info) (ss:List ZE),aD fs P B N ops rest fr acc ss K->ops.toList.drop acc.length=rest++post->Lex fs P B N ops xc fr0 acc.reverse fr ss->
   ∃acc' ss' fr',K acc' ss' fr'/\Lex fs P B N ops xc fr0 acc'.reverse fr' ss'/\acc'.length+post.length=ops.size/\(∃m,ss'=m++ss)/\(∃k,acc'=k++acc)
 | [],fr,acc,ss,hk,hdrop,hl=>by
  refine⟨acc,ss,fr,hk,hl,?_,⟨[],rfl⟩,⟨[],rfl⟩⟩
  have h1:=hl.len
  have h2:=congrArg List.length hdrop
  simp at h1 h2;omega
 |o::rest,fr,acc,ss,hk,hdrop,hl=>by
  have ho:ops[acc.reverse.length]? =some o:=by
   have:ops.toList[acc.length]? =some o:=by
    have:=congrArg (fun l=>l[0]?) hdrop
    simpa using this
   rw[zH,←zQ];exact this
  have hdrop':∀e:Info,ops.toList.drop (e::acc).length=rest++post:=by
   intro e
   have:=congrArg List.tail hdrop
   simpa using this
  have hgo:∀(want eff:Bool) (V:AV) (rank:Nat) (ss':List ZE),(∃m,ss'=m++ss)->Lex fs P B N ops xc fr0 (acc.reverse++[⟨o,want,eff,fr,V,rank⟩]) (Zl o.dst V fr) ss'->
    aD fs P B N ops rest (Zl o.dst V fr) (⟨o,want,eff,fr,V,rank⟩::acc) ss' K->
    ∃acc' ss' fr',K acc' ss' fr'/\Lex fs P B N ops xc fr0 acc'.reverse fr' ss'/\acc'.length+post.length=ops.size/\(∃m,ss'=m++ss)/\(∃k,acc'=k++acc):=by
   intro want eff V rank ss' hm hl' hk'
   obtain⟨acc',ss2,fr',h1,h2,h3,⟨m2,h4⟩,⟨k2,h5⟩⟩:=ZBC post hd rest _ _ ss' hk' (hdrop' _) (by simpa using hl')
   obtain⟨m,hm⟩:=hm
   exact⟨acc',ss2,fr',h1,h2,h3,⟨m2++m,by rw[h4,hm,List.append_assoc]⟩,⟨k2++[⟨o,want,eff,fr,V,rank⟩],by rw[h5];simp⟩⟩
  -- the operation runs
  have yes:(match o.op with
    | .call {callee:=.value f,args,.. }=>if ZO fs o.op=true then ZBE P B (ev fr f) (args.toList.map (ev fr)) (ss.headD []) fun r σ'=>dOk N o.dst/\aD fs P B N ops rest (Zl o.dst r fr) (⟨o,true,true,fr,r,ss.length-1⟩::acc) (σ'::ss) K
      else PCall P B (ev fr f) (args.toList.map (ev fr)) fun r=>dOk N o.dst/\aD fs P B N ops rest (Zl o.dst r fr) (⟨o,true,false,fr,r,0⟩::acc) ss K
    |op=>aef P B op (ev fr) (ss.headD []) fun r σ'=>dOk N o.dst/\
      if ZO fs o.op=true then aD fs P B N ops rest (Zl o.dst r fr) (⟨o,true,true,fr,r,ss.length-1⟩::acc) (σ'::ss) K
      else σ'=ss.headD []/\aD fs P B N ops rest (Zl o.dst r fr) (⟨o,true,false,fr,r,ss.length-1⟩::acc) ss K)->
    (match o.guard with
     |none=>true=true
     |some (j,w)=>∃d v,(ops[j]?).bind (·.dst)=some d/\lk fr d=.lit v/\true=(yb v==some w))->
    ∃acc' ss' fr',K acc' ss' fr'/\Lex fs P B N ops xc fr0 acc'.reverse fr' ss'/\acc'.length+post.length=ops.size/\(∃m,ss'=m++ss)/\(∃k,acc'=k++acc):=by
   intro hk hgd
   have hss:0<ss.length:=by rw[hl.st];omega
   obtain⟨s0,sr,rfl⟩:∃s0 sr,ss=s0::sr:=by cases ss with
    |nil=>simp at hss
    |cons a b=>exact⟨a,b,rfl⟩
   split at hk
   ·next f args ts hop=>
    split at hk
    ·next hie=>
     unfold ZBE at hk
     split at hk
     ·next i first cap hf=>
      obtain⟨r,σ',hE,hdst,hk⟩:=hk
      have hcall:ZS fs o.op=false:=by unfold ZS;rw[hie];rfl
      refine hgo true true r _ (σ'::s0::sr) ⟨[σ'],rfl⟩ (hl.snoc hd ho hdst hgd (fun h=>by cases h) hie.symm (fun _ _=>rfl) (fun _ hc=>by rw[hcall]at hc;cases hc) (by simp) ⟨[σ'],rfl⟩ (fun _ _ _=> ?_)) hk
      refine⟨by simp,?_⟩
      have e1:(σ'::s0::sr).reverse.getD ((s0::sr).length-1) []=s0:=by simp[zA]
      have e2:(σ'::s0::sr).reverse.getD (if true=true then(s0::sr).length-1+1 else(s0::sr).length-1) []=σ':=by
       simp[zA]
      rw[e1,e2]
      unfold OpEx
      rw[hop]
      simp only[hf]
      exact .inr hE
     ·exact hk.elim
    ·next hie=>
     have hie':ZO fs o.op=false:=by simpa using hie
     unfold PCall at hk
     split at hk
     ·next i first cap hf=>
      obtain⟨r,hpc,hpu,hdst,hk⟩:=hk
      have hcall:ZS fs o.op=true:=by unfold ZS;rw[hie',hop];rfl
      refine hgo true false r 0 _ ⟨[],rfl⟩ (hl.snoc hd ho hdst hgd (fun h=>by cases h) hie'.symm (fun _ hc=>by rw[hcall]at hc;cases hc) (fun _ _ σ=> ?_) (by simp) ⟨[],rfl⟩ (fun _ _ hc=>by rw[hcall]at hc;cases hc)) hk
      unfold OpEx
      rw[hop]
      simp only[hf]
      exact .inl ⟨trivial,hpc,hpu⟩
     ·exact hk.elim
   ·next op hnc=>
    have hcall:ZS fs o.op=false:=by
     cases hc:ZS fs o.op with
     |false=>rfl
     |true=>
      unfold ZS at hc
      rw[zR]at hc
      have hc:=hc.2
      split at hc
      ·next h=>exact absurd h (by intro h;exact hnc _ _ _ h)
      ·cases hc
    obtain⟨r,σ',⟨hdst,hk⟩,hex⟩:=ZDQ P B o.op (ev fr) ((s0::sr).headD []) _ hk
    have hop:OpEx P B o (ev fr) s0 r σ':=by
     unfold OpEx
     split
     ·next f args ts h=>exact absurd h (by intro h;exact hnc _ _ _ h)
     ·exact hex (fun r' s'=>r'=r/\s'=σ') ⟨rfl,rfl⟩
    have hrev:∀(l:List ZE),(s0::sr).reverse.getD sr.length []=s0:=by intro _;simp[zA]
    split at hk
    ·next hie=>
     refine hgo true true r _ (σ'::s0::sr) ⟨[σ'],rfl⟩ (hl.snoc hd ho hdst hgd (fun h=>by cases h) hie.symm (fun _ _=>rfl) (fun _ hc=>by rw[hcall]at hc;cases hc) (by simp) ⟨[σ'],rfl⟩ (fun _ _ _=> ?_)) hk
     refine⟨by simp,?_⟩
     have e1:(σ'::s0::sr).reverse.getD ((s0::sr).length-1) []=s0:=by simp[zA]
     have e2:(σ'::s0::sr).reverse.getD (if true=true then(s0::sr).length-1+1 else(s0::sr).length-1) []=σ':=by
      simp[zA]
     rw[e1,e2];exact hop
    ·next hie=>
     obtain⟨hσ,hk⟩:=hk
     have hσ':σ'=s0:=hσ
     subst hσ'
     refine hgo true false r _ (σ'::sr) ⟨[],rfl⟩ (hl.snoc hd ho hdst hgd (fun h=>by cases h) (by simpa using hie) (fun _ _=>rfl) (fun _ hc=>by rw[hcall]at hc;cases hc) (by simp) ⟨[],rfl⟩ (fun _ _ _=> ?_)) hk
     refine⟨by simp,?_⟩
     have e1:(σ'::sr).reverse.getD ((σ'::sr).length-1) []=σ':=by simp[zA]
     simp only[zS,if_false]
     rw[e1];exact hop
  have noo:(dOk N o.dst/\if ZO fs o.op=true then aD fs P B N ops rest (Zl o.dst (.lit undef) fr) (⟨o,false,true,fr,.lit undef,ss.length-1⟩::acc) (ss.headD []::ss) K
    else aD fs P B N ops rest (Zl o.dst (.lit undef) fr) (⟨o,false,false,fr,.lit undef,0⟩::acc) ss K)->
    (match o.guard with
     |none=>false=true
     |some (j,w)=>∃d v,(ops[j]?).bind (·.dst)=some d/\lk fr d=.lit v/\false=(yb v==some w))->
    ∃acc' ss' fr',K acc' ss' fr'/\Lex fs P B N ops xc fr0 acc'.reverse fr' ss'/\acc'.length+post.length=ops.size/\(∃m,ss'=m++ss)/\(∃k,acc'=k++acc):=by
   rintro⟨hdst,hk⟩ hgd
   split at hk
   ·next hie=>
    have hss:0<ss.length:=by rw[hl.st];omega
    refine hgo false true (.lit undef) _ (ss.headD []::ss) ⟨[ss.headD []],rfl⟩ (hl.snoc hd ho hdst hgd (fun _=>⟨rfl,fun _=> ?_⟩) hie.symm (fun _ _=>rfl) (fun h=>by cases h) (by simp) ⟨[ss.headD []],rfl⟩ (fun _ h=>by cases h)) hk
    obtain⟨s0,sr,rfl⟩:∃s0 sr,ss=s0::sr:=by cases ss with
     |nil=>simp at hss
     |cons a b=>exact⟨a,b,rfl⟩
    refine⟨by simp,?_⟩
    simp[zA]
   ·next hie=>
    exact hgo false false (.lit undef) 0 ss ⟨[],rfl⟩ (hl.snoc hd ho hdst hgd (fun _=>⟨rfl,fun h=>by cases h⟩) (by simpa using hie) (fun h=>h.elim (fun h=>by cases h) (fun h=>by cases h)) (fun h=>by cases h) (by simp) ⟨[],rfl⟩ (fun _ h=>by cases h)) hk
  simp only[aD,ZAX]at hk
  split at hk
  ·next hgd=>exact yes hk (by rw[hgd])
  ·next j want hgd=>
   split at hk
   ·next d hdd=>
    split at hk
    ·next b hb=>
     split at hk
     ·next hbw=>exact yes hk (by rw[hgd];exact⟨d,b,hdd,hb,by simp[hbw]⟩)
     ·next hbw=>exact noo hk (by rw[hgd];exact⟨d,b,hdd,hb,by simp[hbw]⟩)
    ·exact hk.elim
   ·exact hk.elim
theorem ZLI {xc:Nat}(hd:ZAZ fs ops=true){K:List Info->List ZE->Frm->Prop}(rest:List Oper)(fr:Frm)(acc:List Info)(ss:List ZE)(h:aD fs P B N ops rest fr acc ss K)(h1:ops.toList.drop acc.length=rest)(h2:Lex fs P B N ops xc fr0 acc.reverse fr ss):
  ∃acc' ss' fr',K acc' ss' fr'/\Lex fs P B N ops xc fr0 acc'.reverse fr' ss'/\acc'.length=ops.size/\(∃m,ss'=m++ss):=by
 obtain⟨acc',ss',fr',q1,q2,q3,q4,_⟩:=ZBC [] hd rest fr acc ss h (by simpa using h1) h2
 exact⟨acc',ss',fr',q1,q2,by simpa using q3,q4⟩
theorem ZEA {i:Nat}{lo hi:Nat}(h:ZDJ fs ops i o lo hi=true):
  (lo=0∨∃(j:Nat) (p:Oper),ops[j]? =some p/\ZO fs p.op=true/\Zh ops i j=true/\lo<=effCnt fs (ops.toList.take j)+1)/\
  (effCnt fs ops.toList<=hi∨∃(j:Nat) (p:Oper),ops[j]? =some p/\ZO fs p.op=true/\Zh ops j i=true/\effCnt fs (ops.toList.take j)<=hi):=by
 unfold ZDJ at h
 rw[zR,zT,zT]at h
 obtain⟨h1,h2⟩:=h
 constructor
 ·rcases h1 with h1|h1
  ·exact .inl (by simpa using h1)
  ·right
   obtain⟨j,_,hj⟩:=zM.1 h1
   split at hj
   ·next p hp=>simp only[zR,decide_eq_true_eq]at hj;exact⟨j,p,hp,hj.1.1,hj.1.2,hj.2⟩
   ·cases hj
 ·rcases h2 with h2|h2
  ·exact .inl (by simpa using h2)
  ·right
   obtain⟨j,_,hj⟩:=zM.1 h2
   split at hj
   ·next p hp=>simp only[zR,decide_eq_true_eq]at hj;exact⟨j,p,hp,hj.1.1,hj.1.2,hj.2⟩
   ·cases hj
theorem ZB8 (l:List Oper):∀{i j:Nat} {o:Oper},i<j->l[i]? =some o->ZO fs o.op=true->effCnt fs (l.take i)<effCnt fs (l.take j):=by
 intro i j o hij hi he
 have h1:l.take j=l.take i++(l.drop i).take (j-i):=by
  rw[←List.take_append_drop i (l.take j)]
  congr 1
  ·rw[List.take_take,Nat.min_eq_left (by omega)]
  ·rw[List.drop_take]
 obtain⟨k,hk⟩:∃k,j-i=k+1:=⟨j-i-1,by omega⟩
 have hil:=(zB.1 hi).1
 have h2:(l.drop i).take (j-i)=o::(l.drop (i+1)).take k:=by
  rw[hk,List.drop_eq_getElem_cons hil,zG]
  have:=(zB.1 hi).2
  rw[this]
 rw[h1,h2]
 unfold effCnt
 rw[zL,zE,zF (p:=fun o:Oper=>ZO fs o.op) he]
 simp
theorem ZDd (l:List Oper):∀r,r<effCnt fs l->∃(i:Nat) (o:Oper),l[i]? =some o/\ZO fs o.op=true/\effCnt fs (l.take i)=r:=by
 induction l with
 |nil=>intro r hr;simp[effCnt]at hr
 |cons o l ih=>
  intro r hr
  by_cases he:ZO fs o.op=true
  ·have hc:effCnt fs (o::l)=effCnt fs l+1:=by unfold effCnt;rw[zF (p:=fun o:Oper=>ZO fs o.op) he];rfl
   cases r with
   |zero=>exact⟨0,o,rfl,he,rfl⟩
   |succ r=>
    obtain⟨i,p,h1,h2,h3⟩:=ih r (by omega)
    refine⟨i+1,p,by simpa using h1,h2,?_⟩
    rw[zG,←h3]
    unfold effCnt;rw[zF (p:=fun o:Oper=>ZO fs o.op) he];rfl
  ·have hc:effCnt fs (o::l)=effCnt fs l:=by unfold effCnt;rw[zJ (p:=fun o:Oper=>ZO fs o.op) he]
   obtain⟨i,p,h1,h2,h3⟩:=ih r (by omega)
   refine⟨i+1,p,by simpa using h1,h2,?_⟩
   rw[zG,←h3]
   unfold effCnt;rw[zJ (p:=fun o:Oper=>ZO fs o.op) he]
variable {σ:ZE}
theorem ADraw.base {K:ASt->Prop}(hm:P.follows .mixedOrders=true)(hd:ZAZ fs ops=true){C:List Info->List ZE->Prop}(hC:∀acc ss frN,Lex fs P B N ops ops.size fr acc.reverse frN ss->acc.length=ops.size->ss.length=effCnt fs ops.toList+1->C acc ss->∀(i:Nat) (e:Info),acc.reverse[i]? =some e->e.want=true->e.eff=false->ZS fs e.o.op=false->
   OpEx P B e.o (ev e.fr) (ss.reverse.getD e.rank []) e.V (ss.reverse.getD e.rank [])->e.rank<ss.length->∀s,s<=effCnt fs ops.toList->s≠e.rank->
   (∀(j:Nat) (f:Info),acc.reverse[j]? =some f->f.eff=true->Zh ops i j=true->f.rank<s)->
   (∀(j:Nat) (f:Info),acc.reverse[j]? =some f->f.eff=true->Zh ops j i=true->s<=f.rank)->OpEx P B e.o (ev e.fr) (ss.reverse.getD s []) e.V (ss.reverse.getD s []))(h:aD fs P B N ops ops.toList fr [] [σ] fun acc ss fr'=>C acc ss/\K ⟨fr',ss.headD []⟩):ADraw P B nb N ops ⟨fr,σ⟩ K:=by
 refine⟨hm,fun m0 w0 m a w hs Q hn=> ?_⟩
 have lex0:Lex fs P B N ops ops.size fr ([]:List Info).reverse fr [σ]:=by
  refine⟨by simp,?_,?_,?_,?_,?_,?_,?_,?_,?_,fun t=>⟨fun j e hj=>by simp at hj,fun _=>rfl⟩,by simp[effCnt]⟩<;>(intro i e hi;simp at hi)
 obtain⟨acc,ss,frN,⟨hc0,hK⟩,hl,hlen,hmore⟩:=ZLI hd ops.toList fr [] [σ] h (by simp) lex0
 have hSlen:ss.length=effCnt fs ops.toList+1:=by
  have:=hl.st
  rw[zH,hlen]at this
  rw[this];congr 2;apply List.take_of_length_le;simp
 have hlast:ss.reverse.getD (effCnt fs ops.toList) []=ss.headD []:=by
  cases ss with
  |nil=>simp at hSlen
  |cons a r=>simp at hSlen;simp[zA,←hSlen]
 have hfirst:ss.reverse.getD 0 []=σ:=by
  obtain⟨m,rfl⟩:=hmore
  simp[zA]
 have noCall:∀{e:Info},ZO fs e.o.op=true->ZS fs e.o.op=false:=fun h=>by unfold ZS;rw[h];rfl
 have plan:PlanOk fs P B N ops fr acc.reverse (fun s=>ss.reverse.getD s []) (effCnt fs ops.toList):=by
  refine⟨by simp[hlen],hl.op,fun i e d hi hd'=>by have:=hl.dst i e hi;rw[hd']at this;exact this,hl.lex,hl.guard,fun i e hi hw=>(hl.no i e hi hw).1,?_,?_,?_,?_⟩
  ·intro i e hi hw he s hs h1 h2
   cases hc:ZS fs e.o.op with
   |true=>exact hl.call i e hi hw hc _
   |false=>
    obtain⟨hx1,hx2⟩:=hl.ex i e hi (by have:=(zB.1 hi).1;simp at this;omega) hw hc
    rw[he]at hx1 hx2
    simp only[zS,if_false]at hx1 hx2
    by_cases hsr:s=e.rank
    ·subst hsr;exact hx2
    ·exact hC acc ss frN hl hlen hSlen hc0 i e hi hw he hc hx2 (by omega) s hs hsr h1 h2
  ·intro i e hi he
   have hie:ZO fs e.o.op=true:=by rw[←hl.eff i e hi];exact he
   have hc:=noCall hie
   cases hw:e.want with
   |true=>
    obtain⟨hx1,hx2⟩:=hl.ex i e hi (by have:=(zB.1 hi).1;simp at this;omega) hw hc
    rw[he]at hx1 hx2
    simp only[if_true]at hx1 hx2 ⊢
    exact⟨by omega,hie,hx2⟩
   |false=>
    obtain⟨h1,h2⟩:=(hl.no i e hi hw).2 he
    simp only[zS,if_false]
    exact⟨by omega,hie,h2⟩
  ·intro r hr
   obtain⟨i,o,hi,he,hrk⟩:=ZDd ops.toList r hr
   have hio:ops[i]? =some o:=by simpa using hi
   have hin:i<acc.reverse.length:=by simp[hlen];exact(zP.1 hio).1
   have hf:=zD hin
   have hfo:(acc.reverse[i]).o=o:=by have:=hl.op i _ hf;rw[hio]at this;exact(zV this).symm
   have hfe:(acc.reverse[i]).eff=true:=by rw[hl.eff i _ hf,hfo];exact he
   refine⟨i,acc.reverse[i],hf,hfe,?_⟩
   rw[hl.rank i _ hf (.inr hfe) (noCall (by rw[hfo];exact he)),hrk]
  ·intro i j e f hi hj he hf hij
   have hie:ZO fs e.o.op=true:=by rw[←hl.eff i e hi];exact he
   have hif:ZO fs f.o.op=true:=by rw[←hl.eff j f hj];exact hf
   rw[hl.rank i e hi (.inr he) (noCall hie),hl.rank j f hj (.inr hf) (noCall hif)]
   exact ZB8 ops.toList hij (o:=e.o) (by have:=hl.op i e hi;simpa using this) hie
 have hstart:ASim B nb N m0 w0 ⟨fr,ss.reverse.getD 0 []⟩ m a w:=by rw[hfirst];exact hs
 refine ZJr hd plan hl.cur (K:=K) (by rw[hlast];exact hK) hn ops.size _ fr 0 m a w (by simp) ?_ ?_ ?_ (Nat.zero_le _) ?_ hstart
 ·exact Nat.le_trans (List.length_filter_le _ _) (by simp)
 ·intro i o ho hl'
  have hin:i<ops.size:=(zP.1 ho).1
  simp[hin]at hl'
 ·intro t
  refine⟨fun j e hj hx=> ?_,fun _=>rfl⟩
  have hin:j<ops.size:=by have:=(zB.1 hj).1;simpa[hlen]using this
  simp[hin]at hx
 ·intro j e hj he
  have hin:j<ops.size:=by have:=(zB.1 hj).1;simpa[hlen]using this
  simp[hin]
def ZLh :Op->Bool
 | .move _| .assign _| .pick _ _ _| .binOp _ _ _ _ _| .unOp _ _ _| .makeFunc _ _ _| .slice _ _ _ _ _| .extract _ _=>true
 |_=>false
theorem ZDp (t:TypeId)(σ σ':ZE)(x:AV)(lo hi mx:Option AV)(K:AV->ZE->Prop):ZBx P t σ x lo hi mx K=ZBx P t σ' x lo hi mx (fun r _=>K r σ):=by
 unfold ZBx
 split<;>rfl
def ZBO (fs:List FuncId)(ops:Array Oper)(tab:List (Nat×Nat))(xs:List Bool):Bool:=
 (zI ops.size).all fun i=>match ops[i]?,tab[i]? with
  |some o,some t=>ZO fs o.op||ZS fs o.op||(match xs[i]? with
   |some x=> !x||ZLh o.op||(t==(effCnt fs (ops.toList.take i),effCnt fs (ops.toList.take i)))
   |none=>false)
  |_,_=>true
theorem ZEO {fs:List FuncId}{tab:List (Nat×Nat)}{xs:List Bool}(h:ZBO fs ops tab xs=true){i:Nat}{t:Nat×Nat}(ho:ops[i]? =some o)(ht:tab[i]? =some t)(hc:ZS fs o.op=false)(he:ZO fs o.op=false):
  ∃x,xs[i]? =some x/\(x=true->ZLh o.op=true∨t=(effCnt fs (ops.toList.take i),effCnt fs (ops.toList.take i))):=by
 unfold ZBO at h
 have:=zN.1 h i (by simpa using(zP.1 ho).1)
 rw[ho,ht]at this
 simp only[hc,he,Bool.false_or]at this
 split at this
 ·next x hx=>
  refine⟨x,hx,fun hxt=> ?_⟩
  subst hxt
  simpa using this
 ·cases this
variable {ρ:Operand->AV}{σ':ZE}
theorem OpEx.free (hs:ZLh o.op=true)(hc:ZS fs o.op=false)(h:OpEx P B o ρ σ V σ):OpEx P B o ρ σ' V σ':=by
 unfold OpEx at h ⊢
 split at h
 ·next f args ts hop=>rw[hop]at hs;cases hs
 ·next hn=>
  obtain⟨dst,op,ty,pos,after,guard⟩:=o
  simp only at hs h hn ⊢
  cases op with
  |move x=>exact⟨h.1,by first|rfl|trivial⟩
  |assign x=>exact⟨h.1,by first|rfl|trivial⟩
  |pick c a b=>
   simp only[aef]at h ⊢
   generalize ρ c=v at h ⊢
   cases v<;>try exact h.elim
   next v=>
    cases v<;>try exact h.elim
    next b'=>cases b'<;>exact⟨h.1,by first|rfl|trivial⟩
  |binOp op t x y yt=>
   simp only[aef]at h ⊢
   obtain⟨r,h1,h2⟩:=ZI9 P op t (ρ x) (ρ y) _ h
   exact h2 _ ⟨h1.1,by first|rfl|trivial⟩
  |unOp op t x=>
   simp only[aef]at h ⊢
   obtain⟨r,h1,h2⟩:=ZLO op (ρ x) _ h
   exact h2 _ ⟨h1.1,by first|rfl|trivial⟩
  |makeFunc fn a b=>exact⟨h.1,by first|rfl|trivial⟩
  |slice t x lo hi mx=>
   simp only[aef]at h ⊢
   rw[ZDp t σ' σ]
   rw[ZDp t σ σ]at h
   simpa using h
  |extract x i=>
   simp only[aef]at h ⊢
   generalize ρ x=v at h ⊢
   cases v<;>try exact h.elim
   exact⟨h.1,h.2.1,by first|rfl|trivial⟩
  |_=>cases hs
theorem ZEK :∀(a:List AV),zW.pures a->∀(σ:ZE) (K:List AV->ZE->Prop),frz σ a K=K a σ
 | [],_,σ,K=>rfl
 |x::a,h,σ,K=>by
  have ih:=ZEK a h.2
  cases x with
  |own l n=>exact h.1.elim
  |_=>simp only[frz];exact ih σ _
theorem ZBG :∀{a b:List AV},zW.pures a->zW.pures b->zW.pures (a++b)
 | [],b,_,hb=>hb
 |x::a,b,ha,hb=>⟨ha.1,ZBG ha.2 hb⟩
theorem ZDO :∀{a:List AV} (n:Nat),zW.pures a->zW.pures (a.take n)
 | [],n,_=>by simp[zW.pures]
 |x::a,0,_=>by simp[zW.pures]
 |x::a,n+1,h=>⟨h.1,ZDO n h.2⟩
theorem ZDP :∀{a:List AV} (n:Nat),zW.pures a->zW.pures (a.drop n)
 | [],n,_=>by simp[zW.pures]
 |x::a,0,h=>h
 |x::a,n+1,h=>ZDP n h.2
variable {K:List AV->Prop}
theorem ZGu {x:AV}(hp:x.pure)(σ σ':ZE)(h:x.cellsK σ K):x.cellsK σ' (fun e=>zW.pures e/\K e):=by
 cases x with
 |agg cs=>exact⟨hp,h⟩
 |own l n=>exact hp.elim
 |pre l n k=>exact hp.elim
 |ptr l n=>exact hp.elim
 |eptr l n i o=>exact hp.elim
 |_=>exact⟨h.1,⟨hp,trivial⟩,h.2⟩
theorem ZKA {e cs:List AV}{off:Nat}(he:zW.pures e)(hc:zW.pures cs)(h:wrE e off cs K):wrE e off cs (fun c=>zW.pures c/\K c):=by
 unfold wrE at h ⊢
 split
 ·next q=>rw[iP q]at h;exact⟨hc,h⟩
 ·next q=>rw[iN q]at h;exact⟨h.1,ZBG (ZBG (ZDO _ he) hc) (ZDP _ he),h.2⟩
variable {K':List AV->Prop}
theorem ZDk {x:AV}(hK:∀e,K e->K' e)(h:x.cellsK σ K):x.cellsK σ K':=by
 cases x with
 |agg cs=>exact hK _ h
 |_=>exact⟨h.1,hK _ h.2⟩
theorem ZG7 {e cs:List AV}{off:Nat}(hK:∀e,K e->K' e)(h:wrE e off cs K):wrE e off cs K':=by
 unfold wrE at h ⊢
 split
 ·next q=>rw[iP q]at h;exact hK _ h
 ·next q=>rw[iN q]at h;exact⟨h.1,hK _ h.2⟩
theorem ZEV {place:Nat->Option (Nat×Nat)}{σ σ':ZE}:∀{parts:List (Nat×AV)} {cs:List AV} {K:List AV->Prop},zW.pures cs->(∀p,p∈parts->p.2.pure)->ZBg place σ cs parts K->ZBg place σ' cs parts (fun c=>zW.pures c/\K c)
 | [],cs,K,hc,_,h=>⟨hc,h⟩
 |(i,x)::rest,cs,K,hc,hp,h=>by
  simp only[ZBg]at h ⊢
  cases hpl:place i with
  |none=>rw[hpl]at h;exact h.elim
  |some q=>
   obtain⟨off,size⟩:=q
   rw[hpl]at h
   simp only at h ⊢
   refine ZDk (fun e he=> ?_) (ZGu (hp (i,x) (by simp)) σ σ' h)
   refine⟨he.2.1,ZG7 (fun c hcc=> ?_) (ZKA hc he.1 he.2.2)⟩
   exact ZEV hcc.1 (fun p hp'=>hp p (List.mem_cons_of_mem _ hp')) hcc.2
theorem ZEE :∀(z:List Value),zW.pures (z.map .lit)
 | []=>trivial
 |v::r=>⟨trivial,ZEE r⟩
theorem ZEW {place:Nat->Option (Nat×Nat)}{σ:ZE}:∀{parts:List (Nat×AV)} {cs:List AV} {K K':List AV->Prop},(∀c,K c->K' c)->ZBg place σ cs parts K->ZBg place σ cs parts K'
 | [],cs,K,K',hK,h=>hK _ h
 |(i,x)::rest,cs,K,K',hK,h=>by
  simp only[ZBg]at h ⊢
  cases hpl:place i with
  |none=>rw[hpl]at h;exact h.elim
  |some q=>
   obtain⟨off,size⟩:=q
   rw[hpl]at h
   simp only at h ⊢
   exact ZDk (fun e he=>⟨he.1,ZG7 (fun c hc=>ZEW hK hc) he.2⟩) h
theorem ZGw (a:List AV)(h:zW.pures a)(σ:ZE)(K:List AV->ZE->Prop):bfrz σ a K=K a σ:=by
 unfold bfrz;split
 ·rfl
 ·exact ZEK a h σ K
variable {t:TypeId}
theorem ZG4 {P:Program}{parts:List (Nat×AV)}(hp:∀p,p∈parts->p.2.pure)(σ σ':ZE)(h:ZBz P t σ parts fun r τ=>r=V/\τ=σ):ZBz P t σ' parts fun r τ=>r=V/\τ=σ':=by
 unfold ZBz at h ⊢
 split at h
 ·next offs s z hi=>
  refine⟨h.1,h.2.1,?_⟩
  refine ZEW (fun c hc=> ?_) (ZEV (σ':=σ') (ZEE z) hp h.2.2)
  have h2:=hc.2
  rw[ZGw c hc.1]at h2 ⊢
  exact⟨h2.1,rfl⟩
 ·exact⟨h.1,h.2.1,h.2.2.1,rfl⟩
 ·exact h.elim
theorem ZHK :∀{l:List AV} {x:AV},ZEf l->x∈l->x.pure
 |c::r,x,h,hx=>by
  rcases List.mem_cons.1 hx with rfl|hx
  ·exact h.1
  ·exact ZHK h.2 hx
def ZB0 :Op->Bool
 | .load _ _| .indexAddr _ _ _| .index _ _ _| .extract _ _| .convert _ _ _=>true
 | .call {callee:=.builtin .len,.. }| .build _ _=>true
 |_=>false
def ZCX :Op->Option Operand
 | .fieldAddr _ x _| .nilCheck x=>some x
 |_=>none
def ZMe (e:Info)(x:Bool)(ss:List ZE):Prop:=
 x=true∨(ZB0 e.o.op=true/\ZEf (e.o.op.operands.toList.map (ev e.fr)))∨(∃y,ZCX e.o.op=some y/\∀σ,σ∈ss->ZB5 σ (ev e.fr y))
def ZHN :Op->Option (TypeId×Operand×Option Operand)
 | .load ty y=>some (ty,y,none)
 | .indexAddr ty y i=>some (ty,y,some i)
 |_=>none
def ZG2 (P:Program)(ty:TypeId)(σ:ZE)(p:AV):Option AV->(AV->Prop)->Prop
 |none,K=>ZCs P ty σ p K
 |some i,K=>Zk P ty σ p i K
def ZMN (P:Program)(e:Info)(t:Nat×Nat)(ss:List ZE):Prop:=
 ∃ty y oi,ZHN e.o.op=some (ty,y,oi)/\∀s,t.1<=s->s<=t.2->ZG2 P ty (ss.reverse.getD s []) (ev e.fr y) (oi.map (ev e.fr)) fun r=>r=e.V
def FOK (fs:List FuncId)(P:Program)(infos:List Info)(xs:List Bool)(tab:List (Nat×Nat))(ss:List ZE):Prop:=∀(i:Nat) (e:Info) (x:Bool),infos[i]? =some e->xs[i]? =some x->e.want=true->ZO fs e.o.op=false->ZS fs e.o.op=false->ZMe e x ss∨ZMN P e (tab.getD i (0,0)) ss
theorem OpEx.addr {y:Operand}(ha:ZCX o.op=some y)(hl:ZB5 σ' (ρ y))(h:OpEx P B o ρ σ V σ):OpEx P B o ρ σ' V σ':=by
 unfold OpEx at h ⊢
 split at h
 ·next f args ts hop=>rw[hop]at ha;cases ha
 ·next hn=>
  obtain⟨dst,op,ty,pos,after,guard⟩:=o
  simp only at ha h hn ⊢
  cases op with
  |fieldAddr t x f=>
   simp only[ZCX,zU]at ha
   subst ha
   simp only[aef,ZAJ]at h ⊢
   split at h
   ·split at h
    ·exact⟨hl,h.2.1,by first|rfl|trivial⟩
    ·exact h.elim
   ·exact h.elim
  |nilCheck x=>
   simp only[ZCX,zU]at ha
   subst ha
   simp only[aef]at h ⊢
   exact⟨hl,h.2.1,by first|rfl|trivial⟩
  |_=>simp[ZCX]at ha
variable {p:AV}
theorem ZIW (hp:p.pure)(σ σ':ZE)(K:AV->Prop):ZCs P t σ p K=ZCs P t σ' p K:=by
 cases p<;>first|exact hp.elim|rfl
theorem ZDr {i:AV}(hp:p.pure)(σ σ':ZE)(K:AV->Prop):Zk P t σ p i K=Zk P t σ' p i K:=by
 cases p<;>first|exact hp.elim|rfl
theorem ZIY {s d:TypeId}(hp:p.pure)(σ σ':ZE)(K:AV->Prop):ZD5 P s d σ p K=ZD5 P s d σ' p K:=by
 unfold ZD5
 generalize P.underlying s=a
 generalize P.underlying d=b
 cases p<;>first|exact hp.elim|skip
 all_goals(cases a<;>first|rfl|skip)
 all_goals(rename_i a;cases a<;>first|rfl|skip)
 all_goals(cases b<;>first|rfl|skip)
 all_goals(rename_i b;cases b<;>first|rfl|skip)
 all_goals(next v _ _=>cases v<;>rfl)
theorem ZJ4 (hp:p.pure)(σ σ':ZE)(K:AV->Prop):ZLH P t σ p K=ZLH P t σ' p K:=rfl
theorem OpEx.plain (ha:ZB0 o.op=true)(hp:ZEf (o.op.operands.toList.map ρ))(h:OpEx P B o ρ σ V σ):OpEx P B o ρ σ' V σ':=by
 unfold OpEx at h ⊢
 split at h
 ·next f args ts hop=>rw[hop]at ha;cases ha
 ·next hn=>
  obtain⟨dst,op,ty,pos,after,guard⟩:=o
  simp only at ha h hn hp ⊢
  cases op with
  |load t x=>
   have hx:(ρ x).pure:=ZCI (i:=0) hp (by simp[zX])
   simp only[aef,and_true]at h ⊢
   rw[ZIW hx σ' σ];exact h
  |indexAddr t x i=>
   have hx:(ρ x).pure:=ZCI (i:=0) hp (by simp[zX])
   simp only[aef,and_true]at h ⊢
   rw[ZDr hx σ' σ];exact h
  |convert s d x=>
   have hx:(ρ x).pure:=ZCI (i:=0) hp (by simp[zX])
   simp only[aef,and_true]at h ⊢
   rw[ZIY hx σ' σ];exact h
  |index t x i=>
   simp only[aef,ZC2,and_true]at h ⊢
   exact h
  |extract x i=>
   simp only[aef,and_true]at h ⊢
   exact h
  |build t ps=>
   simp only[aef]at h ⊢
   refine ZG4 (fun p hp'=> ?_) _ _ h
   obtain⟨q,hq,rfl⟩:=zO.1 hp'
   refine ZHK hp ?_
   simp only[zX]
   rw[zO]
   exact⟨q.2,by simpa using⟨q.1,by simpa using hq⟩,rfl⟩
  |call c=>
   obtain⟨cal,args,ts⟩:=c
   cases cal with
   |builtin b=>
    cases b<;>try(simp[ZB0]at ha;done)
    have hp':ZEf (args.toList.map ρ):=by simpa[zX,Call.operands]using hp
    simp only[aef]at h ⊢
    generalize args.toList.map ρ=l at h hp' ⊢
    match l,hp',h with
    | [],_,h=>exact h.elim
    | [x],hp',h=>
     simp only[ZAx,and_true]at h ⊢
     split at h
     ·rw[ZJ4 hp'.1 σ' σ];exact h
     ·exact h.elim
    |_::_::_,_,h=>exact h.elim
   |_=>simp[ZB0]at ha
  |_=>cases ha
theorem ADraw.exact {K:ASt->Prop}(hm:P.follows .mixedOrders=true)(hd:ZAZ fs ops=true)(tab:List (Nat×Nat))(ht:ZIa fs ops tab=true)(xs:List Bool)(hxb:ZBO fs ops tab xs=true)(h:aD fs P B N ops ops.toList fr [] [σ] fun acc ss fr'=>FOK fs P acc.reverse xs tab ss/\K ⟨fr',ss.headD []⟩):ADraw P B nb N ops ⟨fr,σ⟩ K:=by
 refine ADraw.base hm hd (C:=fun acc ss=>FOK fs P acc.reverse xs tab ss) ?_ h
 intro acc ss frN hl hlen hSlen hfok i e hi hw he hc hx2 hx1 s hs hsr h1 h2
 have htab:∀(i:Nat) (o:Oper),ops[i]? =some o->∃t,tab[i]? =some t/\ZDJ fs ops i o t.1 t.2=true:=by
  intro i o ho
  unfold ZIa at ht
  rw[zR]at ht
  obtain⟨ht1,ht2⟩:=ht
  have ht1:tab.length=ops.size:=by simpa using ht1
  have hin:i<ops.size:=(zP.1 ho).1
  have ht:tab[i]? =some (tab[i]'(by omega)):=zD (by omega)
  have:=zN.1 ht2 i (by simpa using hin)
  rw[ho,ht]at this
  exact⟨_,ht,this⟩
 have noCall:∀{e:Info},ZO fs e.o.op=true->ZS fs e.o.op=false:=fun h=>by unfold ZS;rw[h];rfl
 obtain⟨t,ht,hst⟩:=htab i e.o (hl.op i e hi)
 obtain⟨hlo,hhi⟩:=ZEA hst
 have at':∀(j:Nat) (p:Oper),ops[j]? =some p->ZO fs p.op=true->∃f,acc.reverse[j]? =some f/\f.o=p/\f.eff=true/\f.rank=effCnt fs (ops.toList.take j):=by
  intro j p hp1 hp2
  have:j<acc.reverse.length:=by simp[hlen];exact(zP.1 hp1).1
  have hf:=zD this
  have hfo:(acc.reverse[j]).o=p:=by have:=hl.op j _ hf;rw[hp1]at this;exact(zV this).symm
  have hfe:(acc.reverse[j]).eff=true:=by rw[hl.eff j _ hf,hfo];exact hp2
  exact⟨_,hf,hfo,hfe,hl.rank j _ hf (.inr hfe) (noCall (by rw[hfo];exact hp2))⟩
 have hlo':t.1<=s:=by
  rcases hlo with h0|⟨j,p,hp1,hp2,hp3,hp4⟩
  ·omega
  ·obtain⟨f,hf,hfo,hfe,hfr⟩:=at' j p hp1 hp2
   have:=h1 j f hf hfe hp3
   omega
 have hhi':s<=t.2:=by
  rcases hhi with h0|⟨j,p,hp1,hp2,hp3,hp4⟩
  ·omega
  ·obtain⟨f,hf,hfo,hfe,hfr⟩:=at' j p hp1 hp2
   have:=h2 j f hf hfe hp3
   omega
 have hie:ZO fs e.o.op=false:=by rw[←hl.eff i e hi];exact he
 obtain⟨x,hxs,hxx⟩:=ZEO hxb (hl.op i e hi) ht hc hie
 have hsin:(ss.reverse.getD s [])∈ss:=by
  have hlt:s<ss.reverse.length:=by rw[zH,hSlen];omega
  rw[zA,zD hlt]
  exact List.mem_reverse.1 (List.getElem_mem hlt)
 rcases hfok i e x hi hxs hw hie hc with(hx1'|⟨hpl,hpu⟩|⟨y,hy,hlv⟩)|⟨ty,y,oi,hop,hld⟩
 ·rcases hxx hx1' with hsf|hte
  ·exact OpEx.free hsf hc hx2
  have hrk:=hl.rank i e hi (.inl hw) hc
  rw[hte]at hlo' hhi'
  simp only at hlo' hhi'
  exact absurd (by rw[hrk];exact Nat.le_antisymm hhi' hlo') hsr
 ·exact OpEx.plain hpl hpu hx2
 ·exact OpEx.addr hy (hlv _ hsin) hx2
 ·rw[zA,ht]at hld
  have hl:=hld s hlo' hhi'
  unfold OpEx
  generalize e.o.op=op at hop ⊢
  cases op<;>first|(simp only[ZHN,zU,Prod.mk.injEq]at hop;obtain⟨rfl,rfl,rfl⟩:=hop;simp only[aef,and_true];exact hl)|cases hop
end
end Go.Vl
