/- Part. -/
import Derived.Test.YtmjpphcloedceaaVlBor
set_option linter.all false
open Bool renaming and_eq_true->zA,or_eq_true->zB
open List renaming eq_nil_iff_forall_not_mem->zC,all_eq_true->zD,range->zE,getElem_mem->zF
open Array renaming getD_eq_getD_getElem?->zG,getElem?_setIfInBounds->zH,getElem?_replicate->zI
namespace Go.Vl
open Go Go.RowKit
open Go.Sem renaming run_bind->zJ,run_pure->zK
open Go.Result renaming andThen->zL,andThen_ok->zM
open Go.Region renaming ready->zN,binds->zO,wanted->zP
open Go.Oper renaming asks->zQ,wp->zR,upon->zS
def ZCX :Op->Bool
 | .move _| .assign _| .pick _ _ _| .alloc _| .box _ _| .build _ _| .buildSlice _ _ _| .load _ _| .store _ _ _| .binOp _ _ _ _ _| .unOp _ _ _| .convert _ _ _| .makeFunc _ _ _| .makeSlice _ _ _| .slice _ _ _ _ _
 | .fieldAddr _ _ _| .indexAddr _ _ _| .index _ _ _| .extract _ _=>true
 | .call {callee:=.builtin .append,.. }| .call {callee:=.builtin .len,.. }=>true
 |_=>false
def ZBn :Result Next->Prop
 | .ok (.enter _ _) _| .ok (.row _ _) _=>False
 |_=>True
variable {P:Program}{w:World}
theorem ZGZ (s:Sem Value):ZBn ((do pure (.value (←s)):Sem Next).run P w):=by
 simp only[zJ]
 cases s.run P w<;>simp[zL,ZBn]
theorem ZJV (s:Sem Unit):ZBn ((do s;pure .skip:Sem Next).run P w):=by
 simp only[zJ]
 cases s.run P w<;>simp[zL,ZBn]
variable {o:Oper}
theorem ZIN (h:ZCX o.op=true)(ρ:Operand->Value):ZBn ((execOp ρ o).run P w):=by
 obtain⟨dst,op,ty,pos,after,guard⟩:=o
 simp only at h
 unfold execOp
 cases op<;>first
  |(next c=>
    obtain⟨cal,args,ts⟩:=c
    cases cal with
    |builtin b=>
     cases b<;>first
      |(cases h;done)
      |(simp only[resolve,invoke,builtin,zJ,zK,zM];exact ZGZ _)
      |(simp only[resolve,invoke,builtin,zJ,zK,zM];generalize Sem.run P _ w=r;cases r<;>simp[zL,ZBn])
    |_=>cases h)
  |(cases h;done)
  |exact ZGZ _
  |exact ZJV _
  |(simp[ZBn];done)
  |(simp only[zJ];generalize Sem.run P (asBool _) w=r;cases r<;>simp[zL,ZBn])
variable {a:Act}{Q:Exit->Act->World->Prop}{r:Result Next}
theorem ZJJ {n1 n2:Act->World->Prop}(hr:ZBn r)(h1:o.upon P a n1 Q r)(h2:o.upon P a n2 Q r):
  o.upon P a (fun a w=>n1 a w/\n2 a w) Q r:=by
 cases r with
 |ok nx w=>
  cases nx<;>first
   |exact hr.elim
   |exact⟨h1,h2⟩
   |exact h1.elim
 |halt h w=>cases h<;>exact h1
variable {ops:Array Oper}{i:Nat}
theorem ZJI {K1 K2:Act->World->Prop}(hs:∀o,ops[i]? =some o->ZCX o.op=true)(h1:wpOp P ops Q i K1 a w)(h2:wpOp P ops Q i K2 a w):wpOp P ops Q i (fun a w=>K1 a w/\K2 a w) a w:=by
 unfold wpOp at h1 h2 ⊢
 cases ho:ops[i]? with
 |none=>rw[ho]at h1 h2;exact⟨h1,h2⟩
 |some o=>
  rw[ho]at h1 h2
  simp only at h1 h2 ⊢
  split
  ·next hw=>
   rw[iP hw]at h1 h2
   rcases h1 with h1|h1
   ·rcases h2 with h2|h2
    ·exact .inl (ZJJ (ZIN (hs o ho) _) h1 h2)
    ·exact .inr h2
   ·exact .inr h1
  ·next hw=>
   rw[iN hw]at h1 h2
   exact⟨h1,h2⟩
def ZGC (ops:Array Oper)(i j:Nat):Array Oper:=ops.mapIdx fun k o=>if k=j then{o with after:=o.after.push ⟨i,.data⟩}else o
def ZGB :List (Nat×Nat)->Array Oper->Array Oper
 | [],ops=>ops
 |(i,j)::r,ops=>ZGB r (ZGC ops i j)
theorem ZHj (es:List (Nat×Nat))(i j:Nat):∀ops,ZGB (es++[(i,j)]) ops=ZGC (ZGB es ops) i j:=by
 induction es with
 |nil=>intro ops;rfl
 |cons e r ih=>obtain⟨a,b⟩:=e;intro ops;exact ih _
variable {j k:Nat}
theorem ZEA :(ZGC ops i j)[k]? =(ops[k]?).map fun o=>if k=j then{o with after:=o.after.push ⟨i,.data⟩}else o:=by
 unfold ZGC;rw[Array.getElem?_mapIdx]
theorem ZI6 :(ZGC ops i j).size=ops.size:=by simp[ZGC]
theorem ZKL :((ZGC ops i j)[k]?).bind (·.dst)=(ops[k]?).bind (·.dst):=by
 rw[ZEA]
 cases ops[k]? with
 |none=>rfl
 |some o=>by_cases e:k=j<;>simp[e]
variable {listed:Array Bool}
theorem Ze :k∈zN .any (ZGC ops i j) listed↔k∈zN .any ops listed/\(k=j->listed.getD i false=true):=by
 rw[mem_ready,mem_ready,ZEA]
 constructor
 ·rintro⟨h0,o,ho,ha⟩
  obtain⟨p,hp,rfl⟩:=Option.map_eq_some_iff.1 ho
  refine⟨⟨h0,p,hp,fun e he hb=> ?_⟩,fun e=> ?_⟩
  ·refine ha e ?_ hb
   by_cases ek:k=j
   ·rw[iP ek];exact Array.mem_push_of_mem _ he
   ·rw[iN ek];exact he
  ·rw[iP e]at ha
   exact ha ⟨i,.data⟩ Array.mem_push_self rfl
 ·rintro⟨⟨h0,p,hp,ha⟩,hj⟩
  refine⟨h0,_,by rw[hp];rfl,fun e he hb=> ?_⟩
  dsimp only at he
  by_cases ek:k=j
  ·rw[iP ek]at he
   rcases Array.mem_push.1 he with he|rfl
   ·exact ha e he hb
   ·exact hj ek
  ·rw[iN ek]at he;exact ha e he hb
variable {x:Array Edge}{g:Option (Nat×Bool)}
theorem ZCP {ρ:Operand->Value}:execOp ρ {o with after:=x,guard:=g}=execOp ρ o:=by
 obtain⟨dst,op,ty,pos,after,guard⟩:=o
 unfold execOp
 cases op<;>rfl
variable {next:Act->World->Prop}
theorem ZGy :
  zS P {o with after:=x,guard:=g} a next Q r=zS P o a next Q r:=by
 cases r with
 |ok nx w=>cases nx<;>rfl
 |halt h w=>cases h<;>rfl
theorem ZJH :
  zR P {o with after:=x,guard:=g} a w next Q=zR P o a w next Q:=by
 unfold zR
 rw[ZCP,ZGy]
theorem ZHg :zQ P {o with after:=x,guard:=g} a w=zQ P o a w:=by
 unfold zQ
 simp only[ZCP]
theorem ZBE {K:Act->World->Prop}:wpOp P (ZGC ops i j) Q k K a w↔wpOp P ops Q k K a w:=by
 have hy:∀t,yielded (ZGC ops i j) t=yielded ops t:=by
  intro t;funext m
  unfold yielded
  rw[ZKL]
 unfold wpOp
 rw[ZEA,hy]
 cases ops[k]? with
 |none=>exact Iff.rfl
 |some o=>
  simp only[Option.map_some]
  by_cases e:k=j
  ·rw[iP e]
   have h1:zR P {o with after:=o.after.push ⟨i,.data⟩} a w K Q=zR P o a w K Q:=ZJH (g:=o.guard)
   have h2:zQ P {o with after:=o.after.push ⟨i,.data⟩} a w=zQ P o a w:=ZHg (g:=o.guard)
   have h3:zP {o with after:=o.after.push ⟨i,.data⟩} (yielded ops a.tmps)=zP o (yielded ops a.tmps):=rfl
   rw[h1,h2,h3]
  ·rw[iN e]
def waitB (ops:Array Oper)(i:Nat):Nat->Nat->Bool
 |0,_=>false
 |d+1,k=>match ops[k]? with
  |some o=>o.after.toList.any fun e=>zO .any e&& (e.on==i||waitB ops i d e.on)
  |none=>false
def ZD8 (ops:Array Oper)(listed:Array Bool):Prop:=∀(k:Nat) (o:Oper),ops[k]? =some o->listed.getD k false=true->∀e∈o.after,zO .any e=true->listed.getD e.on false=true
theorem ZGx :∀(d k:Nat),ops[k]? =none->waitB ops i d k=false
 |0,k,h=>by rw[waitB]
 |d+1,k,h=>by rw[waitB,h]
theorem ZGL (hc:ZD8 ops listed):∀(d k:Nat) (o:Oper),ops[k]? =some o->(∀e∈o.after,zO .any e=true->listed.getD e.on false=true)->waitB ops i d k=true->listed.getD i false=true:=by
 intro d
 induction d with
 |zero=>intro k o _ _ h;rw[waitB]at h;cases h
 |succ d ih=>
  intro k o ho ha h
  rw[waitB,ho]at h
  obtain⟨e,he,hb⟩:=List.any_eq_true.1 h
  rw[zA,zB]at hb
  have hl:=ha e (Array.mem_toList_iff.1 he) hb.1
  rcases hb.2 with q|q
  ·rw[←beq_iff_eq.1 q];exact hl
  ·cases hk:ops[e.on]? with
   |none=>rw[ZGx d _ hk]at q;cases q
   |some p=>exact ih e.on p hk (hc e.on p hk hl) q
def ZHz (ops:Array Oper)(i j:Nat):Bool:=
 i !=j&& decide (i<ops.size)&& decide (j<ops.size)&& (zE ops.size).all fun k=>k==i||k==j||waitB ops i ops.size k||waitB ops j ops.size k||match ops[k]? with
  |some o=>ZCX o.op
  |none=>true
theorem ZF4 (hc:ZD8 ops listed)(hk:k∈zN .any ops listed):ZD8 ops (listed.setIfInBounds k true):=by
 obtain⟨_,o,ho,ha⟩:=mem_ready.1 hk
 have up:∀x,listed.getD x false=true->(listed.setIfInBounds k true).getD x false=true:=by
  intro x hx
  simp only[zG,zH]at hx ⊢
  split
  ·split<;>simp_all
  ·exact hx
 intro m p hp hl e he hb
 by_cases em:m=k
 ·subst em
  rw[ho]at hp;obtain rfl:=Option.some.inj hp
  exact up _ (ha e he hb)
 ·refine up _ (hc m p hp ?_ e he hb)
  simp only[zG,zH]at hl ⊢
  rw[iN (fun h=>em h.symm)]at hl
  exact hl
section
variable {P : Program} {B nb N : Nat} {Q : Exit -> Act -> World -> Prop}
variable {listed:Array Bool}
theorem ZJz {k i:Nat}(h:listed.getD i false=true):(listed.setIfInBounds k true).getD i false=true:=by
 simp only[zG,zH]at h ⊢
 split
 ·split<;>simp_all
 ·exact h
theorem ZBr {k:Nat}(h:k<listed.size):(listed.setIfInBounds k true).getD k false=true:=by
 simp[zG,h]
theorem ZCb {ops:Array Oper}{i j:Nat}:∀(fuel:Nat) (listed:Array Bool) (a:Act) (w:World),listed.getD i false=true->wpAny P .any (ZGC ops i j) Q fuel listed a w->wpAny P .any ops Q fuel listed a w
 |0,listed,a,w,hl,h=>by
  refine⟨zC.2 fun k hk=> ?_,h.2⟩
  have:=(Ze (j:=j)).2 ⟨hk,fun _=>hl⟩
  rw[h.1]at this;cases this
 |fuel+1,listed,a,w,hl,h=>by
  refine⟨fun hr=>h.1 (zC.2 fun k hk=> ?_),fun k hk=> ?_⟩
  ·have:=(Ze.1 hk).1
   rw[hr]at this;cases this
  ·have:=ZBE.1 (h.2 k (Ze.2 ⟨hk,fun _=>hl⟩))
   exact wpOp_mono (fun a' w' h'=>ZCb fuel _ a' w' (ZJz hl) h') this
variable {ops:Array Oper}
theorem ZFG {i j:Nat}(hs:ZHz ops i j=true):∀(fuel:Nat) (listed:Array Bool) (a:Act) (w:World),listed.size=ops.size->ZD8 ops listed->listed.getD i false=false->listed.getD j false=false->
  wpAny P .any (ZGC ops i j) Q fuel listed a w->wpAny P .any (ZGC ops j i) Q fuel listed a w->wpAny P .any ops Q fuel listed a w:=by
 unfold ZHz at hs
 simp only[zA,bne_iff_ne,decide_eq_true_eq]at hs
 obtain⟨⟨⟨hij,hi⟩,hj⟩,hs⟩:=hs
 intro fuel
 have split0:∀(listed:Array Bool) k,k∈zN .any ops listed->k∈zN .any (ZGC ops i j) listed∨k∈zN .any (ZGC ops j i) listed:=by
  intro listed k hk
  by_cases e:k=j
  ·exact .inr (Ze.2 ⟨hk,fun e'=>absurd (e'.symm.trans e) hij⟩)
  ·exact .inl (Ze.2 ⟨hk,fun e'=>absurd e' e⟩)
 induction fuel with
 |zero=>
  intro listed a w hsz hc h0 h1 ha hb
  refine⟨zC.2 fun k hk=> ?_,ha.2⟩
  rcases split0 listed k hk with q|q
  ·rw[ha.1]at q;cases q
  ·rw[hb.1]at q;cases q
 |succ fuel ih=>
  intro listed a w hsz hc h0 h1 ha hb
  refine⟨fun hr=>ha.1 (zC.2 fun k hk=> ?_),fun k hk=> ?_⟩
  ·have:=(Ze.1 hk).1
   rw[hr]at this;cases this
  ·by_cases ei:k=i
   ·subst ei
    have:=ZBE.1 (ha.2 k (Ze.2 ⟨hk,fun e=>absurd e hij⟩))
    exact wpOp_mono (fun a' w' h'=>ZCb fuel _ a' w' (ZBr (by rw[hsz];exact hi)) h') this
   by_cases ej:k=j
   ·subst ej
    have:=ZBE.1 (hb.2 k (Ze.2 ⟨hk,fun e=>absurd e (Ne.symm hij)⟩))
    exact wpOp_mono (fun a' w' h'=>ZCb fuel _ a' w' (ZBr (by rw[hsz];exact hj)) h') this
   obtain⟨_,o,ho,hall⟩:=mem_ready.1 hk
   have hkl:k<ops.size:=(Array.getElem?_eq_some_iff.1 ho).1
   have hsi:∀p,ops[k]? =some p->ZCX p.op=true:=by
    intro p hp
    have:=zD.1 hs k (by simpa using hkl)
    simp only[zB,beq_iff_eq]at this
    rcases this with(((q|q)|q)|q)|q
    ·exact absurd q ei
    ·exact absurd q ej
    ·rw[ZGL hc _ k o ho hall q]at h0;cases h0
    ·rw[ZGL hc _ k o ho hall q]at h1;cases h1
    ·rw[hp]at q;exact q
   have h2:=ZJI hsi (ZBE.1 (ha.2 k (Ze.2 ⟨hk,fun e=>absurd e ej⟩))) (ZBE.1 (hb.2 k (Ze.2 ⟨hk,fun e=>absurd e ei⟩)))
   have keep:∀x,x≠k->listed.getD x false=false->(listed.setIfInBounds k true).getD x false=false:=by
    intro x hx hl
    simp only[zG,zH]at hl ⊢
    rw[iN (fun h=>hx h.symm)];exact hl
   exact wpOp_mono (fun a' w' h'=>ih _ a' w' (by simpa using hsz) (ZF4 hc hk) (keep i (Ne.symm ei) h0) (keep j (Ne.symm ej) h1) h'.1 h'.2) h2
theorem ADraw.split {st:ASt}{K:ASt->Prop}(es es1 es2:List (Nat×Nat))(i j:Nat)(he1:es1=es++[(i,j)])(he2:es2=es++[(j,i)])(hs:ZHz (ZGB es ops) i j=true)(h1:ADraw P B nb N (ZGB es1 ops) st K)(h2:ADraw P B nb N (ZGB es2 ops) st K):
  ADraw P B nb N (ZGB es ops) st K:=by
 subst he1 he2
 rw[ZHj]at h1 h2
 refine⟨h1.1,fun m0 w0 m a w hsim Q hn=> ?_⟩
 have a1:=h1.2 m0 w0 m a w hsim Q hn
 have a2:=h2.2 m0 w0 m a w hsim Q hn
 rw[ZI6]at a1 a2
 refine ZFG hs _ _ a w (by simp) (fun k o ho hl=> ?_) ?_ ?_ a1 a2
 ·simp[zG,zI]at hl
  split at hl<;>simp at hl
 ·simp[zG,zI];split<;>rfl
 ·simp[zG,zI];split<;>rfl
end
def ZOx :Oper:=⟨none,.move (.tmp 0),0, "",#[],none⟩
def ZOR (ord:List Nat)(o:Oper):Oper:={o with after:=o.after.map fun e=>{e with on:=ord.idxOf e.on},guard:=o.guard.map fun g=>(ord.idxOf g.1,g.2)}
def ZPG (ord:List Nat)(ops:Array Oper):Array Oper:=(ord.map fun k=>ZOR ord (ops.getD k ZOx)).toArray
def ZMq (ord:List Nat)(n:Nat):Bool:=
 decide (ord.length=n)&& ord.all (fun k=>decide (k<n))&& (zE n).all (fun k=>decide (ord.idxOf k<n))&& (zE n).all fun k=>decide (ord.idxOf (ord.getD k 0)=k)
structure PermOk (ord:List Nat)(n:Nat):Prop where
 len:ord.length=n
 lt:∀k (h:k<ord.length),ord[k]<n
 idx:∀k,k<n->ord.idxOf k<n
 inv:∀k (h:k<ord.length),ord.idxOf ord[k]=k
 at_:∀k,k<n->∀h:ord.idxOf k<ord.length,ord[ord.idxOf k]=k
 out:∀k,n<=k->ord.idxOf k=n
theorem PermOk.of {ord:List Nat}{n:Nat}(h:ZMq ord n=true):PermOk ord n:=by
 unfold ZMq at h
 simp only[zA,decide_eq_true_eq]at h
 obtain⟨⟨⟨h1,h2⟩,h3⟩,h4⟩:=h
 refine⟨h1,fun k hk=> ?_,fun k hk=> ?_,fun k hk=> ?_,fun k hk hh=>List.getElem_idxOf hh,fun k hk=> ?_⟩
 ·have:=zD.1 h2 _ (zF hk);simpa using this
 ·have:=zD.1 h3 k (by simpa using hk);simpa using this
 ·have:=zD.1 h4 k (by simp;omega)
  simp only[decide_eq_true_eq]at this
  rw[List.getD_eq_getElem?_getD,List.getElem?_eq_getElem hk]at this
  exact this
 ·rw[←h1]
  refine List.idxOf_eq_length fun hm=> ?_
  obtain⟨j,hj,rfl⟩:=List.getElem_of_mem hm
  have:=zD.1 h2 _ (zF hj)
  simp at this;omega
section
variable {P : Program} {B nb N : Nat} {Q : Exit -> Act -> World -> Prop} {ord : List Nat} {ops : Array Oper}
def PR (ord:List Nat)(n:Nat)(l' l:Array Bool):Prop:=l'.size=n/\l.size=n/\∀k b,l'.getD (ord.idxOf k) b=l.getD k b
theorem PR.set (hp:PermOk ord ops.size){l' l:Array Bool}(hr:PR ord ops.size l' l){k:Nat}(hk:k<ops.size):PR ord ops.size (l'.setIfInBounds (ord.idxOf k) true) (l.setIfInBounds k true):=by
 refine⟨by simpa using hr.1,by simpa using hr.2.1,fun m b=> ?_⟩
 have h0:=hr.2.2 m b
 simp only[zG,zH]at h0 ⊢
 have hi:=hp.idx k hk
 by_cases e:k=m
 ·subst e
  rw[iP rfl,iP rfl,iP (by rw[hr.1];exact hi),iP (by rw[hr.2.1];exact hk)]
 ·have hne:¬ord.idxOf k=ord.idxOf m:=by
   intro e'
   by_cases hm:m<ops.size
   ·have a1:=hp.at_ k hk (by rw[hp.len];exact hi)
    have a2:=hp.at_ m hm (by rw[hp.len];exact hp.idx m hm)
    have:ord[ord.idxOf k]'(by rw[hp.len];exact hi)=ord[ord.idxOf m]'(by rw[hp.len];exact hp.idx m hm):=by congr 1
    rw[a1,a2]at this
    exact e this
   ·rw[hp.out m (by omega)]at e';omega
  rw[iN hne,iN e];exact h0
def ZK8 (ord:List Nat)(l:List Oper):List Oper:=ord.map fun k=>l.getD k ZOx
variable {l:List Oper}
theorem ZIQ :ZK8 [] l=[]:=rfl
theorem ZHE {k:Nat}{r:List Nat}:ZK8 (k::r) l=l.getD k ZOx::ZK8 r l:=rfl
def ZPE (ops ops':Array Oper)(o o':Oper):Prop:=o'.op=o.op/\o'.dst=o.dst/\((o.guard=none/\o'.guard=none)∨∃j j' b,o.guard=some (j,b)/\o'.guard=some (j',b)/\(ops'[j']?).bind (·.dst)=(ops[j]?).bind (·.dst))
theorem ZNU {fs:List FuncId}{bo:Box ops}{o:Oper}{xs:List Nat}{ts:List (Nat×Nat)}{fr:Frm}{ss:List ZB}{ps:List AV}{ls:Lds}{K:Frm->ZB->Prop}{k:Box K}:
  aL fs P B N (hold ops bo) (o::l) xs ts fr ss ps ls (hold K k)=aL fs P B N (hold ops bo) (hold (o::l) .mk) xs ts fr ss ps ls (hold K k):=id rfl
attribute [simp] ZIQ ZHE ZNU
end
end Go.Vl
