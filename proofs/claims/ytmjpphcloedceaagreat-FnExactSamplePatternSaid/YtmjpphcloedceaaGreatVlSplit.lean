/- Part. -/
import Derived.Test.YtmjpphcloedceaaGreatVlBor
set_option linter.all false
open Option renaming map_some->zA,map_eq_some_iff->zB
open Bool renaming and_eq_true->zC,or_eq_true->zD
open List renaming eq_nil_iff_forall_not_mem->zE,all_eq_true->zF,getElem?_eq_getElem->zG,range->zH,getElem_mem->zI
open Array renaming getD_eq_getD_getElem?->zJ,getElem?_setIfInBounds->zK,getElem?_replicate->zL,getElem?_eq_some_iff->zM,getElem?_eq_none->zN,mem_map->zO
namespace Go.Vl
open Go Go.RowKit
open Go.Sem renaming run_bind->zP,run_pure->zQ
open Go.Result renaming andThen->zR,andThen_ok->zS
open Go.Region renaming ready->zT,wanted->zU,binds->zV
open Go.Oper renaming asks->zW,wp->zX,upon->zY
def ZDB :Op->Bool
 | .move _| .assign _| .pick _ _ _| .alloc _| .box _ _| .build _ _| .buildSlice _ _ _| .load _ _| .store _ _ _| .binOp _ _ _ _ _| .unOp _ _ _| .convert _ _ _| .makeFunc _ _ _| .makeSlice _ _ _| .slice _ _ _ _ _
 | .fieldAddr _ _ _| .indexAddr _ _ _| .index _ _ _| .extract _ _=>true
 | .call {callee:=.builtin .append,.. }| .call {callee:=.builtin .len,.. }=>true
 |_=>false
def ZCL :Result Next->Prop
 | .ok (.enter _ _) _| .ok (.row _ _) _=>False
 |_=>True
variable {P:Program}{w:World}
theorem ZHM (s:Sem Value):ZCL ((do pure (.value (←s)):Sem Next).run P w):=by
 simp only[zP]
 cases s.run P w<;>simp[zR,ZCL]
theorem ZKP (s:Sem Unit):ZCL ((do s;pure .skip:Sem Next).run P w):=by
 simp only[zP]
 cases s.run P w<;>simp[zR,ZCL]
variable {o:Oper}
theorem ZJC (h:ZDB o.op=true)(ρ:Operand->Value):ZCL ((execOp ρ o).run P w):=by
 obtain⟨dst,op,ty,pos,after,guard⟩:=o
 simp only at h
 unfold execOp
 cases op<;>first
  |(next c=>
    obtain⟨cal,args,ts⟩:=c
    cases cal with
    |builtin b=>
     cases b<;>first
      |(cases h;done)
      |(simp only[resolve,invoke,builtin,zP,zQ,zS];exact ZHM _)
      |(simp only[resolve,invoke,builtin,zP,zQ,zS];generalize Sem.run P _ w=r;cases r<;>simp[zR,ZCL])
    |_=>cases h)
  |(cases h;done)
  |exact ZHM _
  |exact ZKP _
  |(simp[ZCL];done)
  |(simp only[zP];generalize Sem.run P (asBool _) w=r;cases r<;>simp[zR,ZCL])
variable {a:Act}{Q:Exit->Act->World->Prop}{r:Result Next}
theorem ZKC {n1 n2:Act->World->Prop}(hr:ZCL r)(h1:o.upon P a n1 Q r)(h2:o.upon P a n2 Q r):
  o.upon P a (fun a w=>n1 a w/\n2 a w) Q r:=by
 cases r with
 |ok nx w=>
  cases nx<;>first
   |exact hr.elim
   |exact⟨h1,h2⟩
   |exact h1.elim
 |halt h w=>cases h<;>exact h1
variable {ops:Array Oper}{i:Nat}
theorem ZKB {K1 K2:Act->World->Prop}(hs:∀o,ops[i]? =some o->ZDB o.op=true)(h1:wpOp P ops Q i K1 a w)(h2:wpOp P ops Q i K2 a w):wpOp P ops Q i (fun a w=>K1 a w/\K2 a w) a w:=by
 unfold wpOp at h1 h2 ⊢
 cases ho:ops[i]? with
 |none=>rw[ho]at h1 h2;exact⟨h1,h2⟩
 |some o=>
  rw[ho]at h1 h2
  simp only at h1 h2 ⊢
  split
  ·next hw=>
   rw[iP hw]at h1 h2
   rcases h1 with h1|h1
   ·rcases h2 with h2|h2
    ·exact .inl (ZKC (ZJC (hs o ho) _) h1 h2)
    ·exact .inr h2
   ·exact .inr h1
  ·next hw=>
   rw[iN hw]at h1 h2
   exact⟨h1,h2⟩
def ZBf (ops:Array Oper)(i j:Nat):Array Oper:=ops.mapIdx fun k o=>if k=j then{o with after:=o.after.push ⟨i,.data⟩}else o
def Zr :List (Nat×Nat)->Array Oper->Array Oper
 | [],ops=>ops
 |(i,j)::r,ops=>Zr r (ZBf ops i j)
theorem ZIV (es:List (Nat×Nat))(i j:Nat):∀ops,Zr (es++[(i,j)]) ops=ZBf (Zr es ops) i j:=by
 induction es with
 |nil=>intro ops;rfl
 |cons e r ih=>obtain⟨a,b⟩:=e;intro ops;exact ih _
variable {j k:Nat}
theorem ZAw :(ZBf ops i j)[k]? =(ops[k]?).map fun o=>if k=j then{o with after:=o.after.push ⟨i,.data⟩}else o:=by
 unfold ZBf;rw[Array.getElem?_mapIdx]
theorem addE_size :(ZBf ops i j).size=ops.size:=by simp[ZBf]
theorem ZHi :((ZBf ops i j)[k]?).bind (·.dst)=(ops[k]?).bind (·.dst):=by
 rw[ZAw]
 cases ops[k]? with
 |none=>rfl
 |some o=>by_cases e:k=j<;>simp[e]
variable {listed:Array Bool}
theorem ZW :k∈zT .any (ZBf ops i j) listed↔k∈zT .any ops listed/\(k=j->listed.getD i false=true):=by
 rw[mem_ready,mem_ready,ZAw]
 constructor
 ·rintro⟨h0,o,ho,ha⟩
  obtain⟨p,hp,rfl⟩:=zB.1 ho
  refine⟨⟨h0,p,hp,fun e he hb=> ?_⟩,fun e=> ?_⟩
  ·refine ha e ?_ hb
   by_cases ek:k=j
   ·rw[iP ek];exact Array.mem_push_of_mem _ he
   ·rw[iN ek];exact he
  ·rw[iP e]at ha
   exact ha ⟨i,.data⟩ Array.mem_push_self rfl
 ·rintro⟨⟨h0,p,hp,ha⟩,hj⟩
  refine⟨h0,_,by rw[hp];rfl,fun e he hb=> ?_⟩
  dsimp only at he
  by_cases ek:k=j
  ·rw[iP ek]at he
   rcases Array.mem_push.1 he with he|rfl
   ·exact ha e he hb
   ·exact hj ek
  ·rw[iN ek]at he;exact ha e he hb
variable {x:Array Edge}{g:Option (Nat×Bool)}
theorem ZCz {ρ:Operand->Value}:execOp ρ {o with after:=x,guard:=g}=execOp ρ o:=by
 obtain⟨dst,op,ty,pos,after,guard⟩:=o
 unfold execOp
 cases op<;>rfl
variable {next:Act->World->Prop}
theorem ZHm :
  zY P {o with after:=x,guard:=g} a next Q r=zY P o a next Q r:=by
 cases r with
 |ok nx w=>cases nx<;>rfl
 |halt h w=>cases h<;>rfl
theorem ZG8 :
  zX P {o with after:=x,guard:=g} a w next Q=zX P o a w next Q:=by
 unfold zX
 rw[ZCz,ZHm]
theorem ZET :zW P {o with after:=x,guard:=g} a w=zW P o a w:=by
 unfold zW
 simp only[ZCz]
theorem ZAY {K:Act->World->Prop}:wpOp P (ZBf ops i j) Q k K a w↔wpOp P ops Q k K a w:=by
 have hy:∀t,yielded (ZBf ops i j) t=yielded ops t:=by
  intro t;funext m
  unfold yielded
  rw[ZHi]
 unfold wpOp
 rw[ZAw,hy]
 cases ops[k]? with
 |none=>exact Iff.rfl
 |some o=>
  simp only[zA]
  by_cases e:k=j
  ·rw[iP e]
   have h1:zX P {o with after:=o.after.push ⟨i,.data⟩} a w K Q=zX P o a w K Q:=ZG8 (g:=o.guard)
   have h2:zW P {o with after:=o.after.push ⟨i,.data⟩} a w=zW P o a w:=ZET (g:=o.guard)
   have h3:zU {o with after:=o.after.push ⟨i,.data⟩} (yielded ops a.tmps)=zU o (yielded ops a.tmps):=rfl
   rw[h1,h2,h3]
  ·rw[iN e]
def waitB (ops:Array Oper)(i:Nat):Nat->Nat->Bool
 |0,_=>false
 |d+1,k=>match ops[k]? with
  |some o=>o.after.toList.any fun e=>zV .any e&& (e.on==i||waitB ops i d e.on)
  |none=>false
def ZB9 (ops:Array Oper)(listed:Array Bool):Prop:=∀(k:Nat) (o:Oper),ops[k]? =some o->listed.getD k false=true->∀e∈o.after,zV .any e=true->listed.getD e.on false=true
theorem ZHl :∀(d k:Nat),ops[k]? =none->waitB ops i d k=false
 |0,k,h=>by rw[waitB]
 |d+1,k,h=>by rw[waitB,h]
theorem ZDA (hc:ZB9 ops listed):∀(d k:Nat) (o:Oper),ops[k]? =some o->(∀e∈o.after,zV .any e=true->listed.getD e.on false=true)->waitB ops i d k=true->listed.getD i false=true:=by
 intro d
 induction d with
 |zero=>intro k o _ _ h;rw[waitB]at h;cases h
 |succ d ih=>
  intro k o ho ha h
  rw[waitB,ho]at h
  obtain⟨e,he,hb⟩:=List.any_eq_true.1 h
  rw[zC,zD]at hb
  have hl:=ha e (Array.mem_toList_iff.1 he) hb.1
  rcases hb.2 with q|q
  ·rw[←beq_iff_eq.1 q];exact hl
  ·cases hk:ops[e.on]? with
   |none=>rw[ZHl d _ hk]at q;cases q
   |some p=>exact ih e.on p hk (hc e.on p hk hl) q
def ZIn (ops:Array Oper)(i j:Nat):Bool:=
 i !=j&& decide (i<ops.size)&& decide (j<ops.size)&& (zH ops.size).all fun k=>k==i||k==j||waitB ops i ops.size k||waitB ops j ops.size k||match ops[k]? with
  |some o=>ZDB o.op
  |none=>true
theorem ZDh (hc:ZB9 ops listed)(hk:k∈zT .any ops listed):ZB9 ops (listed.setIfInBounds k true):=by
 obtain⟨_,o,ho,ha⟩:=mem_ready.1 hk
 have up:∀x,listed.getD x false=true->(listed.setIfInBounds k true).getD x false=true:=by
  intro x hx
  simp only[zJ,zK]at hx ⊢
  split
  ·split<;>simp_all
  ·exact hx
 intro m p hp hl e he hb
 by_cases em:m=k
 ·subst em
  rw[ho]at hp;obtain rfl:=Option.some.inj hp
  exact up _ (ha e he hb)
 ·refine up _ (hc m p hp ?_ e he hb)
  simp only[zJ,zK]at hl ⊢
  rw[iN (fun h=>em h.symm)]at hl
  exact hl
section
variable {P : Program} {B nb N : Nat} {Q : Exit -> Act -> World -> Prop}
variable {listed:Array Bool}
theorem ZKs {k i:Nat}(h:listed.getD i false=true):(listed.setIfInBounds k true).getD i false=true:=by
 simp only[zJ,zK]at h ⊢
 split
 ·split<;>simp_all
 ·exact h
theorem ZAg {k:Nat}(h:k<listed.size):(listed.setIfInBounds k true).getD k false=true:=by
 simp[zJ,h]
theorem ZBS {ops:Array Oper}{i j:Nat}:∀(fuel:Nat) (listed:Array Bool) (a:Act) (w:World),listed.getD i false=true->wpAny P .any (ZBf ops i j) Q fuel listed a w->wpAny P .any ops Q fuel listed a w
 |0,listed,a,w,hl,h=>by
  refine⟨zE.2 fun k hk=> ?_,h.2⟩
  have:=(ZW (j:=j)).2 ⟨hk,fun _=>hl⟩
  rw[h.1]at this;cases this
 |fuel+1,listed,a,w,hl,h=>by
  refine⟨fun hr=>h.1 (zE.2 fun k hk=> ?_),fun k hk=> ?_⟩
  ·have:=(ZW.1 hk).1
   rw[hr]at this;cases this
  ·have:=ZAY.1 (h.2 k (ZW.2 ⟨hk,fun _=>hl⟩))
   exact wpOp_mono (fun a' w' h'=>ZBS fuel _ a' w' (ZKs hl) h') this
variable {ops:Array Oper}
theorem ZF8 {i j:Nat}(hs:ZIn ops i j=true):∀(fuel:Nat) (listed:Array Bool) (a:Act) (w:World),listed.size=ops.size->ZB9 ops listed->listed.getD i false=false->listed.getD j false=false->
  wpAny P .any (ZBf ops i j) Q fuel listed a w->wpAny P .any (ZBf ops j i) Q fuel listed a w->wpAny P .any ops Q fuel listed a w:=by
 unfold ZIn at hs
 simp only[zC,bne_iff_ne,decide_eq_true_eq]at hs
 obtain⟨⟨⟨hij,hi⟩,hj⟩,hs⟩:=hs
 intro fuel
 have split0:∀(listed:Array Bool) k,k∈zT .any ops listed->k∈zT .any (ZBf ops i j) listed∨k∈zT .any (ZBf ops j i) listed:=by
  intro listed k hk
  by_cases e:k=j
  ·exact .inr (ZW.2 ⟨hk,fun e'=>absurd (e'.symm.trans e) hij⟩)
  ·exact .inl (ZW.2 ⟨hk,fun e'=>absurd e' e⟩)
 induction fuel with
 |zero=>
  intro listed a w hsz hc h0 h1 ha hb
  refine⟨zE.2 fun k hk=> ?_,ha.2⟩
  rcases split0 listed k hk with q|q
  ·rw[ha.1]at q;cases q
  ·rw[hb.1]at q;cases q
 |succ fuel ih=>
  intro listed a w hsz hc h0 h1 ha hb
  refine⟨fun hr=>ha.1 (zE.2 fun k hk=> ?_),fun k hk=> ?_⟩
  ·have:=(ZW.1 hk).1
   rw[hr]at this;cases this
  ·by_cases ei:k=i
   ·subst ei
    have:=ZAY.1 (ha.2 k (ZW.2 ⟨hk,fun e=>absurd e hij⟩))
    exact wpOp_mono (fun a' w' h'=>ZBS fuel _ a' w' (ZAg (by rw[hsz];exact hi)) h') this
   by_cases ej:k=j
   ·subst ej
    have:=ZAY.1 (hb.2 k (ZW.2 ⟨hk,fun e=>absurd e (Ne.symm hij)⟩))
    exact wpOp_mono (fun a' w' h'=>ZBS fuel _ a' w' (ZAg (by rw[hsz];exact hj)) h') this
   obtain⟨_,o,ho,hall⟩:=mem_ready.1 hk
   have hkl:k<ops.size:=(zM.1 ho).1
   have hsi:∀p,ops[k]? =some p->ZDB p.op=true:=by
    intro p hp
    have:=zF.1 hs k (by simpa using hkl)
    simp only[zD,beq_iff_eq]at this
    rcases this with(((q|q)|q)|q)|q
    ·exact absurd q ei
    ·exact absurd q ej
    ·rw[ZDA hc _ k o ho hall q]at h0;cases h0
    ·rw[ZDA hc _ k o ho hall q]at h1;cases h1
    ·rw[hp]at q;exact q
   have h2:=ZKB hsi (ZAY.1 (ha.2 k (ZW.2 ⟨hk,fun e=>absurd e ej⟩))) (ZAY.1 (hb.2 k (ZW.2 ⟨hk,fun e=>absurd e ei⟩)))
   have keep:∀x,x≠k->listed.getD x false=false->(listed.setIfInBounds k true).getD x false=false:=by
    intro x hx hl
    simp only[zJ,zK]at hl ⊢
    rw[iN (fun h=>hx h.symm)];exact hl
   exact wpOp_mono (fun a' w' h'=>ih _ a' w' (by simpa using hsz) (ZDh hc hk) (keep i (Ne.symm ei) h0) (keep j (Ne.symm ej) h1) h'.1 h'.2) h2
variable {K:ASt->Prop}
theorem ADraw.opn {b:Box ops}{st:ASt}{b':Box K}(h:ADraw P B nb N (Zr [] ops) st (hold K .mk)):ADraw P B nb N (hold ops b) st (hold K b'):=h
theorem ADraw.split {st:ASt}(es es1 es2:List (Nat×Nat))(i j:Nat)(he1:es1=es++[(i,j)])(he2:es2=es++[(j,i)])(hs:ZIn (Zr es ops) i j=true)(h1:ADraw P B nb N (Zr es1 ops) st K)(h2:ADraw P B nb N (Zr es2 ops) st K):
  ADraw P B nb N (Zr es ops) st K:=by
 subst he1 he2
 rw[ZIV]at h1 h2
 refine⟨h1.1,fun m0 w0 m a w hsim Q hn=> ?_⟩
 have a1:=h1.2 m0 w0 m a w hsim Q hn
 have a2:=h2.2 m0 w0 m a w hsim Q hn
 rw[addE_size]at a1 a2
 refine ZF8 hs _ _ a w (by simp) (fun k o ho hl=> ?_) ?_ ?_ a1 a2
 ·simp[zJ,zL]at hl
  split at hl<;>simp at hl
 ·simp[zJ,zL];split<;>rfl
 ·simp[zJ,zL];split<;>rfl
end
def ZBn :Oper:=⟨none,.move (.tmp 0),0, "",#[],none⟩
def ZDw (ord:List Nat)(o:Oper):Oper:={o with after:=o.after.map fun e=>{e with on:=ord.idxOf e.on},guard:=o.guard.map fun g=>(ord.idxOf g.1,g.2)}
def Zm (ord:List Nat)(ops:Array Oper):Array Oper:=(ord.map fun k=>ZDw ord (ops.getD k ZBn)).toArray
def ZDx (ord:List Nat)(n:Nat):Bool:=
 decide (ord.length=n)&& ord.all (fun k=>decide (k<n))&& (zH n).all (fun k=>decide (ord.idxOf k<n))&& (zH n).all fun k=>decide (ord.idxOf (ord.getD k 0)=k)
structure PermOk (ord:List Nat)(n:Nat):Prop where
 len:ord.length=n
 lt:∀k (h:k<ord.length),ord[k]<n
 idx:∀k,k<n->ord.idxOf k<n
 inv:∀k (h:k<ord.length),ord.idxOf ord[k]=k
 at_:∀k,k<n->∀h:ord.idxOf k<ord.length,ord[ord.idxOf k]=k
 out:∀k,n<=k->ord.idxOf k=n
theorem PermOk.of {ord:List Nat}{n:Nat}(h:ZDx ord n=true):PermOk ord n:=by
 unfold ZDx at h
 simp only[zC,decide_eq_true_eq]at h
 obtain⟨⟨⟨h1,h2⟩,h3⟩,h4⟩:=h
 refine⟨h1,fun k hk=> ?_,fun k hk=> ?_,fun k hk=> ?_,fun k hk hh=>List.getElem_idxOf hh,fun k hk=> ?_⟩
 ·have:=zF.1 h2 _ (zI hk);simpa using this
 ·have:=zF.1 h3 k (by simpa using hk);simpa using this
 ·have:=zF.1 h4 k (by simp;omega)
  simp only[decide_eq_true_eq]at this
  rw[List.getD_eq_getElem?_getD,zG hk]at this
  exact this
 ·rw[←h1]
  refine List.idxOf_eq_length fun hm=> ?_
  obtain⟨j,hj,rfl⟩:=List.getElem_of_mem hm
  have:=zF.1 h2 _ (zI hj)
  simp at this;omega
section
variable {P : Program} {B nb N : Nat} {Q : Exit -> Act -> World -> Prop} {ord : List Nat} {ops : Array Oper}
theorem ZA4 :(Zm ord ops).size=ord.length:=by simp[Zm]
theorem ZCM (hp:PermOk ord ops.size)(k:Nat):(Zm ord ops)[ord.idxOf k]? =(ops[k]?).map (ZDw ord):=by
 by_cases hk:k<ops.size
 ·have h1:=hp.idx k hk
  have h2:ord.idxOf k<ord.length:=by rw[hp.len];exact h1
  unfold Zm
  rw[List.getElem?_toArray,List.getElem?_map,zG h2,hp.at_ k hk h2]
  simp[hk]
 ·rw[zN (by rw[ZA4,hp.len,hp.out k (by omega)];exact Nat.le_refl _),zN (by omega)];rfl
theorem ZFH (hp:PermOk ord ops.size)(k:Nat):((Zm ord ops)[ord.idxOf k]?).bind (·.dst)=(ops[k]?).bind (·.dst):=by
 rw[ZCM hp]
 cases ops[k]? <;>rfl
def PR (ord:List Nat)(n:Nat)(l' l:Array Bool):Prop:=l'.size=n/\l.size=n/\∀k b,l'.getD (ord.idxOf k) b=l.getD k b
variable {l':Array Bool}
theorem ZCf (hp:PermOk ord ops.size){l:Array Bool}(hr:PR ord ops.size l' l)(k:Nat):ord.idxOf k∈zT .any (Zm ord ops) l'↔k∈zT .any ops l:=by
 rw[mem_ready,mem_ready,ZCM hp,hr.2.2]
 constructor
 ·rintro⟨h0,o,ho,ha⟩
  obtain⟨p,hpp,rfl⟩:=zB.1 ho
  refine⟨h0,p,hpp,fun e he hb=> ?_⟩
  have:=ha {e with on:=ord.idxOf e.on} (zO.2 ⟨e,he,rfl⟩) hb
  rw[←hr.2.2];exact this
 ·rintro⟨h0,p,hpp,ha⟩
  refine⟨h0,_,by rw[hpp];rfl,fun e he hb=> ?_⟩
  obtain⟨e',he',rfl⟩:=zO.1 he
  show l'.getD (ord.idxOf e'.on) false=true
  rw[hr.2.2];exact ha e' he' hb
variable {k:Nat}
theorem ZJG (hp:PermOk ord ops.size)(h:k∈zT .any (Zm ord ops) l'):∃m,k=ord.idxOf m:=by
 obtain⟨_,o,ho,_⟩:=mem_ready.1 h
 have hk:k<ord.length:=by rw[←ZA4 (ops:=ops)];exact(zM.1 ho).1
 exact⟨ord[k],(hp.inv k hk).symm⟩
theorem ZJF (hp:PermOk ord ops.size){K:Act->World->Prop}{a:Act}{w:World}:wpOp P (Zm ord ops) Q (ord.idxOf k) K a w↔wpOp P ops Q k K a w:=by
 have hy:∀t j,yielded (Zm ord ops) t (ord.idxOf j)=yielded ops t j:=by
  intro t j
  unfold yielded
  rw[ZFH hp]
 unfold wpOp
 rw[ZCM hp]
 cases ops[k]? with
 |none=>exact Iff.rfl
 |some o=>
  simp only[zA]
  have h1:zX P (ZDw ord o) a w K Q=zX P o a w K Q:=ZG8
  have h2:zW P (ZDw ord o) a w=zW P o a w:=ZET
  have h3:zU (ZDw ord o) (yielded (Zm ord ops) a.tmps)=zU o (yielded ops a.tmps):=by
   unfold zU ZDw
   cases o.guard with
   |none=>rfl
   |some g=>simp only[zA];rw[hy]
  rw[h1,h2,h3];exact Iff.rfl
theorem PR.set (hp:PermOk ord ops.size){l:Array Bool}(hr:PR ord ops.size l' l)(hk:k<ops.size):PR ord ops.size (l'.setIfInBounds (ord.idxOf k) true) (l.setIfInBounds k true):=by
 refine⟨by simpa using hr.1,by simpa using hr.2.1,fun m b=> ?_⟩
 have h0:=hr.2.2 m b
 simp only[zJ,zK]at h0 ⊢
 have hi:=hp.idx k hk
 by_cases e:k=m
 ·subst e
  rw[iP rfl,iP rfl,iP (by rw[hr.1];exact hi),iP (by rw[hr.2.1];exact hk)]
 ·have hne:¬ord.idxOf k=ord.idxOf m:=by
   intro e'
   by_cases hm:m<ops.size
   ·have a1:=hp.at_ k hk (by rw[hp.len];exact hi)
    have a2:=hp.at_ m hm (by rw[hp.len];exact hp.idx m hm)
    have:ord[ord.idxOf k]'(by rw[hp.len];exact hi)=ord[ord.idxOf m]'(by rw[hp.len];exact hp.idx m hm):=by congr 1
    rw[a1,a2]at this
    exact e this
   ·rw[hp.out m (by omega)]at e';omega
  rw[iN hne,iN e];exact h0
theorem ZD7 (hp:PermOk ord ops.size):∀(fuel:Nat) (l' l:Array Bool) (a:Act) (w:World),PR ord ops.size l' l->wpAny P .any (Zm ord ops) Q fuel l' a w->wpAny P .any ops Q fuel l a w:=by
 have nil:∀(l' l:Array Bool),PR ord ops.size l' l->(zT .any (Zm ord ops) l'=[]↔zT .any ops l=[]):=by
  intro l' l hr
  constructor
  ·intro h
   refine zE.2 fun k hk=> ?_
   have:=(ZCf hp hr k).2 hk
   rw[h]at this;cases this
  ·intro h
   refine zE.2 fun k hk=> ?_
   obtain⟨m,rfl⟩:=ZJG hp hk
   have:=(ZCf hp hr m).1 hk
   rw[h]at this;cases this
 intro fuel
 induction fuel with
 |zero=>intro l' l a w hr h;exact⟨(nil l' l hr).1 h.1,h.2⟩
 |succ fuel ih=>
  intro l' l a w hr h
  refine⟨fun h0=>h.1 ((nil l' l hr).2 h0),fun k hk=> ?_⟩
  have hkl:k<ops.size:=by
   obtain⟨_,o,ho,_⟩:=mem_ready.1 hk
   exact(zM.1 ho).1
  exact wpOp_mono (fun a' w' h'=>ih _ _ a' w' (hr.set hp hkl) h') ((ZJF hp).1 (h.2 _ ((ZCf hp hr k).2 hk)))
theorem ADraw.perm {st:ASt}{K:ASt->Prop}(ord:List Nat)(hp:ZDx ord ops.size=true)(h:ADraw P B nb N (Zm ord ops) st K):ADraw P B nb N ops st K:=by
 have hk:=PermOk.of hp
 refine⟨h.1,fun m0 w0 m a w hsim Q hn=> ?_⟩
 have a1:=h.2 m0 w0 m a w hsim Q hn
 rw[ZA4,hk.len]at a1
 refine ZD7 hk _ _ _ a w ⟨by simp,by simp,fun k b=> ?_⟩ a1
 simp only[zJ,zL]
 by_cases e:k<ops.size
 ·rw[iP e,iP (hk.idx k e)]
 ·rw[iN e,iN (by rw[hk.out k (by omega)];omega)]
def ZAf (ord:List Nat)(l:List Oper):List Oper:=ord.map fun k=>l.getD k ZBn
variable {l:List Oper}
theorem ZBW :ZAf [] l=[]:=rfl
theorem ZA5 {r:List Nat}:ZAf (k::r) l=l.getD k ZBn::ZAf r l:=rfl
def ZGG (ops ops':Array Oper)(o o':Oper):Prop:=o'.op=o.op/\o'.dst=o.dst/\((o.guard=none/\o'.guard=none)∨∃j j' b,o.guard=some (j,b)/\o'.guard=some (j',b)/\(ops'[j']?).bind (·.dst)=(ops[j]?).bind (·.dst))
variable {K1 K2:AV->ZE->Prop}
theorem ZHh {op:Op}{ρ:Operand->AV}{σ:ZE}(hk:∀r s,K1 r s->K2 r s)(h:aef P B op ρ σ K1):aef P B op ρ σ K2:=by
 obtain⟨r,s,h1,h2⟩:=ZDQ P B op ρ σ K1 h
 exact h2 K2 (hk r s h1)
variable {fs:List FuncId}{fr:Frm}
theorem ZF0 {op:Op}{σ:ZE}(hk:∀r s,K1 r s->K2 r s)(h:ZIe fs P B op fr σ K1):ZIe fs P B op fr σ K2:=by
 unfold ZIe at h ⊢
 split
 ·next he=>
  rw[iP he]at h
  split
  ·next f args ts=>
   simp only at h
   unfold ZBE at h ⊢
   split
   ·next i first cap hf=>
    rw[hf]at h
    obtain⟨r,σ',q1,q2⟩:=h
    exact⟨r,σ',q1,hk _ _ q2⟩
   ·next hn=>
    split at h
    ·next i first cap hf=>exact absurd hf (hn _ _ _)
    ·exact h.elim
  ·next hn=>
   split at h
   ·next f args ts=>exact absurd rfl (hn _ _ _)
   ·exact ZHh hk h
 ·next he=>
  rw[iN he]at h
  unfold ZCY at h ⊢
  split
  ·next f args ts=>
   simp only at h
   exact PCall.mono h fun r hr=>hk _ _ hr
  ·next hn=>
   split at h
   ·next f args ts=>exact absurd rfl (hn _ _ _)
   ·exact ZHh (fun r s hh=>⟨hh.1,hk _ _ hh.2⟩) h
variable {ops':Array Oper}
theorem ZES {o o':Oper}{K1 K2 K1' K2':Prop}(h3:(o.guard=none/\o'.guard=none)∨∃j j' b,o.guard=some (j,b)/\o'.guard=some (j',b)/\(ops'[j']?).bind (·.dst)=(ops[j]?).bind (·.dst))(a1:K1->K1')(a2:K2->K2')(hw:ZAX ops fr o.guard K1 K2):ZAX ops' fr o'.guard K1' K2':=by
 rcases h3 with⟨g1,g2⟩|⟨j,j',b,g1,g2,g3⟩
 ·rw[g1]at hw;rw[g2];exact a1 hw
 ·rw[g1]at hw;rw[g2]
  unfold ZAX at hw ⊢
  simp only at hw ⊢
  rw[g3]
  cases hd:(ops[j]?).bind (·.dst)with
  |none=>rw[hd]at hw;exact hw.elim
  |some d=>
   rw[hd]at hw
   simp only at hw ⊢
   cases hv:lk fr d with
   |lit v=>
    rw[hv]at hw
    simp only at hw ⊢
    split
    ·next hb=>rw[iP hb]at hw;exact a1 hw
    ·next hb=>rw[iN hb]at hw;exact a2 hw
   |_=>rw[hv]at hw;exact hw.elim
variable {K:Frm->ZE->Prop}
theorem ZM5 (l:List Oper):∀(l':List Oper) (xs:List Nat) (ts:List (Nat×Nat)) (fr:Frm) (ss:List ZE) (ps:List AV) (ls:Lds),l'.length=l.length->(∀(i:Nat) (o o':Oper),l[i]? =some o->l'[i]? =some o'->ZGG ops ops' o o')->
  aL fs P B N ops l xs ts fr ss ps ls K->aL fs P B N ops' l' xs ts fr ss ps ls K:=by
 induction l with
 |nil=>
  intro l' xs ts fr ss ps ls hl _ h
  have:l'=[]:=List.eq_nil_of_length_eq_zero hl
  subst this;exact h
 |cons o r ih=>
  intro l' xs ts fr ss ps ls hl hs h
  cases l' with
  |nil=>simp at hl
  |cons o' r'=>
   obtain⟨h1,h2,h3⟩:=hs 0 o o' rfl rfl
   have ih':=fun xs ts fr ss ps ls=>ih r' xs ts fr ss ps ls (by simpa using hl) (fun i p p' hp hp'=>hs (i+1) p p' (by simpa using hp) (by simpa using hp'))
   clear ih hs
   rw[aL]at h
   rw[aL,h1,h2]
   refine ZES h3 ?_ ?_ h
   ·rintro⟨c1,c2⟩
    exact⟨c1,ZF0 (fun r σ' hh=>⟨hh.1,ih' _ _ _ _ _ _ hh.2⟩) c2⟩
   ·rintro⟨c1,c2⟩
    exact⟨c1,ih' _ _ _ _ _ _ c2⟩
theorem ZFx (es:List (Nat×Nat))(k:Nat):∀ops:Array Oper,∃g:Oper->Oper,(∀o,(g o).op=o.op/\(g o).dst=o.dst/\(g o).guard=o.guard)/\(Zr es ops)[k]? =(ops[k]?).map g:=by
 induction es with
 |nil=>intro ops;exact⟨id,fun o=>⟨rfl,rfl,rfl⟩,by simp[Zr]⟩
 |cons e r ih=>
  obtain⟨i,j⟩:=e
  intro ops
  obtain⟨g,h1,h2⟩:=ih (ZBf ops i j)
  refine⟨fun o=>g (if k=j then{o with after:=o.after.push ⟨i,.data⟩}else o),fun o=> ?_,?_⟩
  ·obtain⟨a1,a2,a3⟩:=h1 (if k=j then{o with after:=o.after.push ⟨i,.data⟩}else o)
   rw[a1,a2,a3]
   split<;>exact⟨rfl,rfl,rfl⟩
  ·show(Zr r (ZBf ops i j))[k]? =_
   rw[h2,ZAw,Option.map_map];rfl
theorem ZBr (es:List (Nat×Nat)):∀ops:Array Oper,(Zr es ops).size=ops.size:=by
 induction es with
 |nil=>intro ops;rfl
 |cons e r ih=>obtain⟨i,j⟩:=e;intro ops;exact(ih _).trans addE_size
theorem ZOP {bo:Box ops}{o:Oper}{xs:List Nat}{ts:List (Nat×Nat)}{ss:List ZE}{ps:List AV}{ls:Lds}{k:Box K}:
  aL fs P B N (hold ops bo) (o::l) xs ts fr ss ps ls (hold K k)=aL fs P B N (hold ops bo) (hold (o::l) .mk) xs ts fr ss ps ls (hold K k):=id rfl
attribute [simp] ZBW ZA5 ZOP
end
end Go.Vl
