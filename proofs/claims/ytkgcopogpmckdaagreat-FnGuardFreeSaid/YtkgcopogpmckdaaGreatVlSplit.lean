/- The value-level layer: drawn regions with effects that stand in no order. -/
import Derived.Test.YtkgcopogpmckdaaGreatVlBor
set_option linter.all false
namespace Go.Vl
open Go Go.RowKit
def simpleOp :Op→Bool
 | .move _| .assign _| .pick _ _ _| .alloc _| .box _ _| .build _ _| .buildSlice _ _ _| .load _ _| .store _ _ _| .binOp _ _ _ _ _| .unOp _ _ _| .convert _ _ _| .makeFunc _ _ _| .makeSlice _ _ _| .slice _ _ _ _ _
 | .fieldAddr _ _ _| .indexAddr _ _ _| .index _ _ _| .extract _ _=>true
 | .call {callee:=.builtin .append,.. }| .call {callee:=.builtin .len,.. }=>true
 |_=>false
def plainR :Result Next→Prop
 | .ok (.enter _ _) _| .ok (.row _ _) _=>False
 |_=>True
def addE (ops:Array Oper)(i j:Nat):Array Oper:=ops.mapIdx fun k o=>if k=j then{o with after:=o.after.push ⟨i,.data⟩}else o
def addEs :List (Nat×Nat)→Array Oper→Array Oper
 | [],ops=>ops
 |(i,j)::r,ops=>addEs r (addE ops i j)
theorem addE_get {ops:Array Oper}{i j k:Nat}:(addE ops i j)[k]? =(ops[k]?).map fun o=>if k=j then{o with after:=o.after.push ⟨i,.data⟩}else o:=by
 unfold addE;rw[Array.getElem?_mapIdx]
theorem addE_size {ops:Array Oper}{i j:Nat}:(addE ops i j).size=ops.size:=by simp[addE]
theorem addE_dst {ops:Array Oper}{i j k:Nat}:((addE ops i j)[k]?).bind (·.dst)=(ops[k]?).bind (·.dst):=by
 rw[addE_get]
 cases ops[k]? with
 |none=>rfl
 |some o=>by_cases e:k=j<;>simp[e]
theorem addE_ready {ops:Array Oper}{i j k:Nat}{listed:Array Bool}:k∈Region.ready .any (addE ops i j) listed↔k∈Region.ready .any ops listed∧(k=j→listed.getD i false=true):=by
 rw[mem_ready,mem_ready,addE_get]
 constructor
 ·rintro⟨h0,o,ho,ha⟩
  obtain⟨p,hp,rfl⟩:=Option.map_eq_some_iff.1 ho
  refine⟨⟨h0,p,hp,fun e he hb=> ?_⟩,fun e=> ?_⟩
  ·refine ha e ?_ hb
   by_cases ek:k=j
   ·rw[if_pos ek];exact Array.mem_push_of_mem _ he
   ·rw[if_neg ek];exact he
  ·rw[if_pos e]at ha
   exact ha ⟨i,.data⟩ Array.mem_push_self rfl
 ·rintro⟨⟨h0,p,hp,ha⟩,hj⟩
  refine⟨h0,_,by rw[hp];rfl,fun e he hb=> ?_⟩
  dsimp only at he
  by_cases ek:k=j
  ·rw[if_pos ek]at he
   rcases Array.mem_push.1 he with he|rfl
   ·exact ha e he hb
   ·exact hj ek
  ·rw[if_neg ek]at he;exact ha e he hb
theorem execOp_after {o:Oper}{x:Array Edge}{g:Option (Nat×Bool)}{ρ:Operand→Value}:execOp ρ {o with after:=x,guard:=g}=execOp ρ o:=by
 obtain⟨dst,op,ty,pos,after,guard⟩:=o
 unfold execOp
 cases op<;>rfl
theorem upon_after {P:Program}{o:Oper}{x:Array Edge}{g:Option (Nat×Bool)}{a:Act}{next:Act→World→Prop}{Q:Exit→Act→World→Prop}{r:Result Next}:
  Oper.upon P {o with after:=x,guard:=g} a next Q r=Oper.upon P o a next Q r:=by
 cases r with
 |ok nx w=>cases nx<;>rfl
 |halt h w=>cases h<;>rfl
theorem wp_after {P:Program}{o:Oper}{x:Array Edge}{g:Option (Nat×Bool)}{a:Act}{w:World}{next:Act→World→Prop}{Q:Exit→Act→World→Prop}:
  Oper.wp P {o with after:=x,guard:=g} a w next Q=Oper.wp P o a w next Q:=by
 unfold Oper.wp
 rw[execOp_after,upon_after]
theorem asks_after {P:Program}{o:Oper}{x:Array Edge}{g:Option (Nat×Bool)}{a:Act}{w:World}:Oper.asks P {o with after:=x,guard:=g} a w=Oper.asks P o a w:=by
 unfold Oper.asks
 simp only[execOp_after]
theorem addE_wpOp {P:Program}{ops:Array Oper}{Q:Exit→Act→World→Prop}{i j k:Nat}{K:Act→World→Prop}{a:Act}{w:World}:wpOp P (addE ops i j) Q k K a w↔wpOp P ops Q k K a w:=by
 have hy:∀t,yielded (addE ops i j) t=yielded ops t:=by
  intro t;funext m
  unfold yielded
  rw[addE_dst]
 unfold wpOp
 rw[addE_get,hy]
 cases ops[k]? with
 |none=>exact Iff.rfl
 |some o=>
  simp only[Option.map_some]
  by_cases e:k=j
  ·rw[if_pos e]
   have h1:Oper.wp P {o with after:=o.after.push ⟨i,.data⟩} a w K Q=Oper.wp P o a w K Q:=wp_after (g:=o.guard)
   have h2:Oper.asks P {o with after:=o.after.push ⟨i,.data⟩} a w=Oper.asks P o a w:=asks_after (g:=o.guard)
   have h3:Region.wanted {o with after:=o.after.push ⟨i,.data⟩} (yielded ops a.tmps)=Region.wanted o (yielded ops a.tmps):=rfl
   rw[h1,h2,h3]
  ·rw[if_neg e]
def waitB (ops:Array Oper)(i:Nat):Nat→Nat→Bool
 |0,_=>false
 |d+1,k=>match ops[k]? with
  |some o=>o.after.toList.any fun e=>Region.binds .any e&& (e.on==i||waitB ops i d e.on)
  |none=>false
def closedL (ops:Array Oper)(listed:Array Bool):Prop:=∀(k:Nat) (o:Oper),ops[k]? =some o→listed.getD k false=true→∀e∈o.after,Region.binds .any e=true→listed.getD e.on false=true
theorem waitB_none {ops:Array Oper}{i:Nat}:∀(d k:Nat),ops[k]? =none→waitB ops i d k=false
 |0,k,h=>by rw[waitB]
 |d+1,k,h=>by rw[waitB,h]
theorem waitB_of {ops:Array Oper}{i:Nat}{listed:Array Bool}(hc:closedL ops listed):∀(d k:Nat) (o:Oper),ops[k]? =some o→(∀e∈o.after,Region.binds .any e=true→listed.getD e.on false=true)→waitB ops i d k=true→listed.getD i false=true:=by
 intro d
 induction d with
 |zero=>intro k o _ _ h;rw[waitB]at h;cases h
 |succ d ih=>
  intro k o ho ha h
  rw[waitB,ho]at h
  obtain⟨e,he,hb⟩:=List.any_eq_true.1 h
  rw[Bool.and_eq_true,Bool.or_eq_true]at hb
  have hl:=ha e (Array.mem_toList_iff.1 he) hb.1
  rcases hb.2 with q|q
  ·rw[←beq_iff_eq.1 q];exact hl
  ·cases hk:ops[e.on]? with
   |none=>rw[waitB_none d _ hk]at q;cases q
   |some p=>exact ih e.on p hk (hc e.on p hk hl) q
def splitB (ops:Array Oper)(i j:Nat):Bool:=
 i !=j&& decide (i<ops.size)&& decide (j<ops.size)&& (List.range ops.size).all fun k=>k==i||k==j||waitB ops i ops.size k||waitB ops j ops.size k||match ops[k]? with
  |some o=>simpleOp o.op
  |none=>true
theorem closedL_set {ops:Array Oper}{listed:Array Bool}{k:Nat}(hc:closedL ops listed)(hk:k∈Region.ready .any ops listed):closedL ops (listed.setIfInBounds k true):=by
 obtain⟨_,o,ho,ha⟩:=mem_ready.1 hk
 have up:∀x,listed.getD x false=true→(listed.setIfInBounds k true).getD x false=true:=by
  intro x hx
  simp only[Array.getD_eq_getD_getElem?,Array.getElem?_setIfInBounds]at hx ⊢
  split
  ·split<;>simp_all
  ·exact hx
 intro m p hp hl e he hb
 by_cases em:m=k
 ·subst em
  rw[ho]at hp;obtain rfl:=Option.some.inj hp
  exact up _ (ha e he hb)
 ·refine up _ (hc m p hp ?_ e he hb)
  simp only[Array.getD_eq_getD_getElem?,Array.getElem?_setIfInBounds]at hl ⊢
  rw[if_neg (fun h=>em h.symm)]at hl
  exact hl
section
variable {P : Program} {B nb N : Nat} {Q : Exit → Act → World → Prop}
theorem getD_set {listed:Array Bool}{k i:Nat}(h:listed.getD i false=true):(listed.setIfInBounds k true).getD i false=true:=by
 simp only[Array.getD_eq_getD_getElem?,Array.getElem?_setIfInBounds]at h ⊢
 split
 ·split<;>simp_all
 ·exact h
theorem wpAny_met {ops:Array Oper}{i j:Nat}:∀(fuel:Nat) (listed:Array Bool) (a:Act) (w:World),listed.getD i false=true→wpAny P .any (addE ops i j) Q fuel listed a w→wpAny P .any ops Q fuel listed a w
 |0,listed,a,w,hl,h=>by
  refine⟨List.eq_nil_iff_forall_not_mem.2 fun k hk=> ?_,h.2⟩
  have:=(addE_ready (j:=j)).2 ⟨hk,fun _=>hl⟩
  rw[h.1]at this;cases this
 |fuel+1,listed,a,w,hl,h=>by
  refine⟨fun hr=>h.1 (List.eq_nil_iff_forall_not_mem.2 fun k hk=> ?_),fun k hk=> ?_⟩
  ·have:=(addE_ready.1 hk).1
   rw[hr]at this;cases this
  ·have:=addE_wpOp.1 (h.2 k (addE_ready.2 ⟨hk,fun _=>hl⟩))
   exact wpOp_mono (fun a' w' h'=>wpAny_met fuel _ a' w' (getD_set hl) h') this
end
def dflt :Oper:=⟨none,.move (.tmp 0),0, "",#[],none⟩
def permF (ord:List Nat)(o:Oper):Oper:={o with after:=o.after.map fun e=>{e with on:=ord.idxOf e.on},guard:=o.guard.map fun g=>(ord.idxOf g.1,g.2)}
def permO (ord:List Nat)(ops:Array Oper):Array Oper:=(ord.map fun k=>permF ord (ops.getD k dflt)).toArray
def permB (ord:List Nat)(n:Nat):Bool:=
 decide (ord.length=n)&& ord.all (fun k=>decide (k<n))&& (List.range n).all (fun k=>decide (ord.idxOf k<n))&& (List.range n).all fun k=>decide (ord.idxOf (ord.getD k 0)=k)
structure PermOk (ord:List Nat)(n:Nat):Prop where
 len:ord.length=n
 lt:∀k (h:k<ord.length),ord[k]<n
 idx:∀k,k<n→ord.idxOf k<n
 inv:∀k (h:k<ord.length),ord.idxOf ord[k]=k
 at_:∀k,k<n→∀h:ord.idxOf k<ord.length,ord[ord.idxOf k]=k
 out:∀k,n≤k→ord.idxOf k=n
section
variable {P : Program} {B nb N : Nat} {Q : Exit → Act → World → Prop} {ord : List Nat} {ops : Array Oper}
def PR (ord:List Nat)(n:Nat)(l' l:Array Bool):Prop:=l'.size=n∧l.size=n∧∀k b,l'.getD (ord.idxOf k) b=l.getD k b
def permL (ord:List Nat)(l:List Oper):List Oper:=ord.map fun k=>l.getD k dflt
theorem permL_nil {l:List Oper}:permL [] l=[]:=rfl
theorem permL_cons {k:Nat}{r:List Nat}{l:List Oper}:permL (k::r) l=l.getD k dflt::permL r l:=rfl
def sameG (ops ops':Array Oper)(o o':Oper):Prop:=o'.op=o.op∧o'.dst=o.dst∧((o.guard=none∧o'.guard=none)∨∃j j' b,o.guard=some (j,b)∧o'.guard=some (j',b)∧(ops'[j']?).bind (·.dst)=(ops[j]?).bind (·.dst))
theorem aef_mono {op:Op}{ρ:Operand→AV}{σ:Store}{K1 K2:AV→Store→Prop}(hk:∀r s,K1 r s→K2 r s)(h:aef P B op ρ σ K1):aef P B op ρ σ K2:=by
 obtain⟨r,s,h1,h2⟩:=pt_aef P B op ρ σ K1 h
 exact h2 K2 (hk r s h1)
theorem aLop_mono {fs:List FuncId}{op:Op}{fr:Frm}{σ:Store}{K1 K2:AV→Store→Prop}(hk:∀r s,K1 r s→K2 r s)(h:aLop fs P B op fr σ K1):aLop fs P B op fr σ K2:=by
 unfold aLop at h ⊢
 split
 ·next he=>
  rw[if_pos he]at h
  split
  ·next f args ts=>
   simp only at h
   unfold ECallV at h ⊢
   split
   ·next i first cap hf=>
    rw[hf]at h
    obtain⟨r,σ',q1,q2⟩:=h
    exact⟨r,σ',q1,hk _ _ q2⟩
   ·next hn=>
    split at h
    ·next i first cap hf=>exact absurd hf (hn _ _ _)
    ·exact h.elim
  ·next hn=>
   split at h
   ·next f args ts=>exact absurd rfl (hn _ _ _)
   ·exact aef_mono hk h
 ·next he=>
  rw[if_neg he]at h
  unfold aPop at h ⊢
  split
  ·next f args ts=>
   simp only at h
   exact PCall.mono h fun r hr=>hk _ _ hr
  ·next hn=>
   split at h
   ·next f args ts=>exact absurd rfl (hn _ _ _)
   ·exact aef_mono (fun r s hh=>⟨hh.1,hk _ _ hh.2⟩) h
theorem awant_same {ops':Array Oper}{fr:Frm}{o o':Oper}{K1 K2 K1' K2':Prop}(h3:(o.guard=none∧o'.guard=none)∨∃j j' b,o.guard=some (j,b)∧o'.guard=some (j',b)∧(ops'[j']?).bind (·.dst)=(ops[j]?).bind (·.dst))
  (a1:K1→K1') (a2:K2→K2') (hw:awant ops fr o.guard K1 K2):awant ops' fr o'.guard K1' K2':=by
 rcases h3 with⟨g1,g2⟩|⟨j,j',b,g1,g2,g3⟩
 ·rw[g1]at hw;rw[g2];exact a1 hw
 ·rw[g1]at hw;rw[g2]
  unfold awant at hw ⊢
  simp only at hw ⊢
  rw[g3]
  cases hd:(ops[j]?).bind (·.dst)with
  |none=>rw[hd]at hw;exact hw.elim
  |some d=>
   rw[hd]at hw
   simp only at hw ⊢
   cases hv:lk fr d with
   |lit v=>
    rw[hv]at hw
    simp only at hw ⊢
    split
    ·next hb=>rw[if_pos hb]at hw;exact a1 hw
    ·next hb=>rw[if_neg hb]at hw;exact a2 hw
   |_=>rw[hv]at hw;exact hw.elim
theorem aL_same {fs:List FuncId}{ops':Array Oper}{K:Frm→Store→Prop}(l:List Oper):∀(l':List Oper) (xs:List Nat) (ts:List (Nat×Nat)) (fr:Frm) (ss:List Store) (ps:List AV) (ls:Lds),l'.length=l.length→(∀(i:Nat) (o o':Oper),l[i]? =some o→l'[i]? =some o'→sameG ops ops' o o')→
  aL fs P B N ops l xs ts fr ss ps ls K→aL fs P B N ops' l' xs ts fr ss ps ls K:=by
 induction l with
 |nil=>
  intro l' xs ts fr ss ps ls hl _ h
  have:l'=[]:=List.eq_nil_of_length_eq_zero hl
  subst this;exact h
 |cons o r ih=>
  intro l' xs ts fr ss ps ls hl hs h
  cases l' with
  |nil=>simp at hl
  |cons o' r'=>
   obtain⟨h1,h2,h3⟩:=hs 0 o o' rfl rfl
   have ih':=fun xs ts fr ss ps ls=>ih r' xs ts fr ss ps ls (by simpa using hl) (fun i p p' hp hp'=>hs (i+1) p p' (by simpa using hp) (by simpa using hp'))
   clear ih hs
   rw[aL]at h
   rw[aL,h1,h2]
   refine awant_same h3 ?_ ?_ h
   ·rintro⟨c1,c2⟩
    exact⟨c1,aLop_mono (fun r σ' hh=>⟨hh.1,ih' _ _ _ _ _ _ hh.2⟩) c2⟩
   ·rintro⟨c1,c2⟩
    exact⟨c1,ih' _ _ _ _ _ _ c2⟩
theorem addEs_get (es:List (Nat×Nat))(k:Nat):∀ops:Array Oper,∃g:Oper→Oper,(∀o,(g o).op=o.op∧(g o).dst=o.dst∧(g o).guard=o.guard)∧(addEs es ops)[k]? =(ops[k]?).map g:=by
 induction es with
 |nil=>intro ops;exact⟨id,fun o=>⟨rfl,rfl,rfl⟩,by simp[addEs]⟩
 |cons e r ih=>
  obtain⟨i,j⟩:=e
  intro ops
  obtain⟨g,h1,h2⟩:=ih (addE ops i j)
  refine⟨fun o=>g (if k=j then{o with after:=o.after.push ⟨i,.data⟩}else o),fun o=> ?_,?_⟩
  ·obtain⟨a1,a2,a3⟩:=h1 (if k=j then{o with after:=o.after.push ⟨i,.data⟩}else o)
   rw[a1,a2,a3]
   split<;>exact⟨rfl,rfl,rfl⟩
  ·show(addEs r (addE ops i j))[k]? =_
   rw[h2,addE_get,Option.map_map];rfl
theorem addEs_size (es:List (Nat×Nat)):∀ops:Array Oper,(addEs es ops).size=ops.size:=by
 induction es with
 |nil=>intro ops;rfl
 |cons e r ih=>obtain⟨i,j⟩:=e;intro ops;exact(ih _).trans addE_size
attribute [simp] permL_nil permL_cons
end
end Go.Vl
