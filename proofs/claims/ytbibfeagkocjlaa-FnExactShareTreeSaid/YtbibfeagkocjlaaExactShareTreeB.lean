/- Plain laws that this one rests on (printed by gen_l.py). -/
import Derived.Test.YtbibfeagkocjlaaExactShareTreeP
import Derived.Test.YtbibfeagkocjlaaVlQ
set_option linter.all false
set_option maxRecDepth 100000
namespace Go.Vl
open Go Go.RowKit
theorem ZMT {α β:Type}{a:α}{f:α→Option β}:(some a>>=f)=f a:=rfl
theorem ZO6 {α:Type}{c:Prop}[Decidable c]{a b r:Option α}(h1:c→a=r)(h2:¬c→b=r):(if c then a else b)=r:=by
  by_cases h:c
  · rw[if_pos h];exact h1 h
  · rw[if_neg h];exact h2 h
noncomputable def ZGt {α:Type}(p:α→Prop):Nat→List α→Option Nat
  |_,[]=>none
  |k,x::r=>if dec (p x)=true then some k else ZGt p (k+1) r
theorem ZC4 {α:Type}{p:α→Prop}:∀{l:List α} {k j:Nat},ZGt p k l=some j→k≤j∧∃h:j-k<l.length,p l[j-k]∧∀i (hi:i<l.length),i<j-k→¬p l[i]
  |x::r,k,j,h=>by
    simp only[ZGt]at h
    split at h
    · next hp=>
      obtain rfl:=Option.some.inj h
      refine⟨Nat.le_refl _,by simp,?_,fun i _ hi=>by omega⟩
      simpa using Zj.1 hp
    · next hp=>
      obtain⟨h1,h2,h3,h4⟩:=ZC4 h
      have e:j-k=(j- (k+1))+1:=by omega
      refine⟨by omega,by simp;omega,?_,fun i hi hlt=> ?_⟩
      · simp only[e,List.getElem_cons_succ];exact h3
      · cases i with
        |zero=>exact fun hq=>hp (dec_of hq)
        |succ i=>exact h4 i (by simpa using hi) (by omega)
theorem ZC5 {α:Type}{p:α→Prop}:∀{l:List α} {k:Nat},ZGt p k l=none→∀x,x∈l→¬p x
  | [],_,_=>fun x hx=>by cases hx
  |x::r,k,h=>by
    simp only[ZGt]at h
    split at h
    · cases h
    · next hp=>
      intro y hy
      rcases List.mem_cons.1 hy with rfl|hy
      · exact fun hq=>hp (dec_of hq)
      · exact ZC5 h y hy
theorem ZNb {α : Type} {a : List α} {p : α → Prop} {L : Nat → Option (Lo Int Unit)} (h0 : ∀ k, a.length ≤ k → L k = some (.go ())) (h1 : ∀ k (h : k < a.length), ¬ p a[k] → L k = L (k + 1))
    (h2:∀k (h:k<a.length),p a[k]→L k=some (.ret (k:Int))):∀(m k:Nat),a.length-k=m→L k=some (match ZGt p k (a.drop k)with|some j=>.ret (j:Int)|none=>.go ()):=by
  intro m
  induction m with
  |zero=>intro k hm;rw[h0 k (by omega),List.drop_eq_nil_of_le (by omega)];rfl
  |succ m ih=>
    intro k hm
    have hk:k<a.length:=by omega
    rw[List.drop_eq_getElem_cons hk]
    by_cases hp:p a[k]
    · rw[h2 k hk hp];simp only[ZGt];rw[if_pos (dec_of hp)]
    · rw[h1 k hk hp,ih (k+1) (by omega)];simp only[ZGt];rw[if_neg (by rw[ZE hp];simp)]
def gl (a:Nat):Int:=if((a^^^ (a/64))%8)=3 then -1 else if(a^^^ (a/64))%8<2 then 0 else 1
theorem ZI4 {a b : List Int} {L : Nat → Option (Lo Bool Unit)} (hl : a.length = b.length) (hL : ∀ i, L i = if i < a.length then a[i]? >>= fun x => b[i]? >>= fun y => if x = y then L (i + 1) else some (.ret false) else some (.go ())) :
    L 0=some (if dec (a=b)=true then .go ()else .ret false):=by
  rw[ZOx (n:=a.length) (r:=false) (Q:=fun i=>∀(h:i<a.length) (h':i<b.length),a[i]=b[i]) (L:=L)
    (fun k hk=>by rw[hL,if_neg (by omega)])
    (fun k hk hq=>by
      rw[hL,if_pos hk,List.getElem?_eq_getElem hk,List.getElem?_eq_getElem (show k<b.length by omega)]
      simp only[Option.bind_eq_bind,Option.bind_some]
      rw[if_pos (hq hk (by omega))])
    (fun k hk hq=>by
      rw[hL,if_pos hk,List.getElem?_eq_getElem hk,List.getElem?_eq_getElem (show k<b.length by omega)]
      simp only[Option.bind_eq_bind,Option.bind_some]
      rw[if_neg fun h=>hq fun _ _=>h]) _ 0 rfl]
  have:(∀j,0≤j→j<a.length→∀(h:j<a.length) (h':j<b.length),a[j]=b[j])↔a=b:=
    ⟨fun h=>List.ext_getElem hl fun i hi hi'=>h i (by omega) hi hi hi',fun e=>by subst e;exact fun _ _ _ _ _=>rfl⟩
  rw[ZAM this]
theorem P.YD (a b:List Int):F.f54 a b=some (dec (a=b)):=by
  unfold F.f54
  by_cases hl:a.length=b.length
  · rw[if_pos hl,ZI4 hl (L:=F.f53 a b) (fun i=>by rw[F.f53])]
    by_cases h:a=b
    · rw[if_pos (dec_of h),dec_of h];rfl
    · rw[if_neg (by rw[ZE h];simp),ZE h];rfl
  · rw[if_neg hl,ZE fun h=>hl (by rw[h])]
theorem P.YB (a b:List Int):F.f30 a b=some (dec (a=b)):=by
  unfold F.f30
  by_cases hl:a.length=b.length
  · rw[if_pos hl,ZI4 hl (L:=F.f29 a b) (fun i=>by rw[F.f29])]
    by_cases h:a=b
    · rw[if_pos (dec_of h),dec_of h];rfl
    · rw[if_neg (by rw[ZE h];simp),ZE h];rfl
  · rw[if_neg hl,ZE fun h=>hl (by rw[h])]
def ZO3 (v:Int):Nat→Pattern→Prop
  |0,_=>False
  |d+1,p=>(∃i,∃h:i<p.kids.length,ZO3 v d p.kids[i])∨((p.op=2∨p.op=6)∧p.var=v)
def hv (d:Nat)(p:Pattern):Prop:=∃v,ZO3 v d p
def Tree.nodes :Tree→Nat
  |⟨_,_,_,_,branches,els⟩=>1+(branches.attach.map fun⟨b,_⟩=>Tree.nodes b.tree).sum+(els.attach.map fun⟨k,_⟩=>Tree.nodes k).sum
termination_by t=>SizeOf.sizeOf t
decreasing_by
  · rename_i h
    have:=List.sizeOf_lt_of_mem h
    cases b
    simp at this ⊢
    omega
  · rename_i h
    have:=List.sizeOf_lt_of_mem h
    simp
    omega
def Branch.nodes (b:Branch):Nat:=b.tree.nodes
theorem Tree.nodes_eq (x:Tree):x.nodes=1+(x.branches.map Branch.nodes).sum+(x.els.map Tree.nodes).sum:=by
  cases x
  rw[Tree.nodes]
  simp only[List.map_attach_eq_pmap,List.pmap_eq_map]
  rfl
theorem ZDZ {α:Type}{g f:α→Nat}{xs:List α}(h:∀x,x∈xs→g x≤1+f x):(xs.map g).sum≤wtL f xs:=by
  induction xs with
  |nil=>simp
  |cons a r ih=>
    have:=h a (by simp)
    have:=ih fun x hx=>h x (by simp[hx])
    simp;omega
theorem Tree.nodes_le (x:Tree):x.nodes≤1+x.wt:=by
  induction x using Tree.ind with
  |_ x ihb ihe=>
    rw[Tree.nodes_eq,Tree.wt_eq]
    have h1:(x.branches.map Branch.nodes).sum≤wtL Branch.wt x.branches:=ZDZ (f:=Branch.wt) ihb
    have h2:(x.els.map Tree.nodes).sum≤wtL Tree.wt x.els:=ZDZ ihe
    omega
theorem P.YF (x:Tree)(hw:x.wt≤1048576):F.f41 x=some (x.branches.map (·.tree)++x.els):=by
  rw[Tree.wt_eq]at hw
  have h1:=Zv Branch.wt x.branches
  have h2:=Zv Tree.wt x.els
  unfold F.f41
  rw[ZKP (L:=F.f40 x) (a:=x.branches) (g:=fun b:Branch=>b.tree) (fun n i=>by rw[F.f40]) _ 0 [] rfl (by simp;omega)]
  simp only[Option.bind_eq_bind,Option.bind_some,List.drop_zero,List.nil_append]
  rw[if_pos (by simp;omega)]
theorem P.Yc (x:Tree)(hw:x.wt≤1048576):F.f42 x=some (x.nodes:Int):=by
  induction x using Tree.ind with
  |_ x ihb ihe=>
    have hn:=x.nodes_le
    rw[Tree.nodes_eq]at hn ⊢
    have hw2:=hw
    rw[Tree.wt_eq]at hw2
    unfold F.f42
    rw[P.YF x hw]
    simp only[Option.bind_eq_bind,Option.bind_some]
    rw[ZKs (L:=F.f43 _) (g:=Tree.nodes) (fun n i=>by rw[F.f43]) (fun k hk=> ?_) _ 0 1 rfl (by omega) (by simp only[List.drop_zero,List.map_append,List.sum_append,List.map_map,Function.comp_def];have e:(x.branches.map fun b=>b.tree.nodes).sum=(x.branches.map Branch.nodes).sum:=rfl;omega)]
    · simp only[Option.bind_some,List.drop_zero,List.map_append,List.sum_append,List.map_map,Function.comp_def]
      congr 1
      have e:(x.branches.map fun b=>b.tree.nodes).sum=(x.branches.map Branch.nodes).sum:=rfl
      omega
    · rcases List.mem_append.1 hk with hk|hk
      · obtain⟨b,hb,rfl⟩:=List.mem_map.1 hk
        exact ihb b hb (by have:=Zu Branch.wt hb;have:Branch.wt b=b.tree.wt:=rfl;omega)
      · exact ihe k hk (by have:=Zu Tree.wt hk;omega)
theorem ZEJ {α : Type} {a b : List α} {L : Nat → Option (Lo Bool Unit)} (hl : a.length = b.length) (h0 : ∀ k, a.length ≤ k → L k = some (.go ()))
    (h1:∀k (h:k<a.length) (h':k<b.length),a[k]=b[k]→L k=L (k+1)) (h2:∀k (h:k<a.length) (h':k<b.length),a[k]≠b[k]→L k=some (.ret false)):L 0=some (if dec (a=b)=true then .go ()else .ret false):=by
  rw[ZOx (n:=a.length) (r:=false) (Q:=fun i=>∀(h:i<a.length) (h':i<b.length),a[i]=b[i]) (L:=L) h0
    (fun k hk hq=>h1 k hk (by omega) (hq hk (by omega)))
    (fun k hk hq=>h2 k hk (by omega) fun h=>hq fun _ _=>h) _ 0 rfl]
  have:(∀j,0≤j→j<a.length→∀(h:j<a.length) (h':j<b.length),a[j]=b[j])↔a=b:=
    ⟨fun h=>List.ext_getElem hl fun i hi hi'=>h i (by omega) hi hi hi',fun e=>by subst e;exact fun _ _ _ _ _=>rfl⟩
  rw[ZAM this]
theorem PathBind.ext' {a b:PathBind}:a.var=b.var∧a.path=b.path↔a=b:=by
  cases a;cases b;simp
theorem P.YE (x y:PathBind):F.f55 x y=some (dec (x=y)):=by
  unfold F.f55
  rw[P.YD]
  simp only[Option.bind_eq_bind,Option.bind_some]
  by_cases h:x.var=y.var
  · rw[if_pos h];congr 1;exact ZAM ⟨fun q=>PathBind.ext'.1 ⟨h,q⟩,fun q=>by rw[q]⟩
  · rw[if_neg h,ZE fun q=>h (by rw[q])]
theorem P.YL (a b:List PathBind):F.f32 a b=some (dec (a=b)):=by
  unfold F.f32
  by_cases hl:a.length=b.length
  · rw[if_pos hl,ZEJ hl (L:=F.f31 a b) (fun k hk=>by rw[F.f31,if_neg (by omega)])
      (fun k hk hk' he=>by
        rw[F.f31,if_pos hk,List.getElem?_eq_getElem hk,List.getElem?_eq_getElem hk']
        simp only[Option.bind_eq_bind,Option.bind_some]
        rw[if_pos (by rw[he]),P.YB]
        simp only[Option.bind_some]
        rw[if_pos (dec_of (by rw[he]))])
      (fun k hk hk' he=>by
        rw[F.f31,if_pos hk,List.getElem?_eq_getElem hk,List.getElem?_eq_getElem hk']
        simp only[Option.bind_eq_bind,Option.bind_some]
        by_cases hv:a[k].var=b[k].var
        · rw[if_pos hv,P.YB]
          simp only[Option.bind_some]
          rw[if_neg (by rw[ZE fun q=>he (PathBind.ext'.1 ⟨hv,q⟩)];simp)]
        · rw[if_neg hv])]
    by_cases h:a=b
    · rw[if_pos (dec_of h),dec_of h];rfl
    · rw[if_neg (by rw[ZE h];simp),ZE h];rfl
  · rw[if_neg hl,ZE fun h=>hl (by rw[h])]
theorem P.YV (a b:List PathBind):F.f58 a b=some (dec (a=b)):=by
  unfold F.f58 F.f57
  by_cases hl:a.length=b.length
  · rw[if_pos hl,ZEJ hl (L:=F.f56 a b) (fun k hk=>by rw[F.f56,if_neg (by omega)])
      (fun k hk hk' he=>by
        rw[F.f56,if_pos hk,List.getElem?_eq_getElem hk,List.getElem?_eq_getElem hk']
        simp only[Option.bind_eq_bind,Option.bind_some]
        rw[P.YE]
        simp only[Option.bind_some]
        rw[if_pos (dec_of he)])
      (fun k hk hk' he=>by
        rw[F.f56,if_pos hk,List.getElem?_eq_getElem hk,List.getElem?_eq_getElem hk']
        simp only[Option.bind_eq_bind,Option.bind_some]
        rw[P.YE]
        simp only[Option.bind_some]
        rw[if_neg (by rw[ZE he];simp)])]
    by_cases h:a=b
    · rw[if_pos (dec_of h),dec_of h];rfl
    · rw[if_neg (by rw[ZE h];simp),ZE h];rfl
  · rw[if_neg hl,ZE fun h=>hl (by rw[h])];rfl
theorem Edge.eq4 {a b:Edge}:eq4 (a.ctor,a.n,a.m,a.to) (b.ctor,b.n,b.m,b.to)↔a=b:=by
  cases a;cases b;simp[Go.Vl.eq4]
theorem P.YI (a b:List Edge):F.f60 a b=some (dec (a=b)):=by
  unfold F.f60
  by_cases hl:a.length=b.length
  · rw[if_pos hl,ZEJ hl (L:=F.f59 a b) (fun k hk=>by rw[F.f59,if_neg (by omega)])
      (fun k hk hk' he=>by
        rw[F.f59,if_pos hk,List.getElem?_eq_getElem hk,List.getElem?_eq_getElem hk']
        simp only[Option.bind_eq_bind,Option.bind_some]
        rw[if_pos (dec_of (Edge.eq4.2 he))])
      (fun k hk hk' he=>by
        rw[F.f59,if_pos hk,List.getElem?_eq_getElem hk,List.getElem?_eq_getElem hk']
        simp only[Option.bind_eq_bind,Option.bind_some]
        rw[if_neg (by rw[ZE fun q=>he (Edge.eq4.1 q)];simp)])]
    by_cases h:a=b
    · rw[if_pos (dec_of h),dec_of h];rfl
    · rw[if_neg (by rw[ZE h];simp),ZE h];rfl
  · rw[if_neg hl,ZE fun h=>hl (by rw[h])]
theorem Node.ext' {a b:Node}:(a.op=b.op∧a.clause=b.clause∧a.els=b.els∧a.binds=b.binds∧a.path=b.path∧a.edges=b.edges)↔a=b:=by
  cases a;cases b;simp only[Node.mk.injEq]
  exact⟨fun⟨h1,h2,h3,h4,h5,h6⟩=>⟨h1,h2,h4,h5,h6,h3⟩,fun⟨h1,h2,h4,h5,h6,h3⟩=>⟨h1,h2,h3,h4,h5,h6⟩⟩
theorem P.YC (a b:Node):F.f34 a b=some (dec (a=b)):=by
  unfold F.f34
  rw[P.YL,P.YB]
  simp only[Option.bind_eq_bind,Option.bind_some]
  rcases Classical.em (a.op=b.op)with h1|h1
  rotate_left
  · rw[if_neg h1,ZE fun q=>h1 (by rw[q])]
  rcases Classical.em (a.clause=b.clause)with h2|h2
  rotate_left
  · rw[if_pos h1,if_neg h2,ZE fun q=>h2 (by rw[q])]
  rcases Classical.em (a.els=b.els)with h3|h3
  rotate_left
  · rw[if_pos h1,if_pos h2,if_neg h3,ZE fun q=>h3 (by rw[q])]
  rcases Classical.em (a.binds=b.binds)with h4|h4
  rotate_left
  · rw[if_pos h1,if_pos h2,if_pos h3,if_neg (by rw[ZE h4];simp),ZE fun q=>h4 (by rw[q])]
  rcases Classical.em (a.path=b.path)with h5|h5
  rotate_left
  · rw[if_pos h1,if_pos h2,if_pos h3,if_pos (dec_of h4),if_neg (by rw[ZE h5];simp),ZE fun q=>h5 (by rw[q])]
  rw[if_pos h1,if_pos h2,if_pos h3,if_pos (dec_of h4),if_pos (dec_of h5)]
  by_cases hl:a.edges.length=b.edges.length
  · rw[if_pos hl,ZEJ hl (L:=F.f33 a b) (fun k hk=>by rw[F.f33,if_neg (by omega)])
      (fun k hk hk' he=>by
        rw[F.f33,if_pos hk,List.getElem?_eq_getElem hk,List.getElem?_eq_getElem hk']
        simp only[Option.bind_eq_bind,Option.bind_some]
        rw[if_pos (dec_of (Edge.eq4.2 he))])
      (fun k hk hk' he=>by
        rw[F.f33,if_pos hk,List.getElem?_eq_getElem hk,List.getElem?_eq_getElem hk']
        simp only[Option.bind_eq_bind,Option.bind_some]
        rw[if_neg (by rw[ZE fun q=>he (Edge.eq4.1 q)];simp)])]
    by_cases h:a.edges=b.edges
    · rw[if_pos (dec_of h),dec_of (Node.ext'.1 ⟨h1,h2,h3,h4,h5,h⟩)];rfl
    · rw[if_neg (by rw[ZE h];simp),ZE fun q=>h (by rw[q])];rfl
  · rw[if_neg hl,ZE fun h=>hl (by rw[h])]
theorem P.Ya (a b:Node):F.f61 a b=some (dec (a=b)):=by
  unfold F.f61
  rw[P.YV,P.YD,P.YI]
  simp only[Option.bind_eq_bind,Option.bind_some]
  rcases Classical.em (a.op=b.op)with h1|h1
  rotate_left
  · rw[if_neg h1,ZE fun q=>h1 (by rw[q])]
  rcases Classical.em (a.clause=b.clause)with h2|h2
  rotate_left
  · rw[if_pos h1,if_neg h2,ZE fun q=>h2 (by rw[q])]
  rcases Classical.em (a.binds=b.binds)with h4|h4
  rotate_left
  · rw[if_pos h1,if_pos h2,if_neg (by rw[ZE h4];simp),ZE fun q=>h4 (by rw[q])]
  rcases Classical.em (a.path=b.path)with h5|h5
  rotate_left
  · rw[if_pos h1,if_pos h2,if_pos (dec_of h4),if_neg (by rw[ZE h5];simp),ZE fun q=>h5 (by rw[q])]
  rcases Classical.em (a.edges=b.edges)with h6|h6
  rotate_left
  · rw[if_pos h1,if_pos h2,if_pos (dec_of h4),if_pos (dec_of h5),if_neg (by rw[ZE h6];simp),ZE fun q=>h6 (by rw[q])]
  rw[if_pos h1,if_pos h2,if_pos (dec_of h4),if_pos (dec_of h5),if_pos (dec_of h6),←ZKm]
  congr 1
  exact ZAM ⟨fun h3=>Node.ext'.1 ⟨h1,h2,h3,h4,h5,h6⟩,fun q=>by rw[q]⟩
theorem P.YJ (m n:Node):F.f62 m n=some (dec (m=n)):=by unfold F.f62;rw[P.Ya];rfl
noncomputable def ZA6 (l:List Node)(n:Node):Option Nat:=ZGt (fun x=>x=n) 0 l
theorem P.Ye (l:List Node)(n:Node):F.f64 l n=some (match ZA6 l n with|some j=>(j:Int)|none=> -1):=by
  unfold F.f64 ZA6
  rw[ZNb (a:=l) (p:=fun q=>q=n) (L:=F.f63 l n) (fun k hk=>by rw[F.f63,if_neg (by omega)])
    (fun k hk hp=>by rw[F.f63,if_pos hk,List.getElem?_eq_getElem hk];simp only[Option.bind_eq_bind,Option.bind_some];rw[P.YJ];simp only[Option.bind_some];rw[if_neg (by rw[ZE hp];simp)])
    (fun k hk hp=>by rw[F.f63,if_pos hk,List.getElem?_eq_getElem hk];simp only[Option.bind_eq_bind,Option.bind_some];rw[P.YJ];simp only[Option.bind_some];rw[if_pos (dec_of hp)]) _ 0 rfl,List.drop_zero]
  cases ZGt (fun q=>q=n) 0 l<;>rfl
theorem ZIz {l : List Node} {n : Node} {x : Int → Option (Lo (List Node × Int) Unit)} {L : Nat → Option (Lo (List Node × Int) Unit)} (h0 : ∀ k, l.length ≤ k → L k = some (.go ())) (h1 : ∀ k (h : k < l.length), l[k] ≠ n → L k = L (k + 1))
    (h2:∀k (h:k<l.length),l[k]=n→L k=some (.ret (l,(k:Int)))):∀(m k:Nat),l.length-k=m→L k=some (match ZGt (fun x=>x=n) k (l.drop k)with|some j=>.ret (l,(j:Int))|none=>.go ()):=by
  intro m
  induction m with
  |zero=>intro k hm;rw[h0 k (by omega),List.drop_eq_nil_of_le (by omega)];rfl
  |succ m ih=>
    intro k hm
    have hk:k<l.length:=by omega
    rw[List.drop_eq_getElem_cons hk]
    by_cases hp:l[k]=n
    · rw[h2 k hk hp];simp only[ZGt];rw[if_pos (dec_of hp)]
    · rw[h1 k hk hp,ih (k+1) (by omega)];simp only[ZGt];rw[if_neg (by rw[ZE hp];simp)]
theorem P.Yg (l:List PathBind)(h:l.length≤67108864)(hp:∀b,b∈l→b.path.length≤67108864):F.f27 l=some l:=by
  unfold F.f27
  have:=ZGO (L:=F.f26 l) (a:=l) (g:=fun b:PathBind=>b) (f:=fun b=>if b.path.length≤67108864 then some b else none)
    (fun out i=>by
      rw[F.f26]
      split
      · next hi=>
        rw[List.getElem?_eq_getElem hi]
        simp only[Option.bind_eq_bind,Option.bind_some]
        rw[if_pos (hp _ (List.getElem_mem hi)),if_pos (hp _ (List.getElem_mem hi))];rfl
      · rfl)
    (fun b hb=>by rw[if_pos (hp b hb)]) _ 0 [] rfl (by simp;omega)
  rw[this];simp
theorem P.YA (l:List Int)(h:l.length≤67108864):F.f50 l=some l:=by unfold F.f50;rw[if_pos h]
theorem P.Yb (l:List PathBind)(h:l.length≤67108864)(hp:∀b,b∈l→b.path.length≤67108864):F.f52 l=some l:=by
  unfold F.f52
  have:=ZGO (L:=F.f51 l) (a:=l) (g:=fun b:PathBind=>b) (f:=fun b=>F.f50 b.path>>=fun v=>some (⟨b.var,v⟩:PathBind))
    (fun out i=>by
      rw[F.f51]
      split
      · next hi=>
        rw[List.getElem?_eq_getElem hi]
        simp only[Option.bind_eq_bind,Option.bind_some]
        rw[P.YA _ (hp _ (List.getElem_mem hi))]
        simp only[Option.bind_some]
      · rfl)
    (fun b hb=>by rw[P.YA _ (hp b hb)];rfl) _ 0 [] rfl (by simp;omega)
  rw[this];simp
def ZA5 (x:Tree)(es:List Edge)(e:Int):Node:=⟨x.op,x.clause,x.binds,x.path,es,e⟩
inductive Rep (list:List Node):Nat→Tree→Prop
  | mk (k : Nat) (x : Tree) (es : List Edge) (e : Int) (js : Nat → Nat) (j0 : Nat) (h : list[k]? = some (ZA5 x es e)) (hl : es.length = x.branches.length)
      (hb:∀i (h1:i<es.length) (h2:i<x.branches.length),es[i]=⟨x.branches[i].ctor,x.branches[i].n,x.branches[i].m,(js i:Int)⟩)
      (hj:∀i,i<x.branches.length→js i<k) (hr:∀i (h2:i<x.branches.length),Rep list (js i) x.branches[i].tree)
      (h0:x.els=[]→e= -1) (h1:x.els.length≤1) (h2:∀y,y∈x.els→e=(j0:Int)∧j0<k) (h3:∀y,y∈x.els→Rep list j0 y):Rep list k x
theorem Rep.lt {list:List Node}{k:Nat}{x:Tree}(h:Rep list k x):k<list.length:=by
  cases h with
  |mk k x es e js j0 h=>exact(List.getElem?_eq_some_iff.1 h).1
theorem Rep.mono {list list':List Node}(hp:list<+:list'){k:Nat}{x:Tree}(h:Rep list k x):Rep list' k x:=by
  induction h with
  |mk k x es e js j0 h hl hb hj hr h0 h1 h2 h3 ihr ih3=>
    refine .mk k x es e js j0 ?_ hl hb hj ihr h0 h1 h2 ih3
    obtain⟨t,rfl⟩:=hp
    rw[List.getElem?_append_left (List.getElem?_eq_some_iff.1 h).1];exact h
theorem Branch.ext' {a b:Branch}(h1:a.ctor=b.ctor)(h2:a.n=b.n)(h3:a.m=b.m)(h4:a.tree=b.tree):a=b:=by
  cases a;cases b;simp only at h1 h2 h3 h4;subst h1 h2 h3 h4;rfl
theorem Tree.ext' {a b:Tree}(h1:a.op=b.op)(h2:a.clause=b.clause)(h3:a.binds=b.binds)(h4:a.path=b.path)(h5:a.branches=b.branches)(h6:a.els=b.els):a=b:=by
  cases a;cases b;simp only at h1 h2 h3 h4 h5 h6;subst h1 h2 h3 h4 h5 h6;rfl
theorem Rep.fn {list:List Node}{k:Nat}{x:Tree}(h:Rep list k x):∀{y:Tree},Rep list k y→x=y:=by
  induction h with
  |mk k x es e js j0 h hl hb hj hr h0 h1 h2 h3 ihr ih3=>
    intro y hy
    cases hy with
    |mk _ _ es' e' js' j0' g gl gb gj gr g0 g1 g2 g3=>
      rw[h]at g
      have g:=Option.some.inj g
      have ge:es=es':=congrArg Node.edges g
      have gee:e=e':=congrArg Node.els g
      subst ge;subst gee
      refine Tree.ext' (congrArg Node.op g) (congrArg Node.clause g) (congrArg Node.binds g) (congrArg Node.path g) (List.ext_getElem (by omega) fun i hi hi'=> ?_) ?_
      · have e1:=hb i (by omega) hi
        have e2:=gb i (by omega) hi'
        rw[e1]at e2
        simp only[Edge.mk.injEq]at e2
        obtain⟨a1,a2,a3,a4⟩:=e2
        have a4:js i=js' i:=by omega
        exact Branch.ext' a1 a2 a3 (ihr i hi (a4▸gr i hi'))
      · match hx:x.els,hy:y.els with
        | [],[]=>rfl
        | [],b::r=>
          have:=h0 hx;have:=(g2 b (by rw[hy];simp)).1;omega
        |a::r,[]=>
          have:=g0 hy;have:=(h2 a (by rw[hx];simp)).1;omega
        |a::r,b::r'=>
          have q1:r=[]:=by rw[hx]at h1;simp at h1;exact h1
          have q2:r'=[]:=by rw[hy]at g1;simp at g1;exact g1
          subst q1;subst q2
          have p1:=(h2 a (by rw[hx];simp)).1
          have p2:=(g2 b (by rw[hy];simp)).1
          have p3:j0=j0':=by omega
          rw[ih3 a (by rw[hx];simp) (p3▸g3 b (by rw[hy];simp))]
theorem ZIh {α:Type}{l:List α}(hn:l.Nodup){i j:Nat}(hi:i<l.length)(hj:j<l.length)(e:l[i]=l[j]):i=j:=by
  have h:=List.pairwise_iff_getElem.1 hn
  rcases Nat.lt_trichotomy i j with q|q|q
  · exact absurd e (h i j hi hj q)
  · exact q
  · exact absurd e.symm (h j i hj hi q)
theorem Rep.inj {list:List Node}(hn:list.Nodup){k:Nat}{x:Tree}(h:Rep list k x):∀{j:Nat},Rep list j x→k=j:=by
  induction h with
  |mk k x es e js j0 h hl hb hj hr h0 h1 h2 h3 ihr ih3=>
    intro j hy
    cases hy with
    |mk _ _ es' e' js' j0' g gl gb gj gr g0 g1 g2 g3=>
      have ee:es=es':=List.ext_getElem (by omega) fun i hi hi'=>by
        rw[hb i hi (by omega),gb i hi' (by omega),ihr i (by omega) (gr i (by omega))]
      have e2:e=e':=by
        match hx:x.els with
        | []=>rw[h0 hx,g0 hx]
        |a::r=>
          have p1:=(h2 a (by rw[hx];simp)).1
          have p2:=(g2 a (by rw[hx];simp)).1
          rw[p1,p2,ih3 a (by rw[hx];simp) (g3 a (by rw[hx];simp))]
      subst ee;subst e2
      have hk:=(List.getElem?_eq_some_iff.1 h).1
      have hjj:=(List.getElem?_eq_some_iff.1 g).1
      exact ZIh hn hk hjj (by rw[(List.getElem?_eq_some_iff.1 h).2,(List.getElem?_eq_some_iff.1 g).2])
inductive Sub :Tree→Tree→Prop
  |refl (x:Tree):Sub x x
  |br (y x:Tree) (b:Branch) (hb:b∈x.branches) (h:Sub y b.tree):Sub y x
  |els (y x z:Tree) (hz:z∈x.els) (h:Sub y z):Sub y x
theorem ZBc {α:Type}{f:α→Nat}{l:List α}{a:α}(h:a∈l):f a≤(l.map f).sum:=by
  induction l with
  |nil=>cases h
  |cons b r ih=>
    simp only[List.map_cons,List.sum_cons]
    rcases List.mem_cons.1 h with rfl|h
    · omega
    · have:=ih h;omega
theorem Sub.nodes {y x:Tree}(h:Sub y x):y.nodes≤x.nodes:=by
  induction h with
  |refl=>exact Nat.le_refl _
  |br x b hb h ih=>have:=x.nodes_eq;have:=ZBc (f:=Branch.nodes) hb;have:Branch.nodes b=b.tree.nodes:=rfl;omega
  |els x z hz h ih=>have:=x.nodes_eq;have:=ZBc (f:=Tree.nodes) hz;omega
theorem Tree.nodes_pos (x:Tree):1≤x.nodes:=by rw[Tree.nodes_eq];omega
def ZEd :Nat→Tree→Prop
  |0,_=>False
  |n+1,x=>(0≤x.op∧x.op≤2∧x.els.length≤1∧x.branches.length≤10)∧(∀b,b∈x.branches→ZEd n b.tree)∧∀y,y∈x.els→ZEd n y
theorem ZAS :∀{n m:Nat} {x:Tree},x.nodes≤m→ZEd n x→ZEd m x
  |0,_,_,_,h=>h.elim
  |n+1,0,x,h,_=>by have:=x.nodes_pos;omega
  |n+1,m+1,x,h,⟨h1,h2,h3⟩=>by
    have hx:=x.nodes_eq
    exact⟨h1,fun b hb=>ZAS (by have:=ZBc (f:=Branch.nodes) hb;have:Branch.nodes b=b.tree.nodes:=rfl;omega) (h2 b hb),fun y hy=>ZAS (by have:=ZBc (f:=Tree.nodes) hy;omega) (h3 y hy)⟩
def right (x:Tree):Prop:=ZEd x.nodes x
theorem ZBP (x:Tree):right x↔(0≤x.op∧x.op≤2∧x.els.length≤1∧x.branches.length≤10)∧(∀b,b∈x.branches→right b.tree)∧∀y,y∈x.els→right y:=by
  have hx:=x.nodes_eq
  constructor
  · intro h
    unfold right at h
    obtain⟨n,hn⟩:∃n,x.nodes=n+1:=⟨x.nodes-1,by have:=x.nodes_pos;omega⟩
    rw[hn]at h
    exact⟨h.1,fun b hb=>ZAS (Nat.le_refl _) (h.2.1 b hb),fun y hy=>ZAS (Nat.le_refl _) (h.2.2 y hy)⟩
  · rintro⟨h1,h2,h3⟩
    unfold right
    obtain⟨n,hn⟩:∃n,x.nodes=n+1:=⟨x.nodes-1,by have:=x.nodes_pos;omega⟩
    rw[hn]
    exact⟨h1,fun b hb=>ZAS (by have:=ZBc (f:=Branch.nodes) hb;have:Branch.nodes b=b.tree.nodes:=rfl;omega) (h2 b hb),fun y hy=>ZAS (by have:=ZBc (f:=Tree.nodes) hy;omega) (h3 y hy)⟩
theorem Sub.right {y x:Tree}(h:Sub y x)(hx:right x):right y:=by
  induction h with
  |refl=>exact hx
  |br x b hb h ih=>exact ih (((ZBP x).1 hx).2.1 b hb)
  |els x z hz h ih=>exact ih (((ZBP x).1 hx).2.2 z hz)
def Inv (list:List Node):Prop:=list.Nodup∧∀k,k<list.length→∃x,Rep list k x
structure Added (list:List Node)(x:Tree)(list':List Node)(k:Nat):Prop where
  pre:list<+:list'
  inv:Inv list'
  rep:Rep list' k x
  len:list'.length≤list.length+x.nodes
  sub:∀i,list.length≤i→i<list'.length→∃y,Sub y x∧Rep list' i y
  last:list.length≤k→k+1=list'.length
theorem Inv.snoc {list:List Node}(h:Inv list){n:Node}(hn:n∉list){x:Tree}(hr:Rep (list++[n]) list.length x):Inv (list++[n]):=by
  refine⟨List.nodup_append.2 ⟨h.1,by simp,fun a ha b hb=>by simp at hb;subst hb;exact fun e=>hn (e▸ha)⟩,fun k hk=> ?_⟩
  by_cases e:k<list.length
  · obtain⟨y,hy⟩:=h.2 k e
    exact⟨y,hy.mono (List.prefix_append _ _)⟩
  · have:k=list.length:=by simp at hk;omega
    subst this;exact⟨x,hr⟩
theorem ZF1 {l:List Node}{n:Node}{j:Nat}(h:ZA6 l n=some j):l[j]? =some n:=by
  obtain⟨_,h2,h3,_⟩:=ZC4 h
  simp only[Nat.sub_zero]at h2 h3
  rw[List.getElem?_eq_getElem h2,h3]
theorem ZF2 {l:List Node}{n:Node}(h:ZA6 l n=none):n∉l:=fun hm=>ZC5 h n hm rfl
theorem Rep.build {l l' : List Node} (hp : l <+: l') {x : Tree} {es : List Edge} {e : Int} {k : Nat} (h : l'[k]? = some (ZA5 x es e)) (hl : es.length = x.branches.length)
    (rep:∀i (h1:i<es.length) (h2:i<x.branches.length),∃j:Nat,es[i]=⟨x.branches[i].ctor,x.branches[i].n,x.branches[i].m,(j:Int)⟩∧Rep l j x.branches[i].tree)
    (h0:x.els=[]→e= -1) (h1:x.els.length≤1) (he:∀y,y∈x.els→∃j0:Nat,e=(j0:Int)∧Rep l j0 y)
    (hlt:∀i (h1:i<es.length) (j:Nat),es[i].to=(j:Int)→j<k) (hlt2:∀j:Nat,e=(j:Int)→j<k):Rep l' k x:=by
  refine .mk k x es e (fun i=>(es.getD i ⟨0,0,0,0⟩).to.toNat) e.toNat h hl (fun i h1 h2=> ?_) (fun i h2=> ?_) (fun i h2=> ?_) h0 h1 (fun y hy=> ?_) (fun y hy=> ?_)
  · obtain⟨j,e1,_⟩:=rep i h1 h2
    have:es.getD i ⟨0,0,0,0⟩=es[i]:=by simp[List.getD_eq_getElem?_getD,h1]
    show es[i]=⟨_,_,_,(((es.getD i ⟨0,0,0,0⟩).to.toNat:Nat):Int)⟩
    rw[this,e1];simp
  · have h1:i<es.length:=by omega
    obtain⟨j,e1,_⟩:=rep i h1 h2
    have:es.getD i ⟨0,0,0,0⟩=es[i]:=by simp[List.getD_eq_getElem?_getD,h1]
    show(es.getD i ⟨0,0,0,0⟩).to.toNat<k
    rw[this]
    exact hlt i h1 _ (by rw[e1];simp)
  · have h1:i<es.length:=by omega
    obtain⟨j,e1,e2⟩:=rep i h1 h2
    have:es.getD i ⟨0,0,0,0⟩=es[i]:=by simp[List.getD_eq_getElem?_getD,h1]
    show Rep l' (es.getD i ⟨0,0,0,0⟩).to.toNat _
    rw[this,e1]
    exact e2.mono hp
  · obtain⟨j0,e1,e2⟩:=he y hy
    subst e1
    exact⟨by simp,hlt2 _ (by simp)⟩
  · obtain⟨j0,e1,e2⟩:=he y hy
    subst e1
    exact e2.mono hp
structure LI (x:Tree)(list:List Node)(i:Nat)(out:List Edge)(l:List Node):Prop where
  hi:i≤x.branches.length
  ho:out.length=i
  pre:list<+:l
  inv:Inv l
  len:l.length≤list.length+((x.branches.take i).map Branch.nodes).sum
  rep:∀i' (h:i'<out.length) (h2:i'<x.branches.length),∃j:Nat,out[i']=⟨x.branches[i'].ctor,x.branches[i'].n,x.branches[i'].m,(j:Int)⟩∧Rep l j x.branches[i'].tree
  sub:∀i',list.length≤i'→i'<l.length→∃y,(∃b,b∈x.branches∧Sub y b.tree)∧Rep l i' y
theorem ZFS {α:Type}{f:α→Nat}{l:List α}(i:Nat):((l.take i).map f).sum≤(l.map f).sum:=by
  induction l generalizing i with
  |nil=>simp
  |cons a r ih=>
    cases i with
    |zero=>simp
    |succ i=>simp only[List.take_succ_cons,List.map_cons,List.sum_cons];have:=ih i;omega
theorem ZDw {α:Type}{f:α→Nat}{l:List α}{i:Nat}(h:i<l.length):((l.take (i+1)).map f).sum=((l.take i).map f).sum+f l[i]:=by
  rw[List.take_succ_eq_append_getElem h,List.map_append,List.sum_append];simp
theorem ZFG {x : Tree} {list l : List Node} {es : List Edge} {e : Int} (hpre : list <+: l) (hinv : Inv l) (hlen : l.length + 1 ≤ list.length + x.nodes) (hl : es.length = x.branches.length)
    (rep:∀i (h1:i<es.length) (h2:i<x.branches.length),∃j:Nat,es[i]=⟨x.branches[i].ctor,x.branches[i].n,x.branches[i].m,(j:Int)⟩∧Rep l j x.branches[i].tree)
    (h0:x.els=[]→e= -1) (h1:x.els.length≤1) (he:∀y,y∈x.els→∃j0:Nat,e=(j0:Int)∧Rep l j0 y)
    (hsub':∀i',list.length≤i'→i'<l.length→∃y,Sub y x∧y.nodes<x.nodes∧Rep l i' y):
    (∀j,ZA6 l (ZA5 x es e)=some j→Added list x l j)∧(ZA6 l (ZA5 x es e)=none→Added list x (l++[ZA5 x es e]) l.length):=by
  have hsub:∀i',list.length≤i'→i'<l.length→∃y,Sub y x∧Rep l i' y:=fun i' a b=>by
    obtain⟨y,h1,_,h3⟩:=hsub' i' a b
    exact⟨y,h1,h3⟩
  constructor
  · intro j hj
    have hg:=ZF1 hj
    have hjl:=(List.getElem?_eq_some_iff.1 hg).1
    obtain⟨x',hx'⟩:=hinv.2 j hjl
    have hrx:Rep l j x:= ?_
    · refine⟨hpre,hinv,hrx,by omega,hsub,fun hlj=> ?_⟩
      obtain⟨y,_,h2,h3⟩:=hsub' j hlj hjl
      have:=h3.fn hrx
      subst this;omega
    cases hx' with
    |mk _ _ es' e' js' j0' g gl gb gj gr g0 g1 g2 g3=>
      rw[hg]at g
      have g:=Option.some.inj g
      have ge:es=es':=congrArg Node.edges g
      have gee:e=e':=congrArg Node.els g
      subst ge;subst gee
      refine Rep.build (List.prefix_refl _) hg hl rep h0 h1 he (fun i hi k hk=> ?_) (fun k hk=> ?_)
      · have h2:i<x'.branches.length:=by omega
        rw[gb i hi h2]at hk
        have:=gj i h2
        simp only at hk;omega
      · match hy:x'.els with
        | []=>have:=g0 hy;omega
        |a::r=>have:=g2 a (by rw[hy];simp);omega
  · intro hf
    have hn:=ZF2 hf
    have hr:Rep (l++[ZA5 x es e]) l.length x:=by
      refine Rep.build (List.prefix_append _ _) (by simp) hl rep h0 h1 he (fun i hi k hk=> ?_) (fun k hk=> ?_)
      · obtain⟨j,e1,e2⟩:=rep i hi (by omega)
        rw[e1]at hk
        have:=e2.lt
        simp only at hk;omega
      · match hy:x.els with
        | []=>have:=h0 hy;omega
        |a::r=>
          obtain⟨j,e1,e2⟩:=he a (by rw[hy];simp)
          have:=e2.lt;omega
    refine⟨hpre.trans (List.prefix_append _ _),hinv.snoc hn hr,hr,by simp;omega,fun i h1 h2=> ?_,fun _=>by simp⟩
    by_cases q:i<l.length
    · obtain⟨y,a,b⟩:=hsub i h1 q
      exact⟨y,a,b.mono (List.prefix_append _ _)⟩
    · have:i=l.length:=by simp at h2;omega
      subst this;exact⟨x,.refl x,hr⟩
theorem P.Yu (x : Tree) : right x → x.wt ≤ 1048576 → ∀ list, Inv list → list.length + x.nodes ≤ 67108864 →
    ∃list' k,F.f37 list x=some (list',((k:Nat):Int))∧F.f65 x list=some (((k:Nat):Int),list')∧Added list x list' k:=by
  induction x using Tree.ind with
  |_ x ihb ihe=>
    intro hx hw list hinv hlen
    obtain⟨⟨r1,r2,r3,r4⟩,rb,re⟩:=(ZBP x).1 hx
    have hn:=x.nodes_eq
    have hw2:=hw
    rw[Tree.wt_eq]at hw2
    have w1:=Zv PathBind.wt x.binds
    have w2:=Zv (fun _:Int=>0) x.path
    have wp:∀b,b∈x.binds→b.path.length≤67108864:=fun b hb=>by
      have:=Zu PathBind.wt hb
      have h3:b.path.length≤PathBind.wt b:=by unfold PathBind.wt;have:=Zv (fun _:Int=>0) b.path;omega
      omega
    have lp : ∀ (m i : Nat) (out : List Edge) (l : List Node), x.branches.length - i = m → LI x list i out l →
        ∃es l',F.f38 x x.binds (-1) out l i=some (es,l')∧F.f66 x x.binds x.path out l i=some (es,l')∧LI x list x.branches.length es l':=by
      intro m
      induction m with
      |zero=>
        intro i out l hm h
        have hi:=h.hi
        have:i=x.branches.length:=by omega
        subst this
        exact⟨out,l,by rw[F.f38,if_neg (by omega)],by rw[F.f66,if_neg (by omega)],h⟩
      |succ m ih=>
        intro i out l hm h
        have hi:i<x.branches.length:=by omega
        have hs:=ZDw (f:=Branch.nodes) hi
        have hs2:=ZFS (f:=Branch.nodes) (l:=x.branches) (i+1)
        have hbn:Branch.nodes x.branches[i]=x.branches[i].tree.nodes:=rfl
        have hl:=h.len
        have hbm:=List.getElem_mem hi
        have hbw:=Zu Branch.wt hbm
        have hbw2:Branch.wt x.branches[i]=x.branches[i].tree.wt:=rfl
        obtain⟨l2,k,g1,g2,g3⟩:=ihb _ hbm (rb _ hbm) (by omega) l h.inv (by omega)
        have hout:=h.ho
        have hrep2:∀i' (h:i'<(out++[(⟨x.branches[i].ctor,x.branches[i].n,x.branches[i].m,(k:Int)⟩:Edge)]).length) (h2:i'<x.branches.length),∃j:Nat,(out++[(⟨x.branches[i].ctor,x.branches[i].n,x.branches[i].m,(k:Int)⟩:Edge)])[i']=⟨x.branches[i'].ctor,x.branches[i'].n,x.branches[i'].m,(j:Int)⟩∧Rep l2 j x.branches[i'].tree:=by
          intro i' a1 a2
          by_cases q:i'<out.length
          · obtain⟨j,b1,b2⟩:=h.rep i' q a2
            exact⟨j,(List.getElem_append_left q).trans b1,b2.mono g3.pre⟩
          · have:i'=i:=by simp at a1;omega
            subst this
            exact⟨k,by rw[List.getElem_append_right (by omega)];simp,g3.rep⟩
        have hsub2:∀i',list.length≤i'→i'<l2.length→∃y,(∃b,b∈x.branches∧Sub y b.tree)∧Rep l2 i' y:=by
          intro i' a1 a2
          by_cases q:i'<l.length
          · obtain⟨y,b1,b2⟩:=h.sub i' a1 q
            exact⟨y,b1,b2.mono g3.pre⟩
          · obtain⟨y,b1,b2⟩:=g3.sub i' (by omega) a2
            exact⟨y,⟨_,hbm,b1⟩,b2⟩
        obtain⟨es,l',f1,f2,f3⟩:=ih (i+1) (out++[⟨x.branches[i].ctor,x.branches[i].n,x.branches[i].m,(k:Int)⟩]) l2 (by omega) ⟨by omega,by simp;omega,h.pre.trans g3.pre,g3.inv,by have:=g3.len;omega,hrep2,hsub2⟩
        refine⟨es,l',?_,?_,f3⟩
        · rw[F.f38,if_pos hi,List.getElem?_eq_getElem hi]
          simp only[Option.bind_eq_bind,Option.bind_some]
          rw[g1]
          simp only[Option.bind_some]
          rw[if_pos (by omega)];exact f1
        · rw[F.f66,if_pos hi,List.getElem?_eq_getElem hi]
          simp only[Option.bind_eq_bind,Option.bind_some]
          rw[g2]
          simp only[Option.bind_some]
          rw[if_pos (by omega)];exact f2
    obtain⟨es,l1,e1,e2,e3⟩:=lp _ 0 [] list rfl ⟨by omega,rfl,List.prefix_refl _,hinv,by simp,fun i' h=>by simp at h,fun i' a1 a2=>by omega⟩
    have hlen1:=e3.len
    rw[List.take_of_length_le (Nat.le_refl _)]at hlen1
    have hsub1:∀i',list.length≤i'→i'<l1.length→∃y,Sub y x∧y.nodes<x.nodes∧Rep l1 i' y:=fun i' a1 a2=>by
      obtain⟨y,⟨b,hb,b1⟩,b2⟩:=e3.sub i' a1 a2
      have h1:=b1.nodes
      have h2:=ZBc (f:=Branch.nodes) hb
      have h3:Branch.nodes b=b.tree.nodes:=rfl
      exact⟨y,.br y x b hb b1,by omega,b2⟩
    have hbinds:F.f27 x.binds=some x.binds:=P.Yg _ (by omega) wp
    have hbinds2:F.f52 x.binds=some x.binds:=P.Yb _ (by omega) wp
    have hpath:F.f50 x.path=some x.path:=P.YA _ (by omega)
    rw[F.f37,F.f65,hbinds,hbinds2,hpath]
    simp only[Option.bind_eq_bind,Option.bind_some,F.f28]
    rw[if_pos (by omega),e1,e2]
    simp only[Option.bind_some]
    cases hels:x.els with
    |nil=>
      rw[hels]at hn
      simp only[List.map_nil,List.sum_nil,Nat.add_zero]at hn
      have hl2:F.f67 x x.binds x.path (es,l1) (-1) l1 0=some (-1,l1):=by rw[F.f67,hels,if_neg (by simp)]
      rw[if_neg (by simp),hl2]
      simp only[Option.bind_some]
      obtain⟨a1,a2⟩:=ZFG (e:= -1) e3.pre e3.inv (by omega) e3.ho e3.rep (fun _=>rfl) r3 (fun y hy=>by rw[hels]at hy;cases hy) hsub1
      rw[ZIz (n:=(⟨x.op,x.clause,x.binds,x.path,es,-1⟩:Node)) (l:=l1) (x:=fun _=>none) (L:=F.f36 x x.binds (-1) (es,l1)) (fun k hk=>by rw[F.f36,if_neg (by simpa using hk)])
        (fun k hk hp=>by rw[F.f36,if_pos hk,List.getElem?_eq_getElem hk];simp only[Option.bind_eq_bind,Option.bind_some];rw[P.YC];simp only[Option.bind_some];rw[if_neg (by rw[ZE hp];simp)])
        (fun k hk hp=>by rw[F.f36,if_pos hk,List.getElem?_eq_getElem hk];simp only[Option.bind_eq_bind,Option.bind_some];rw[P.YC];simp only[Option.bind_some];rw[if_pos (dec_of hp)]) _ 0 rfl,List.drop_zero,P.Ye]
      change ∃list' k,Option.bind (some (match ZA6 l1 (ZA5 x es (-1))with|some j=>Lo.ret (l1,(j:Int))|none=>Lo.go ())) _=_∧Option.bind (some (match ZA6 l1 (ZA5 x es (-1))with|some j=>(j:Int)|none=> -1)) _=_∧_
      cases hf:ZA6 l1 (ZA5 x es (-1))with
      |some j=>
        simp only[Option.bind_some]
        rw[if_neg (by omega)]
        exact⟨l1,j,rfl,rfl,a1 j hf⟩
      |none=>
        simp only[Option.bind_some]
        rw[if_pos (by omega),if_pos (by omega),if_pos (by omega)]
        exact⟨_,l1.length,rfl,rfl,a2 hf⟩
    |cons y r=>
      have hr:r=[]:=by rw[hels]at r3;simp at r3;exact r3
      subst hr
      have hym:y∈x.els:=by rw[hels];simp
      rw[hels]at hn
      simp only[List.map_cons,List.map_nil,List.sum_cons,List.sum_nil]at hn
      have hyw:=Zu Tree.wt hym
      obtain⟨l2,k2,g1,g2,g3⟩:=ihe y hym (re y hym) (by omega) l1 e3.inv (by omega)
      rw[if_pos (by simp)]
      simp only[List.getElem?_cons_zero,Option.bind_some]
      have hl2:F.f67 x x.binds x.path (es,l1) (-1) l1 0=some ((k2:Int),l2):=by
        rw[F.f67,hels,if_pos (by simp)]
        simp only[Option.bind_eq_bind,List.getElem?_cons_zero,Option.bind_some]
        rw[g2]
        simp only[Option.bind_some]
        rw[F.f67,hels,if_neg (by simp)]
      rw[g1,hl2]
      simp only[Option.bind_some]
      have hlen2:=g3.len
      obtain⟨a1,a2⟩:=ZFG (x:=x) (es:=es) (e:=(k2:Int)) (e3.pre.trans g3.pre) g3.inv (by omega) e3.ho (fun i q1 q2=>by obtain⟨j,b1,b2⟩:=e3.rep i q1 q2;exact⟨j,b1,b2.mono g3.pre⟩)
        (fun q=>by rw[hels]at q;cases q) r3 (fun z hz=>by rw[hels]at hz;simp at hz;subst hz;exact⟨k2,rfl,g3.rep⟩)
        (fun i' q1 q2=>by
          by_cases q:i'<l1.length
          · obtain⟨z,b1,b3,b2⟩:=hsub1 i' q1 q;exact⟨z,b1,b3,b2.mono g3.pre⟩
          · obtain⟨z,b1,b2⟩:=g3.sub i' (by omega) q2;exact⟨z,.els z x y hym b1,by have:=b1.nodes;omega,b2⟩)
      rw[ZIz (n:=(⟨x.op,x.clause,x.binds,x.path,es,(k2:Int)⟩:Node)) (l:=l2) (x:=fun _=>none) (L:=F.f35 x x.binds (es,l1) (l2,(k2:Int))) (fun k hk=>by rw[F.f35,if_neg (by simpa using hk)])
        (fun k hk hp=>by rw[F.f35,if_pos hk,List.getElem?_eq_getElem hk];simp only[Option.bind_eq_bind,Option.bind_some];rw[P.YC];simp only[Option.bind_some];rw[if_neg (by rw[ZE hp];simp)])
        (fun k hk hp=>by rw[F.f35,if_pos hk,List.getElem?_eq_getElem hk];simp only[Option.bind_eq_bind,Option.bind_some];rw[P.YC];simp only[Option.bind_some];rw[if_pos (dec_of hp)]) _ 0 rfl,List.drop_zero,P.Ye]
      change ∃list' k,Option.bind (some (match ZA6 l2 (ZA5 x es (k2:Int))with|some j=>Lo.ret (l2,(j:Int))|none=>Lo.go ())) _=_∧Option.bind (some (match ZA6 l2 (ZA5 x es (k2:Int))with|some j=>(j:Int)|none=> -1)) _=_∧_
      cases hf:ZA6 l2 (ZA5 x es (k2:Int))with
      |some j=>
        simp only[Option.bind_some]
        rw[if_neg (by omega)]
        exact⟨l2,j,rfl,rfl,a1 j hf⟩
      |none=>
        simp only[Option.bind_some]
        rw[if_pos (by omega),if_pos (by omega),if_pos (by omega)]
        exact⟨_,l2.length,rfl,rfl,a2 hf⟩
structure nodeOk (i:Nat)(x:Node):Prop where
  op0:0≤x.op
  op2:x.op≤2
  els0: -1≤x.els
  els1:x.els<i
  len:x.edges.length≤10
  edges:∀j (h:j<x.edges.length),0≤x.edges[j].to∧x.edges[j].to<i
theorem P.Yl (x:Tree):x.nodes≤4611686018427387904→∀most:Nat,most≤1048576→∃c:Nat,F.f21 x most=some (c:Int)∧c≤x.nodes∧1≤c∧(x.nodes≤most→c=x.nodes)∧(most<x.nodes→most<c):=by
  induction x using Tree.ind with
  |_ x ihb ihe=>
    intro hbig most hm
    have hn:=x.nodes_eq
    have l1 : ∀ (m i n : Nat), x.branches.length - i = m → 1 ≤ n → n + ((x.branches.drop i).map Branch.nodes).sum ≤ x.nodes →
        ∃c:Nat,F.f22 x most (n:Int) i=some (c:Int)∧n≤c∧c≤n+((x.branches.drop i).map Branch.nodes).sum∧(n+((x.branches.drop i).map Branch.nodes).sum≤most→c=n+((x.branches.drop i).map Branch.nodes).sum)∧(most<n+((x.branches.drop i).map Branch.nodes).sum→most<c):=by
      intro m
      induction m with
      |zero=>
        intro i n hmi h1 hsum
        rw[List.drop_eq_nil_of_le (by omega)]
        refine⟨n,by rw[F.f22,if_neg (by omega)],by simp⟩
      |succ m ih=>
        intro i n hmi h1 hsum
        have hi:i<x.branches.length:=by omega
        rw[List.drop_eq_getElem_cons hi]at hsum ⊢
        simp only[List.map_cons,List.sum_cons]at hsum ⊢
        have hbn:Branch.nodes x.branches[i]=x.branches[i].tree.nodes:=rfl
        rw[F.f22,if_pos hi]
        by_cases hle:n≤most
        · rw[if_pos (by omega),List.getElem?_eq_getElem hi]
          simp only[Option.bind_eq_bind,Option.bind_some]
          rw[ZB (by omega) (by omega),show(most:Int) - (n:Int)=((most-n:Nat):Int)from by omega]
          obtain⟨c,e1,e2,e3,e4,e5⟩:=ihb _ (List.getElem_mem hi) (by omega) (most-n) (by omega)
          rw[e1]
          simp only[Option.bind_some]
          rw[ZB (by omega) (by omega),show(n:Int)+(c:Int)=((n+c:Nat):Int)from by omega]
          obtain⟨d,f1,f2,f3,f4,f5⟩:=ih (i+1) (n+c) (by omega) (by omega) (by omega)
          refine⟨d,f1,by omega,by omega,fun h=> ?_,fun h=> ?_⟩
          · have:=e4 (by omega);have:=f4 (by omega);omega
          · by_cases q:x.branches[i].tree.nodes≤most-n
            · have:=e4 q;exact f5 (by omega)
            · have:=e5 (by omega);omega
        · rw[if_neg (by omega)]
          exact⟨n,rfl,by omega,by omega,fun h=>by omega,fun h=>by omega⟩
    have l2 : ∀ (m i n : Nat), x.els.length - i = m → 1 ≤ n → n + ((x.els.drop i).map Tree.nodes).sum ≤ x.nodes →
        ∃c:Nat,F.f23 x most (n:Int) i=some (c:Int)∧n≤c∧c≤n+((x.els.drop i).map Tree.nodes).sum∧(n+((x.els.drop i).map Tree.nodes).sum≤most→c=n+((x.els.drop i).map Tree.nodes).sum)∧(most<n+((x.els.drop i).map Tree.nodes).sum→most<c):=by
      intro m
      induction m with
      |zero=>
        intro i n hmi h1 hsum
        rw[List.drop_eq_nil_of_le (by omega)]
        refine⟨n,by rw[F.f23,if_neg (by omega)],by simp⟩
      |succ m ih=>
        intro i n hmi h1 hsum
        have hi:i<x.els.length:=by omega
        rw[List.drop_eq_getElem_cons hi]at hsum ⊢
        simp only[List.map_cons,List.sum_cons]at hsum ⊢
        rw[F.f23,if_pos hi]
        by_cases hle:n≤most
        · rw[if_pos (by omega),List.getElem?_eq_getElem hi]
          simp only[Option.bind_eq_bind,Option.bind_some]
          rw[ZB (by omega) (by omega),show(most:Int) - (n:Int)=((most-n:Nat):Int)from by omega]
          obtain⟨c,e1,e2,e3,e4,e5⟩:=ihe _ (List.getElem_mem hi) (by omega) (most-n) (by omega)
          rw[e1]
          simp only[Option.bind_some]
          rw[ZB (by omega) (by omega),show(n:Int)+(c:Int)=((n+c:Nat):Int)from by omega]
          obtain⟨d,f1,f2,f3,f4,f5⟩:=ih (i+1) (n+c) (by omega) (by omega) (by omega)
          refine⟨d,f1,by omega,by omega,fun h=> ?_,fun h=> ?_⟩
          · have:=e4 (by omega);have:=f4 (by omega);omega
          · by_cases q:x.els[i].nodes≤most-n
            · have:=e4 q;exact f5 (by omega)
            · have:=e5 (by omega);omega
        · rw[if_neg (by omega)]
          exact⟨n,rfl,by omega,by omega,fun h=>by omega,fun h=>by omega⟩
    obtain⟨c,e1,e2,e3,e4,e5⟩:=l1 _ 0 1 rfl (by omega) (by simp only[List.drop_zero];omega)
    simp only[List.drop_zero]at e3 e4 e5
    obtain⟨d,f1,f2,f3,f4,f5⟩:=l2 _ 0 c rfl (by omega) (by simp only[List.drop_zero];omega)
    simp only[List.drop_zero]at f3 f4 f5
    refine⟨d,?_,by omega,by omega,fun h=> ?_,fun h=> ?_⟩
    · rw[F.f21]
      simp only[Option.bind_eq_bind]
      rw[show((1:Int))=((1:Nat):Int)from rfl,e1]
      simp only[Option.bind_some]
      rw[f1];rfl
    · have:=e4 (by omega);have:=f4 (by omega);omega
    · by_cases q:1+(x.branches.map Branch.nodes).sum≤most
      · have:=e4 q;exact f5 (by omega)
      · have:=e5 (by omega);omega
theorem P.Yf (x:Tree):F.f24 x=some (dec (right x)):=by
  induction x using Tree.ind with
  |_ x ihb ihe=>
    rw[F.f24,ZAM (ZBP x)]
    rcases Classical.em (x.op<0)with h|h
    · rw[if_pos h,ZE (by omega)]
    rcases Classical.em (2<x.op)with h2|h2
    · rw[if_neg h,if_pos h2,ZE (by omega)]
    rcases Classical.em (1<x.els.length)with h3|h3
    · rw[if_neg h,if_neg h2,if_pos h3,ZE (by omega)]
    rcases Classical.em (10<x.branches.length)with h4|h4
    · rw[if_neg h,if_neg h2,if_neg h3,if_pos h4,ZE (by omega)]
    rw[if_neg h,if_neg h2,if_neg h3,if_neg h4,ZOx (n:=x.branches.length) (r:=false) (Q:=fun i=>∀(h:i<x.branches.length),right x.branches[i].tree) (L:=F.f25 x)
      (fun k hk=>by rw[F.f25,if_neg (by omega)])
      (fun k hk hq=>by
        rw[F.f25,if_pos hk,List.getElem?_eq_getElem hk]
        simp only[Option.bind_eq_bind,Option.bind_some]
        rw[ihb _ (List.getElem_mem hk)]
        simp only[Option.bind_some]
        rw[if_pos (dec_of (hq hk))])
      (fun k hk hq=>by
        rw[F.f25,if_pos hk,List.getElem?_eq_getElem hk]
        simp only[Option.bind_eq_bind,Option.bind_some]
        rw[ihb _ (List.getElem_mem hk)]
        simp only[Option.bind_some]
        rw[if_neg (fun q=>hq fun _=>Zj.1 q)]) _ 0 rfl]
    simp only[Option.bind_eq_bind,Option.bind_some]
    by_cases hall:∀j,0≤j→j<x.branches.length→∀(h:j<x.branches.length),right x.branches[j].tree
    · have hb:∀b,b∈x.branches→right b.tree:=fun b hb=>by obtain⟨j,hj,rfl⟩:=List.getElem_of_mem hb;exact hall j (by omega) hj hj
      rw[if_pos (dec_of hall)]
      simp only
      by_cases h5:x.els.length=0
      · rw[if_pos h5,dec_of ⟨by omega,hb,fun y hy=>by rw[List.eq_nil_of_length_eq_zero h5]at hy;cases hy⟩]
      · have h0:0<x.els.length:=by omega
        rw[if_neg h5,List.getElem?_eq_getElem h0]
        simp only[Option.bind_some]
        rw[ihe _ (List.getElem_mem h0)]
        simp only[Option.bind_some]
        congr 1
        refine ZAM ⟨fun q=>⟨by omega,hb,fun y hy=> ?_⟩,fun q=>q.2.2 _ (List.getElem_mem h0)⟩
        obtain⟨j,hj,rfl⟩:=List.getElem_of_mem hy
        have:j=0:=by omega
        subst this;exact q
    · rw[if_neg (by rw[ZE hall];simp),ZE fun q=>hall fun j _ hj h=>q.2.1 _ (List.getElem_mem hj)]
theorem P.Ym (x:Tree)(hw:x.wt≤1048576):F.f45 x=some (dec (right x)):=by
  induction x using Tree.ind with
  |_ x ihb ihe=>
    have hw2:=hw
    rw[Tree.wt_eq]at hw2
    rw[F.f45,ZAM (ZBP x)]
    have hwi:F.f44 x.op 0 2=some (dec (0≤x.op∧x.op≤2)):=by
      unfold F.f44
      by_cases h:0≤x.op
      · rw[if_pos h,←ZKm];congr 1;exact ZAM ⟨fun q=>⟨h,q⟩,fun q=>q.2⟩
      · rw[if_neg h,ZE fun q=>h q.1]
    rw[hwi]
    simp only[Option.bind_eq_bind,Option.bind_some]
    rcases Classical.em (0≤x.op∧x.op≤2)with h|h
    rotate_left
    · rw[if_neg (by rw[ZE h];simp),ZE fun q=>h ⟨q.1.1,q.1.2.1⟩]
    rcases Classical.em (x.branches.length≤10)with h4|h4
    rotate_left
    · rw[if_pos (dec_of h),if_neg h4,ZE fun q=>h4 q.1.2.2.2]
    rcases Classical.em (x.els.length≤1)with h3|h3
    rotate_left
    · rw[if_pos (dec_of h),if_pos h4,if_neg h3,ZE fun q=>h3 q.1.2.2.1]
    rw[if_pos (dec_of h),if_pos h4,if_pos h3,P.YF x hw]
    simp only[Option.bind_some]
    have one:∀y,y∈x.branches.map (·.tree)++x.els→F.f46 y=some (!dec (right y)):=by
      intro y hy
      rw[F.f46]
      rcases List.mem_append.1 hy with hy|hy
      · obtain⟨b,hb,rfl⟩:=List.mem_map.1 hy
        rw[ihb b hb (by have:=Zu Branch.wt hb;have:Branch.wt b=b.tree.wt:=rfl;omega)];rfl
      · rw[ihe y hy (by have:=Zu Tree.wt hy;omega)];rfl
    generalize hl:x.branches.map (·.tree)++x.els=l at one ⊢
    rw[F.f47,F.f48]
    rw[ZNb (a:=l) (p:=fun y=>¬right y) (L:=F.f49 l) (fun k hk=>by rw[F.f49,if_neg (by omega)])
      (fun k hk hp=>by rw[F.f49,if_pos hk,List.getElem?_eq_getElem hk];simp only[Option.bind_eq_bind,Option.bind_some];rw[one _ (List.getElem_mem hk)];simp only[Option.bind_some];rw[dec_of (Classical.not_not.1 hp)];rfl)
      (fun k hk hp=>by rw[F.f49,if_pos hk,List.getElem?_eq_getElem hk];simp only[Option.bind_eq_bind,Option.bind_some];rw[one _ (List.getElem_mem hk)];simp only[Option.bind_some];rw[ZE hp];rfl) _ 0 rfl,List.drop_zero]
    have hmem:(∀y,y∈l→right y)↔(∀b,b∈x.branches→right b.tree)∧∀y,y∈x.els→right y:=by
      subst hl
      exact⟨fun q=>⟨fun b hb=>q _ (List.mem_append_left _ (List.mem_map_of_mem hb)),fun y hy=>q _ (List.mem_append_right _ hy)⟩,fun q y hy=>by
        rcases List.mem_append.1 hy with hy|hy
        · obtain⟨b,hb,rfl⟩:=List.mem_map.1 hy;exact q.1 b hb
        · exact q.2 y hy⟩
    cases hf:ZGt (fun y=>¬right y) 0 l with
    |none=>
      have:=ZC5 hf
      simp only[Option.bind_eq_bind,Option.bind_some]
      rw[dec_of ⟨⟨h.1,h.2,h3,h4⟩,hmem.1 fun y hy=>Classical.not_not.1 (this y hy)⟩];rfl
    |some j=>
      obtain⟨_,h2,h5,_⟩:=ZC4 hf
      simp only[Option.bind_eq_bind,Option.bind_some]
      rw[ZE fun q=>h5 (hmem.2 q.2 _ (List.getElem_mem _))];simp
theorem P.YZ (x : Tree) (hw : x.wt ≤ 1048576) : (F.f39 x = some ([], false) ∧ F.f68 x = some ([], false) ∧ ¬ (x.nodes ≤ 300 ∧ right x)) ∨
    (x.nodes≤300∧right x∧∃l k,F.f39 x=some (l,true)∧F.f68 x=some (l,true)∧Added [] x l k):=by
  have hn:=x.nodes_le
  obtain⟨c,e1,e2,e3,e4,e5⟩:=P.Yl x (by omega) 300 (by omega)
  unfold F.f39 F.f68
  have e1:F.f21 x 300=some (c:Int):=e1
  rw[e1,P.Yc x (by omega)]
  simp only[Option.bind_eq_bind,Option.bind_some]
  by_cases h:300<x.nodes
  · have:=e5 h
    rw[if_pos (by omega),if_pos (by omega)]
    exact .inl ⟨rfl,rfl,fun q=>by omega⟩
  · have:=e4 (by omega)
    rw[if_neg (by omega),if_neg (by omega),P.Yf,P.Ym x (by omega)]
    simp only[Option.bind_some]
    by_cases hr:right x
    · rw[if_pos (dec_of hr),if_pos (dec_of hr)]
      obtain⟨l,k,f1,f2,f3⟩:=P.Yu x hr (by omega) [] ⟨List.nodup_nil,fun k hk=>by simp at hk⟩ (by simp;omega)
      rw[f1,f2]
      simp only[Option.bind_some]
      exact .inr ⟨by omega,hr,l,k,rfl,rfl,f3⟩
    · rw[if_neg (by rw[ZE hr];simp),if_neg (by rw[ZE hr];simp)]
      exact .inl ⟨rfl,rfl,fun q=>hr q.2⟩
theorem Rep.ok {list:List Node}{k:Nat}{x:Tree}(h:Rep list k x)(hr:right x):∃hk:k<list.length,nodeOk k list[k]∧list[k].binds=x.binds∧list[k].path=x.path:=by
  cases h with
  |mk _ _ es e js j0 h hl hb hj hr' h0 h1 h2 h3=>
    obtain⟨⟨r1,r2,r3,r4⟩,_,_⟩:=(ZBP x).1 hr
    obtain⟨hk,e1⟩:=List.getElem?_eq_some_iff.1 h
    refine⟨hk,?_,by rw[e1];rfl,by rw[e1];rfl⟩
    rw[e1]
    have he: -1≤e∧e<(k:Int):=by
      match hx:x.els with
      | []=>have:=h0 hx;omega
      |a::r=>have:=h2 a (by rw[hx];simp);omega
    exact⟨r1,r2,he.1,he.2,by show es.length≤10;omega,fun j hj'=>by
      have hj':j<es.length:=hj'
      have h4:j<x.branches.length:=by omega
      show 0≤es[j].to∧es[j].to<(k:Int)
      rw[hb j hj' h4]
      have:=hj j h4
      simp only;omega⟩
theorem Added.valid {x:Tree}{l:List Node}{k:Nat}(h:Added [] x l k)(hx:right x)(hn:x.nodes≤300):1≤l.length∧l.length≤300∧∀j (h:j<l.length),nodeOk j l[j]:=by
  have hk:=h.rep.lt
  have hl:=h.len
  refine⟨by omega,by simp at hl;omega,fun j hj=> ?_⟩
  obtain⟨y,hy,hr⟩:=h.sub j (by simp) hj
  exact(Rep.ok hr (hy.right hx)).2.1
theorem Sub.wt {y x:Tree}(h:Sub y x):y.wt≤x.wt:=by
  induction h with
  |refl=>exact Nat.le_refl _
  |br x b hb h ih=>have:=x.wt_eq;have:=Zu Branch.wt hb;have:Branch.wt b=b.tree.wt:=rfl;omega
  |els x z hz h ih=>have:=x.wt_eq;have:=Zu Tree.wt hz;omega
theorem Added.binds {x:Tree}{l:List Node}{k:Nat}(h:Added [] x l k)(hx:right x)(hw:x.wt≤1048576):∀n,n∈l→n.binds.length≤67108864:=by
  intro n hn
  obtain⟨j,hj,rfl⟩:=List.getElem_of_mem hn
  obtain⟨y,hy,hr⟩:=h.sub j (by simp) hj
  obtain⟨_,_,e,_⟩:=Rep.ok hr (hy.right hx)
  have h1:=hy.wt
  have h2:=Zv PathBind.wt y.binds
  have h3:=y.wt_eq
  rw[e];omega
theorem Rep.sub {list:List Node}{y x:Tree}(h:Sub y x):∀{k:Nat},Rep list k x→∃j,j≤k∧Rep list j y:=by
  induction h with
  |refl=>intro k hr;exact⟨k,Nat.le_refl _,hr⟩
  |br x b hb h ih=>
    intro k hr
    cases hr with
    |mk _ _ es e js j0 _ _ _ hj hr'=>
      obtain⟨i,hi,rfl⟩:=List.getElem_of_mem hb
      obtain⟨j,a,b⟩:=ih (hr' i hi)
      have:=hj i hi
      exact⟨j,by omega,b⟩
  |els x z hz h ih=>
    intro k hr
    cases hr with
    |mk _ _ es e js j0 _ _ _ _ _ _ _ h2 h3=>
      obtain⟨j,a,b⟩:=ih (h3 z hz)
      have:=(h2 z hz).2
      exact⟨j,by omega,b⟩
theorem ZCk {α:Type}{f:α→Nat}{k:Nat}:∀{l:List α},(∀x,x∈l→f x≤k)→wtL f l≤l.length*(1+k)
  | [],_=>by simp
  |a::r,h=>by
    have h1:=h a (by simp)
    have h2:=ZCk (l:=r) fun x hx=>h x (List.mem_cons_of_mem _ hx)
    rw[ZU,List.length_cons,Nat.add_mul]
    omega
theorem P.YY (x:Tree)(hw:x.wt≤1048576):∃r:List Node×Bool,F.f68 x=some r∧F.f39 x=some r∧wtL Node.wt r.1≤314577000:=by
  rcases P.YZ x hw with⟨e1,e2,_⟩|⟨hn,hr,l,k,e1,e2,ha⟩
  · exact⟨_,e2,e1,by simp⟩
  · refine⟨_,e2,e1,?_⟩
    obtain⟨_,hl,hok⟩:=Added.valid ha hr hn
    have h1:∀n,n∈l→n.wt≤1048586:=by
      intro n hm
      obtain⟨j,hj,rfl⟩:=List.getElem_of_mem hm
      obtain⟨y,hy,hrep⟩:=Added.sub ha j (by simp) hj
      obtain⟨_,_,q2,q3⟩:=Rep.ok hrep (Sub.right hy hr)
      have hyw:=Sub.wt hy
      have hy2:=y.wt_eq
      have he:=(hok j hj).len
      have hE:=ZCk (f:=Edge.wt) (k:=0) (l:=l[j].edges) fun _ _=>Nat.le_refl 0
      show wtL PathBind.wt l[j].binds+wtL (fun _=>0) l[j].path+wtL Edge.wt l[j].edges≤_
      rw[q2,q3]
      omega
    have h2:=ZCk (f:=Node.wt) h1
    show wtL Node.wt l≤_
    have:l.length*(1+1048586)≤300*(1+1048586):=Nat.mul_le_mul_right _ hl
    omega
end Go.Vl
