/- Plain laws that this one rests on (printed by gen_l.py). -/
import Derived.Test.YtojdombnghnbmaaExactExpandNodesP
import Derived.Test.YtojdombnghnbmaaVlQ
set_option linter.unusedSimpArgs false
set_option linter.unusedVariables false
set_option maxRecDepth 100000
namespace Go.Vl
open Go Go.RowKit
theorem sbind {α β:Type}{a:α}{f:α→Option β}:(some a>>=f)=f a:=rfl
theorem iteG {α:Type}{c:Prop}[Decidable c]{a b r:Option α}(h1:c→a=r)(h2:¬c→b=r):(if c then a else b)=r:=by
 by_cases h:c
 ·rw[if_pos h];exact h1 h
 ·rw[if_neg h];exact h2 h
def gl (a:Nat):Int:=if((a^^^ (a/64))%8)=3 then -1 else if(a^^^ (a/64))%8<2 then 0 else 1
def hasV (v:Int):Nat→Pattern→Prop
 |0,_=>False
 |d+1,p=>(∃i,∃h:i<p.kids.length,hasV v d p.kids[i])∨((p.op=2∨p.op=6)∧p.var=v)
def hv (d:Nat)(p:Pattern):Prop:=∃v,hasV v d p
def Tree.nodes :Tree→Nat
 |⟨_,_,_,_,branches,els⟩=>1+(branches.attach.map fun⟨b,_⟩=>Tree.nodes b.tree).sum+(els.attach.map fun⟨k,_⟩=>Tree.nodes k).sum
termination_by t=>SizeOf.sizeOf t
decreasing_by
 ·rename_i h
  have:=List.sizeOf_lt_of_mem h
  cases b
  simp at this ⊢
  omega
 ·rename_i h
  have:=List.sizeOf_lt_of_mem h
  simp
  omega
def Branch.nodes (b:Branch):Nat:=b.tree.nodes
theorem Tree.nodes_eq (x:Tree):x.nodes=1+(x.branches.map Branch.nodes).sum+(x.els.map Tree.nodes).sum:=by
 cases x
 rw[Tree.nodes]
 simp only[List.map_attach_eq_pmap,List.pmap_eq_map]
 rfl
theorem PathBind.ext' {a b:PathBind}:a.var=b.var∧a.path=b.path↔a=b:=by
 cases a;cases b;simp
theorem Node.ext' {a b:Node}:(a.op=b.op∧a.clause=b.clause∧a.els=b.els∧a.binds=b.binds∧a.path=b.path∧a.edges=b.edges)↔a=b:=by
 cases a;cases b;simp only[Node.mk.injEq]
 exact⟨fun⟨h1,h2,h3,h4,h5,h6⟩=>⟨h1,h2,h4,h5,h6,h3⟩,fun⟨h1,h2,h4,h5,h6,h3⟩=>⟨h1,h2,h3,h4,h5,h6⟩⟩
theorem P.spec_l8Binds (l:List PathBind)(h:l.length≤67108864)(hp:∀b,b∈l→b.path.length≤67108864):F.f24 l=some l:=by
 unfold F.f24
 have:=appLoop (L:=F.f23 l) (a:=l) (g:=fun b:PathBind=>b) (f:=fun b=>if b.path.length≤67108864 then some b else none)
  (fun out i=>by
   rw[F.f23]
   split
   ·next hi=>
    rw[List.getElem?_eq_getElem hi]
    simp only[Option.bind_eq_bind,Option.bind_some]
    rw[if_pos (hp _ (List.getElem_mem hi)),if_pos (hp _ (List.getElem_mem hi))];rfl
   ·rfl)
  (fun b hb=>by rw[if_pos (hp b hb)]) _ 0 [] rfl (by simp;omega)
 rw[this];simp
theorem P.slices_Clone_int (l:List Int)(h:l.length≤67108864):F.f38 l=some l:=by unfold F.f38;rw[if_pos h]
theorem P.impl_ownBinds (l:List PathBind)(h:l.length≤67108864)(hp:∀b,b∈l→b.path.length≤67108864):F.f40 l=some l:=by
 unfold F.f40
 have:=appLoop (L:=F.f39 l) (a:=l) (g:=fun b:PathBind=>b) (f:=fun b=>F.f38 b.path>>=fun v=>some (⟨b.var,v⟩:PathBind))
  (fun out i=>by
   rw[F.f39]
   split
   ·next hi=>
    rw[List.getElem?_eq_getElem hi]
    simp only[Option.bind_eq_bind,Option.bind_some]
    rw[P.slices_Clone_int _ (hp _ (List.getElem_mem hi))]
    simp only[Option.bind_some]
   ·rfl)
  (fun b hb=>by rw[P.slices_Clone_int _ (hp b hb)];rfl) _ 0 [] rfl (by simp;omega)
 rw[this];simp
def nodeAt (x:Tree)(es:List Edge)(e:Int):Node:=⟨x.op,x.clause,x.binds,x.path,es,e⟩
inductive Rep (list:List Node):Nat→Tree→Prop
 |mk (k:Nat) (x:Tree) (es:List Edge) (e:Int) (js:Nat→Nat) (j0:Nat) (h:list[k]? =some (nodeAt x es e)) (hl:es.length=x.branches.length)
   (hb:∀i (h1:i<es.length) (h2:i<x.branches.length),es[i]=⟨x.branches[i].ctor,x.branches[i].n,x.branches[i].m,(js i:Int)⟩)
   (hj:∀i,i<x.branches.length→js i<k) (hr:∀i (h2:i<x.branches.length),Rep list (js i) x.branches[i].tree)
   (h0:x.els=[]→e= -1) (h1:x.els.length≤1) (h2:∀y,y∈x.els→e=(j0:Int)∧j0<k) (h3:∀y,y∈x.els→Rep list j0 y):Rep list k x
theorem Rep.lt {list:List Node}{k:Nat}{x:Tree}(h:Rep list k x):k<list.length:=by
 cases h with
 |mk k x es e js j0 h=>exact(List.getElem?_eq_some_iff.1 h).1
theorem Branch.ext' {a b:Branch}(h1:a.ctor=b.ctor)(h2:a.n=b.n)(h3:a.m=b.m)(h4:a.tree=b.tree):a=b:=by
 cases a;cases b;simp only at h1 h2 h3 h4;subst h1 h2 h3 h4;rfl
theorem Tree.ext' {a b:Tree}(h1:a.op=b.op)(h2:a.clause=b.clause)(h3:a.binds=b.binds)(h4:a.path=b.path)(h5:a.branches=b.branches)(h6:a.els=b.els):a=b:=by
 cases a;cases b;simp only at h1 h2 h3 h4 h5 h6;subst h1 h2 h3 h4 h5 h6;rfl
theorem Rep.fn {list:List Node}{k:Nat}{x:Tree}(h:Rep list k x):∀{y:Tree},Rep list k y→x=y:=by
 induction h with
 |mk k x es e js j0 h hl hb hj hr h0 h1 h2 h3 ihr ih3=>
  intro y hy
  cases hy with
  |mk _ _ es' e' js' j0' g gl gb gj gr g0 g1 g2 g3=>
   rw[h]at g
   have g:=Option.some.inj g
   have ge:es=es':=congrArg Node.edges g
   have gee:e=e':=congrArg Node.els g
   subst ge;subst gee
   refine Tree.ext' (congrArg Node.op g) (congrArg Node.clause g) (congrArg Node.binds g) (congrArg Node.path g) (List.ext_getElem (by omega) fun i hi hi'=> ?_) ?_
   ·have e1:=hb i (by omega) hi
    have e2:=gb i (by omega) hi'
    rw[e1]at e2
    simp only[Edge.mk.injEq]at e2
    obtain⟨a1,a2,a3,a4⟩:=e2
    have a4:js i=js' i:=by omega
    exact Branch.ext' a1 a2 a3 (ihr i hi (a4▸gr i hi'))
   ·match hx:x.els,hy:y.els with
    | [],[]=>rfl
    | [],b::r=>
     have:=h0 hx;have:=(g2 b (by rw[hy];simp)).1;omega
    |a::r,[]=>
     have:=g0 hy;have:=(h2 a (by rw[hx];simp)).1;omega
    |a::r,b::r'=>
     have q1:r=[]:=by rw[hx]at h1;simp at h1;exact h1
     have q2:r'=[]:=by rw[hy]at g1;simp at g1;exact g1
     subst q1;subst q2
     have p1:=(h2 a (by rw[hx];simp)).1
     have p2:=(g2 b (by rw[hy];simp)).1
     have p3:j0=j0':=by omega
     rw[ih3 a (by rw[hx];simp) (p3▸g3 b (by rw[hy];simp))]
theorem nodup_get {α:Type}{l:List α}(hn:l.Nodup){i j:Nat}(hi:i<l.length)(hj:j<l.length)(e:l[i]=l[j]):i=j:=by
 have h:=List.pairwise_iff_getElem.1 hn
 rcases Nat.lt_trichotomy i j with q|q|q
 ·exact absurd e (h i j hi hj q)
 ·exact q
 ·exact absurd e.symm (h j i hj hi q)
theorem Rep.inj {list:List Node}(hn:list.Nodup){k:Nat}{x:Tree}(h:Rep list k x):∀{j:Nat},Rep list j x→k=j:=by
 induction h with
 |mk k x es e js j0 h hl hb hj hr h0 h1 h2 h3 ihr ih3=>
  intro j hy
  cases hy with
  |mk _ _ es' e' js' j0' g gl gb gj gr g0 g1 g2 g3=>
   have ee:es=es':=List.ext_getElem (by omega) fun i hi hi'=>by
    rw[hb i hi (by omega),gb i hi' (by omega),ihr i (by omega) (gr i (by omega))]
   have e2:e=e':=by
    match hx:x.els with
    | []=>rw[h0 hx,g0 hx]
    |a::r=>
     have p1:=(h2 a (by rw[hx];simp)).1
     have p2:=(g2 a (by rw[hx];simp)).1
     rw[p1,p2,ih3 a (by rw[hx];simp) (g3 a (by rw[hx];simp))]
   subst ee;subst e2
   have hk:=(List.getElem?_eq_some_iff.1 h).1
   have hjj:=(List.getElem?_eq_some_iff.1 g).1
   exact nodup_get hn hk hjj (by rw[(List.getElem?_eq_some_iff.1 h).2,(List.getElem?_eq_some_iff.1 g).2])
theorem sum_mem {α:Type}{f:α→Nat}{l:List α}{a:α}(h:a∈l):f a≤(l.map f).sum:=by
 induction l with
 |nil=>cases h
 |cons b r ih=>
  simp only[List.map_cons,List.sum_cons]
  rcases List.mem_cons.1 h with rfl|h
  ·omega
  ·have:=ih h;omega
theorem Tree.nodes_pos (x:Tree):1≤x.nodes:=by rw[Tree.nodes_eq];omega
def rightT :Nat→Tree→Prop
 |0,_=>False
 |n+1,x=>(0≤x.op∧x.op≤2∧x.els.length≤1∧x.branches.length≤10)∧(∀b,b∈x.branches→rightT n b.tree)∧∀y,y∈x.els→rightT n y
theorem rightT_any :∀{n m:Nat} {x:Tree},x.nodes≤m→rightT n x→rightT m x
 |0,_,_,_,h=>h.elim
 |n+1,0,x,h,_=>by have:=x.nodes_pos;omega
 |n+1,m+1,x,h,⟨h1,h2,h3⟩=>by
  have hx:=x.nodes_eq
  exact⟨h1,fun b hb=>rightT_any (by have:=sum_mem (f:=Branch.nodes) hb;have:Branch.nodes b=b.tree.nodes:=rfl;omega) (h2 b hb),fun y hy=>rightT_any (by have:=sum_mem (f:=Tree.nodes) hy;omega) (h3 y hy)⟩
def right (x:Tree):Prop:=rightT x.nodes x
theorem right_eq (x:Tree):right x↔(0≤x.op∧x.op≤2∧x.els.length≤1∧x.branches.length≤10)∧(∀b,b∈x.branches→right b.tree)∧∀y,y∈x.els→right y:=by
 have hx:=x.nodes_eq
 constructor
 ·intro h
  unfold right at h
  obtain⟨n,hn⟩:∃n,x.nodes=n+1:=⟨x.nodes-1,by have:=x.nodes_pos;omega⟩
  rw[hn]at h
  exact⟨h.1,fun b hb=>rightT_any (Nat.le_refl _) (h.2.1 b hb),fun y hy=>rightT_any (Nat.le_refl _) (h.2.2 y hy)⟩
 ·rintro⟨h1,h2,h3⟩
  unfold right
  obtain⟨n,hn⟩:∃n,x.nodes=n+1:=⟨x.nodes-1,by have:=x.nodes_pos;omega⟩
  rw[hn]
  exact⟨h1,fun b hb=>rightT_any (by have:=sum_mem (f:=Branch.nodes) hb;have:Branch.nodes b=b.tree.nodes:=rfl;omega) (h2 b hb),fun y hy=>rightT_any (by have:=sum_mem (f:=Tree.nodes) hy;omega) (h3 y hy)⟩
structure nodeOk (i:Nat)(x:Node):Prop where
 op0:0≤x.op
 op2:x.op≤2
 els0: -1≤x.els
 els1:x.els<i
 len:x.edges.length≤10
 edges:∀j (h:j<x.edges.length),0≤x.edges[j].to∧x.edges[j].to<i
theorem P.NodesValid_l2 (list:List Node)(i:Nat)(x:Node):F.f20 list i x 0=some (if dec (∀j (h:j<x.edges.length),0≤j→(0≤x.edges[j].to∧x.edges[j].to<i))=true then .go ()else .ret false):=by
 refine allLoop (a:=x.edges) (Q:=fun _ e=>0≤e.to∧e.to<i) (L:=F.f20 list i x) (fun k hk=> ?_) (fun k hk hq=> ?_) (fun k hk hq=> ?_) _ 0 rfl
 ·rw[F.f20,if_neg hk]
 ·rw[F.f20,if_pos hk,List.getElem?_eq_getElem hk]
  simp only[Option.bind_eq_bind,Option.bind_some]
  rw[if_neg (by omega),if_neg (by omega)]
 ·rw[F.f20,if_pos hk,List.getElem?_eq_getElem hk]
  simp only[Option.bind_eq_bind,Option.bind_some]
  by_cases h:x.edges[k].to<0
  ·rw[if_pos h]
  ·rw[if_neg h,if_pos (by omega)]
theorem P.spec_NodesValid (list:List Node):F.f22 list=some (dec (1≤list.length∧list.length≤300∧∀j (h:j<list.length),nodeOk j list[j])):=by
 unfold F.f22
 by_cases h0:list.length=0
 ·rw[if_pos h0,dec_not (by omega)]
 rw[if_neg h0]
 by_cases h1:300<list.length
 ·rw[if_pos h1,dec_not (by omega)]
 rw[if_neg h1]
 have key:F.f21 list 0=some (if dec (∀j (h:j<list.length),0≤j→nodeOk j list[j])=true then .go ()else .ret false):=by
  refine allLoop (a:=list) (Q:=nodeOk) (L:=fun k=>F.f21 list k) (fun k hk=> ?_) (fun k hk hq=> ?_) (fun k hk hq=> ?_) _ 0 rfl
  ·show F.f21 list k=_
   rw[F.f21,if_neg (by omega)]
  ·show F.f21 list k=F.f21 list (k+1)
   rw[F.f21,if_pos (by omega),List.getElem?_eq_getElem hk]
   have:=hq.op0;have:=hq.op2;have:=hq.els0;have:=hq.els1;have:=hq.len
   simp only[Option.bind_eq_bind,Option.bind_some,F.f19]
   rw[if_neg (by omega),if_neg (by omega),if_neg (by omega),if_neg (by omega),if_neg (by omega),P.NodesValid_l2,if_pos (dec_of fun j h _=>hq.edges j h)]
   exact if_pos (by omega)
  ·show F.f21 list k=_
   rw[F.f21,if_pos (by omega),List.getElem?_eq_getElem hk]
   simp only[Option.bind_eq_bind,Option.bind_some,F.f19]
   by_cases a1:list[k].op<0
   ·rw[if_pos a1]
   rw[if_neg a1]
   by_cases a2:2<list[k].op
   ·rw[if_pos a2]
   rw[if_neg a2]
   by_cases a3:list[k].els< -1
   ·rw[if_pos a3]
   rw[if_neg a3]
   by_cases a4:(k:Int)≤list[k].els
   ·rw[if_pos a4]
   rw[if_neg a4]
   by_cases a5:10<list[k].edges.length
   ·rw[if_pos a5]
   rw[if_neg a5,P.NodesValid_l2,if_neg (by
    rw[dec_not fun hh=>hq ⟨by omega,by omega,by omega,by omega,by omega,fun j h=>hh j h (by omega)⟩];simp)]
   rfl
 rw[key]
 simp only[Option.bind_eq_bind,Option.bind_some]
 by_cases hall:∀j (h:j<list.length),0≤j→nodeOk j list[j]
 ·rw[if_pos (dec_of hall),dec_of ⟨by omega,by omega,fun j h=>hall j h (by omega)⟩]
 ·rw[if_neg (by rw[dec_not hall];simp),dec_not fun hh=>hall fun j h _=>hh.2.2 j h]
theorem P.withinN (n low high:Int):F.f28 n low high=some (decide (low≤n∧n≤high)):=by
 unfold F.f28
 by_cases h:low≤n<;>simp[h]
theorem P.closure (e:Edge)(i:Nat)(hi:i≤67108864):F.f29 e i=some (!decide (0≤e.to∧e.to<(i:Int))):=by
 unfold F.f29
 rw[P.withinN,wrap_in (by omega) (by omega)]
 simp only[Option.bind_eq_bind,Option.bind_some]
 congr 2
 exact decide_eq_decide.2 (by omega)
theorem P.index (s:List Edge)(i:Nat)(hi:i≤67108864)(hs:s.length≤67108864):∀(m k:Nat),s.length-k=m→∃r,F.f30 s i k=some r∧
  match r with| .ret j=>0≤j∧∃l,∃h:l<s.length,k≤l∧¬(0≤s[l].to∧s[l].to<i)| .go _=>∀l (h:l<s.length),k≤l→(0≤s[l].to∧s[l].to<i):=by
 intro m
 induction m with
 |zero=>
  intro k hm
  rw[F.f30,if_neg (by omega)]
  exact⟨_,rfl,fun l h hl=>by omega⟩
 |succ m ih=>
  intro k hm
  have hk:k<s.length:=by omega
  rw[F.f30,if_pos hk,List.getElem?_eq_getElem hk]
  simp only[Option.bind_eq_bind,Option.bind_some]
  rw[P.closure _ _ hi]
  simp only[Option.bind_some]
  by_cases h:0≤s[k].to∧s[k].to<i
  ·rw[if_neg (by simp[h])]
   obtain⟨r,hr,hx⟩:=ih (k+1) (by omega)
   refine⟨r,hr,?_⟩
   cases r with
   |ret j=>obtain⟨h1,l,h2,h3,h4⟩:=hx;exact⟨h1,l,h2,by omega,h4⟩
   |go _=>
    intro l hl hkl
    by_cases e:k=l
    ·subst e;exact h
    ·exact hx l hl (by omega)
  ·rw[if_pos (by rw[decide_eq_false h];rfl)]
   exact⟨_,rfl,by omega,k,hk,Nat.le_refl _,h⟩
theorem P.contains (s:List Edge)(i:Nat)(hi:i≤67108864)(hs:s.length≤67108864):F.f32 s i=some (!dec (∀l (h:l<s.length),0≤s[l].to∧s[l].to<i)):=by
 unfold F.f32 F.f31
 obtain⟨r,hr,hx⟩:=P.index s i hi hs _ 0 rfl
 rw[hr]
 cases r with
 |ret j=>
  obtain⟨h1,l,h2,_,h4⟩:=hx
  simp only[Option.bind_eq_bind,Option.bind_some]
  rw[dec_not fun hh=>h4 (hh l h2)]
  simp[h1]
 |go _=>
  simp only[Option.bind_eq_bind,Option.bind_some]
  rw[dec_of fun l h=>hx l h (by omega)]
  simp
theorem P.impl_NodesValid (list:List Node)(hl:list.length≤1048576):F.f34 list=some (dec (1≤list.length∧list.length≤300∧∀j (h:j<list.length),nodeOk j list[j])):=by
 unfold F.f34
 have key:F.f33 list 0=some (if dec (∀j (h:j<list.length),0≤j→nodeOk j list[j])=true then .go ()else .ret false):=by
  refine allLoop (a:=list) (Q:=nodeOk) (L:=F.f33 list) (fun k hk=> ?_) (fun k hk hq=> ?_) (fun k hk hq=> ?_) _ 0 rfl
  ·rw[F.f33,if_neg (by omega)]
  ·rw[F.f33,if_pos (by omega),List.getElem?_eq_getElem hk]
   have:=hq.op0;have:=hq.op2;have:=hq.els0;have:=hq.els1;have:=hq.len
   simp only[Option.bind_eq_bind,Option.bind_some,P.withinN]
   rw[if_pos (by simp;omega),if_neg (by omega),wrap_in (by omega) (by omega),if_pos (by simp;omega),P.contains _ _ (by omega) (by omega),dec_of hq.edges]
   simp
  ·rw[F.f33,if_pos (by omega),List.getElem?_eq_getElem hk]
   simp only[Option.bind_eq_bind,Option.bind_some,P.withinN]
   by_cases a1:0≤list[k].op∧list[k].op≤2
   ·rw[if_pos (by simp;omega)]
    by_cases a5:10<list[k].edges.length
    ·rw[if_pos a5]
    rw[if_neg a5,wrap_in (by omega) (by omega)]
    by_cases a3: -1≤list[k].els∧list[k].els≤(k:Int) -1
    ·rw[if_pos (by simp;omega),P.contains _ _ (by omega) (by omega),dec_not fun hh=>hq ⟨a1.1,a1.2,a3.1,by omega,by omega,hh⟩]
     simp
    ·rw[if_neg (by simp;omega)]
   ·rw[if_neg (by simp;omega)]
 rw[key]
 simp only[Option.bind_eq_bind,Option.bind_some]
 by_cases hall:∀j (h:j<list.length),0≤j→nodeOk j list[j]
 ·rw[if_pos (dec_of hall)]
  simp only[P.withinN,Option.bind_some,←dec_eq]
  congr 1
  exact dec_congr ⟨fun h=>⟨by omega,by omega,fun j hj=>hall j hj (by omega)⟩,fun h=>by omega⟩
 ·rw[if_neg (by rw[dec_not hall];simp),dec_not fun hh=>hall fun j h _=>hh.2.2 j h]
theorem minI (a b:Nat)(ha:a≤301)(hb:b≤301):(if(301:Int)<IntKind.i64.wrap ((a:Int)+(b:Int))then(301:Int)else IntKind.i64.wrap ((a:Int)+(b:Int)))=((min (a+b) 301:Nat):Int):=by
 rw[wrap_in (by omega) (by omega)]
 split<;>omega
def cap (n:Nat):Nat:=min n 301
theorem P.impl_sizes (list:List Node)(hl:list.length≤300)(T:Nat→Tree)(hT:∀k,k<list.length→Rep list k (T k)):∃s,F.f37 list=some s∧s.length=list.length∧∀k (h:k<s.length),s[k]=((cap (T k).nodes:Nat):Int):=by
 have l2:∀(i:Nat) (out:List Int) (hi:i<list.length),out.length=i→(∀k (h:k<out.length),out[k]=((cap (T k).nodes:Nat):Int))→∀(js:Nat→Nat) (bs:List Branch) (hbl:list[i].edges.length=bs.length) (hb:∀j (h1:j<list[i].edges.length) (h2:j<bs.length),list[i].edges[j].to=(js j:Int)∧js j<i∧T (js j)=bs[j].tree),
   ∀(m j n:Nat),bs.length-j=m→n≤301→F.f35 list i out list[i] j (n:Int)=some ((cap (n+((bs.drop j).map Branch.nodes).sum):Nat):Int):=by
  intro i out hi hol ho js bs hbl hb m
  induction m with
  |zero=>intro j n hm hn;rw[F.f35,if_neg (by omega),List.drop_eq_nil_of_le (by omega)];simp[cap];omega
  |succ m ih=>
   intro j n hm hn
   have hj:j<bs.length:=by omega
   have hj':j<list[i].edges.length:=by omega
   obtain⟨e1,e2,e3⟩:=hb j hj' hj
   rw[F.f35,if_pos hj',List.getElem?_eq_getElem hj',List.drop_eq_getElem_cons hj]
   simp only[Option.bind_eq_bind,Option.bind_some]
   rw[e1,at_lt (show js j<out.length by omega)]
   simp only[Option.bind_some]
   rw[ho _ (by omega),e3,minI _ _ hn (by unfold cap;omega),ih (j+1) _ (by omega) (by omega)]
   simp only[List.map_cons,List.sum_cons]
   have:Branch.nodes bs[j]=bs[j].tree.nodes:=rfl
   congr 2
   unfold cap;omega
 have l1:∀(m i:Nat) (out:List Int),list.length-i=m→out.length=i→i≤list.length→(∀k (h:k<out.length),out[k]=((cap (T k).nodes:Nat):Int))→∃s,F.f36 list i out=some s∧s.length=list.length∧∀k (h:k<s.length),s[k]=((cap (T k).nodes:Nat):Int):=by
  intro m
  induction m with
  |zero=>intro i out hm hol hi ho;exact⟨out,by rw[F.f36,if_neg (by omega)],by omega,ho⟩
  |succ m ih=>
   intro i out hm hol hi ho
   have hi:i<list.length:=by omega
   rw[F.f36,if_pos hi,List.getElem?_eq_getElem hi]
   simp only[Option.bind_eq_bind,Option.bind_some]
   have hR:=hT i hi
   have hfn:∀{j:Nat} {y:Tree},Rep list j y→T j=y:=fun h=>(hT _ h.lt).fn h
   generalize hx:T i=x at hR
   have hn:=x.nodes_eq
   cases hR with
   |mk _ _ es e js j0 h hl hb hj hr h0 h1 h2 h3=>
    have e1:=(List.getElem?_eq_some_iff.1 h).2
    have ees:list[i].edges=es:=by rw[e1];rfl
    have eel:list[i].els=e:=by rw[e1];rfl
    have:=l2 i out hi hol ho js x.branches (by rw[ees];exact hl) (fun j a1 a2=>by
     have a1':j<es.length:=by rw[←ees];exact a1
     have q:=hb j a1' a2
     have:list[i].edges[j]=es[j]:=by congr 1
     rw[this,q]
     exact⟨rfl,hj j a2,hfn (hr j a2)⟩) _ 0 1 rfl (by omega)
    rw[show(1:Int)=((1:Nat):Int)from rfl,this]
    simp only[Option.bind_some,List.drop_zero]
    rw[eel]
    have fin:∀(v:Nat),v=x.nodes→∀k (h:k<(out++[((cap v:Nat):Int)]).length),(out++[((cap v:Nat):Int)])[k]=((cap (T k).nodes:Nat):Int):=by
     intro v hv k hk
     by_cases q:k<out.length
     ·rw[List.getElem_append_left q];exact ho k q
     ·have:k=i:=by simp at hk;omega
      subst this
      rw[List.getElem_append_right (by omega)];simp[hv,hx]
    match hels:x.els with
    | []=>
     rw[hels]at hn
     simp only[List.map_nil,List.sum_nil,Nat.add_zero]at hn
     rw[if_neg (by have:=h0 hels;omega),if_pos (by omega),if_pos (by omega)]
     have:=fin (1+(x.branches.map Branch.nodes).sum) (by omega)
     exact ih (i+1) _ (by omega) (by simp;omega) (by omega) this
    |y::r=>
     rw[hels]at h1
     have hr0:r=[]:=by simp at h1;exact h1
     subst hr0
     rw[hels]at hn
     simp only[List.map_cons,List.map_nil,List.sum_cons,List.sum_nil,Nat.add_zero]at hn
     obtain⟨q1,q2⟩:=h2 y (by rw[hels];simp)
     have q3:=h3 y (by rw[hels];simp)
     rw[if_pos (by omega),q1,at_lt (show j0<out.length by omega)]
     simp only[Option.bind_some]
     rw[ho _ (by omega),hfn q3,minI _ _ (by unfold cap;omega) (by unfold cap;omega),if_pos (by omega),if_pos (by omega)]
     have:=fin (1+(x.branches.map Branch.nodes).sum+y.nodes) (by omega)
     have e5:min (cap (1+(x.branches.map Branch.nodes).sum)+cap y.nodes) 301=cap (1+(x.branches.map Branch.nodes).sum+y.nodes):=by unfold cap;omega
     rw[e5]
     exact ih (i+1) _ (by omega) (by simp;omega) (by omega) this
 unfold F.f37
 obtain⟨s,e1,e2,e3⟩:=l1 _ 0 [] rfl rfl (by omega) (fun k h=>by simp at h)
 rw[e1]
 exact⟨s,rfl,e2,e3⟩
theorem Rep.all (list:List Node)(hv:∀j (h:j<list.length),nodeOk j list[j]):∀(N k:Nat),k<N→k<list.length→∃x,Rep list k x∧right x:=by
 intro N
 induction N with
 |zero=>intro k h;omega
 |succ N ih=>
  intro k hN hk
  have hn:=hv k hk
  obtain⟨f,hf⟩:∃f:Nat→Tree,∀j,j<k→Rep list j (f j)∧right (f j):=Classical.axiomOfChoice (r:=fun j y=>j<k→Rep list j y∧right y) fun j=>by
   by_cases hj:j<k
   ·obtain⟨y,hy⟩:=ih j (by omega) (by omega);exact⟨y,fun _=>hy⟩
   ·exact⟨⟨0,0,[],[],[],[]⟩,fun h=>absurd h hj⟩
  let n:=list[k]
  let x:Tree:=⟨n.op,n.clause,n.binds,n.path,n.edges.map fun e=>⟨e.ctor,e.n,e.m,f e.to.toNat⟩,if n.els<0 then[]else[f n.els.toNat]⟩
  have hed:∀i (h:i<n.edges.length),0≤n.edges[i].to∧n.edges[i].to<k:=hn.edges
  have hels:x.els=if n.els<0 then[]else[f n.els.toNat]:=rfl
  have hbr:x.branches=n.edges.map fun e=>⟨e.ctor,e.n,e.m,f e.to.toNat⟩:=rfl
  refine⟨x,.mk k x n.edges n.els (fun i=>(n.edges[i]?.map fun e=>e.to.toNat).getD 0) n.els.toNat ?_ ?_ ?_ ?_ ?_ ?_ ?_ ?_ ?_,?_⟩
  ·rw[List.getElem?_eq_getElem hk];rfl
  ·rw[hbr,List.length_map]
  ·intro i h1 h2
   have:=hed i h1
   simp only[hbr,List.getElem_map,List.getElem?_eq_getElem h1,Option.map_some,Option.getD_some]
   rw[Int.toNat_of_nonneg this.1]
  ·intro i h
   rw[hbr,List.length_map]at h
   have:=hed i h
   simp only[List.getElem?_eq_getElem h,Option.map_some,Option.getD_some]
   omega
  ·intro i h
   have h':=h
   rw[hbr,List.length_map]at h'
   have:=hed i h'
   simp only[hbr,List.getElem_map,List.getElem?_eq_getElem h',Option.map_some,Option.getD_some]
   exact(hf _ (by omega)).1
  ·intro h
   rw[hels]at h
   split at h
   ·have: -1≤n.els:=hn.els0;omega
   ·cases h
  ·rw[hels];split<;>simp
  ·intro y hy
   rw[hels]at hy
   have:n.els<(k:Int):=hn.els1
   split at hy
   ·cases hy
   ·omega
  ·intro y hy
   rw[hels]at hy
   have:n.els<(k:Int):=hn.els1
   split at hy
   ·cases hy
   ·rw[List.mem_singleton.1 hy];exact(hf _ (by omega)).1
  ·refine(right_eq x).2 ⟨⟨hn.op0,hn.op2,?_,?_⟩,fun b hb=> ?_,fun y hy=> ?_⟩
   ·rw[hels];split<;>simp
   ·rw[hbr,List.length_map];exact hn.len
   ·rw[hbr]at hb
    obtain⟨e,he,rfl⟩:=List.mem_map.1 hb
    obtain⟨i,hi,rfl⟩:=List.getElem_of_mem he
    have:=hed i hi
    exact(hf _ (by omega)).2
   ·rw[hels]at hy
    have:n.els<(k:Int):=hn.els1
    split at hy
    ·cases hy
    ·rw[List.mem_singleton.1 hy];exact(hf _ (by omega)).2
theorem P.spec_l8Expand {list:List Node}(hl:∀n,n∈list→n.wt≤1048576){k:Nat}{x:Tree}(h:Rep list k x)(hr:right x):∀left:Nat,left≤300→
  (x.nodes≤left→F.f25 list (k:Int) (left:Int)=some (x,((left-x.nodes:Nat):Int)))∧(left<x.nodes→∃y l',F.f25 list (k:Int) (left:Int)=some (y,l')∧l'<0):=by
 induction h with
 |mk k x es e js j0 h hlen hb hj hr' h0 h1 h2 h3 ihr ih3=>
  intro left hleft
  obtain⟨⟨_,_,r3,r4⟩,rb,re⟩:=(right_eq x).1 hr
  have hnw:=hl _ (List.mem_of_getElem? h)
  unfold Node.wt nodeAt at hnw
  simp only at hnw
  have hbl:=wtL_len PathBind.wt x.binds
  have hpl:=wtL_len (fun _:Int=>0) x.path
  have hbp:∀b,b∈x.binds→b.path.length≤67108864:=fun b hb=>by
   have q1:=wtL_mem PathBind.wt hb
   have q2:b.path.length≤PathBind.wt b:=by unfold PathBind.wt;exact wtL_len (fun _:Int=>0) b.path
   omega
  have hw1:IntKind.i64.wrap ((left:Int) -1)=(left:Int) -1:=wrap_in (by omega) (by omega)
  have hn:=x.nodes_eq
  rw[F.f25.eq_def,hw1]
  by_cases hz:left=0
  ·subst hz
   rw[if_pos (by omega)]
   exact⟨fun q=>by omega,fun _=>⟨_,_,rfl,by omega⟩⟩
  rw[if_neg (by omega)]
  have hat:at? list (k:Int)=some (nodeAt x es e):=by
   rw[at_nat];exact h
  rw[hat]
  simp only[Option.bind_eq_bind,Option.bind_some]
  rw[show(nodeAt x es e).binds=x.binds from rfl,P.spec_l8Binds _ (by omega) hbp]
  simp only[Option.bind_some]
  rw[show(nodeAt x es e).path=x.path from rfl,if_pos (by omega)]
  have loop:∀(m i:Nat) (out:List Branch) (K:Nat),x.branches.length-i=m→out.length≤10→i≤x.branches.length→out.length=i→out=x.branches.take i→K≤300→
    (((x.branches.drop i).map Branch.nodes).sum≤K→F.f26 list (nodeAt x es e) x.binds out i (K:Int)=some (x.branches,((K- ((x.branches.drop i).map Branch.nodes).sum:Nat):Int)))∧
    (K<((x.branches.drop i).map Branch.nodes).sum→∃o l',F.f26 list (nodeAt x es e) x.binds out i (K:Int)=some (o,l')∧l'<0):=by
   intro m
   induction m with
   |zero=>
    intro i out K hm ho hi hoi hout hK
    have hil:i=x.branches.length:=by omega
    rw[List.drop_eq_nil_of_le (by omega)]
    refine⟨fun _=> ?_,fun q=>by simp at q⟩
    rw[F.f26.eq_def,if_neg (by show ¬i<es.length;omega),hout,hil,List.take_length]
    simp
   |succ m ihm=>
    intro i out K hm ho hi hoi hout hK
    have hib:i<x.branches.length:=by omega
    have hie:i<es.length:=by omega
    have hbm:=List.getElem_mem hib
    rw[List.drop_eq_getElem_cons hib,List.map_cons,List.sum_cons]
    have hbn:Branch.nodes x.branches[i]=x.branches[i].tree.nodes:=rfl
    have f1:x.branches.length- (i+1)=m:=by omega
    have f3:i+1≤10:=by omega
    have f4:∀n:Nat,K-n≤300:=fun n=>by omega
    have f5:i+1≤x.branches.length:=by omega
    have f6:out.length+1≤67108864:=by omega
    have f7:(0:Int)≤(K:Int):=by omega
    obtain⟨q1,q2⟩:=ihr i hib (rb _ hbm) K hK
    have hes:=hb i hie hib
    have step:F.f26 list (nodeAt x es e) x.binds out i (K:Int)=(F.f25 list (js i:Int) (K:Int))>>=fun v14=>if out.length+1≤67108864 then F.f26 list (nodeAt x es e) x.binds (out++[(⟨x.branches[i].ctor,x.branches[i].n,x.branches[i].m,v14.1⟩:Branch)]) (i+1) v14.2 else none:=by
     rw[F.f26.eq_def,if_pos (show i<(nodeAt x es e).edges.length from hie),if_pos f7,show(nodeAt x es e).edges=es from rfl,List.getElem?_eq_getElem hie,hes]
     rfl
    rw[step]
    by_cases hle:x.branches[i].tree.nodes≤K
    ·rw[q1 hle]
     clear q1 q2
     simp only[Option.bind_eq_bind,Option.bind_some]
     rw[if_pos f6]
     have eo:out++[(⟨x.branches[i].ctor,x.branches[i].n,x.branches[i].m,x.branches[i].tree⟩:Branch)]=x.branches.take (i+1):=by
      rw[hout,List.take_succ_eq_append_getElem hib]
     have f8:(out++[(⟨x.branches[i].ctor,x.branches[i].n,x.branches[i].m,x.branches[i].tree⟩:Branch)]).length=i+1:=by rw[List.length_append,List.length_singleton,hoi]
     obtain⟨p1,p2⟩:=ihm (i+1) _ (K-x.branches[i].tree.nodes) f1 (by rw[f8];exact f3) f5 f8 eo (f4 _)
     clear ihm
     rw[hbn]
     refine⟨fun q=> ?_,fun q=>p2 (by clear p1 p2;omega)⟩
     rw[p1 (by clear p1 p2;omega)]
     clear p1 p2
     congr 3
     omega
    ·obtain⟨y,l',e1,e2⟩:=q2 (by clear q1 q2;omega)
     clear q1 q2
     rw[e1]
     simp only[Option.bind_eq_bind,Option.bind_some]
     rw[if_pos f6]
     refine⟨fun q=>by rw[hbn]at q;omega,fun _=> ?_⟩
     rw[F.f26.eq_def]
     split
     ·rw[if_neg (by omega)];exact⟨_,_,rfl,e2⟩
     ·exact⟨_,_,rfl,e2⟩
  obtain⟨p1,p2⟩:=loop _ 0 [] (left-1) rfl (by simp) (by omega) rfl (by simp) (by omega)
  rw[List.drop_zero]at p1 p2
  have hL:(left:Int) -1=((left-1:Nat):Int):=by omega
  rw[hL]
  by_cases hs:(x.branches.map Branch.nodes).sum≤left-1
  ·rw[p1 hs]
   simp only[Option.bind_some]
   cases hels:x.els with
   |nil=>
    rw[hels]at hn
    simp only[List.map_nil,List.sum_nil]at hn
    rw[if_neg (by show ¬0≤e;rw[h0 hels];omega)]
    refine⟨fun _=> ?_,fun q=>by omega⟩
    have et:(⟨x.op,x.clause,x.binds,x.path,x.branches,[]⟩:Tree)=x:=by rw[←hels];cases x;rfl
    show some ((⟨x.op,x.clause,x.binds,x.path,x.branches,[]⟩:Tree),_)=_
    rw[et]
    congr 3
    omega
   |cons y r=>
    have hr1:r=[]:=by rw[hels]at r3;simp at r3;exact r3
    subst hr1
    have hym:y∈x.els:=by rw[hels];simp
    rw[hels]at hn
    simp only[List.map_cons,List.map_nil,List.sum_cons,List.sum_nil]at hn
    have he:=(h2 y hym).1
    rw[if_pos (by show 0≤e;omega),if_pos (Int.natCast_nonneg _)]
    obtain⟨q1,q2⟩:=ih3 y hym (re y hym) (left-1- (x.branches.map Branch.nodes).sum) (by omega)
    have et:(⟨x.op,x.clause,x.binds,x.path,x.branches,[y]⟩:Tree)=x:=by rw[←hels];cases x;rfl
    have ee:(nodeAt x es e).els=(j0:Int):=he
    rw[ee]
    refine⟨fun q=> ?_,fun q=> ?_⟩
    ·rw[q1 (by omega)]
     show some ((⟨x.op,x.clause,x.binds,x.path,x.branches,[y]⟩:Tree),_)=_
     rw[et]
     congr 3
     omega
    ·obtain⟨z,l',e1,e2⟩:=q2 (by omega)
     rw[e1]
     exact⟨_,_,rfl,e2⟩
  ·obtain⟨o,l',e1,e2⟩:=p2 (by omega)
   rw[e1]
   simp only[Option.bind_some]
   refine⟨fun q=>by omega,fun _=> ?_⟩
   split
   ·rw[if_neg (by omega)];exact⟨_,_,rfl,e2⟩
   ·exact⟨_,_,rfl,e2⟩
theorem Rep.weightW {list:List Node}(hw:∀n,n∈list→n.wt≤1048576){k:Nat}{x:Tree}(h:Rep list k x):x.wt+1≤1048577*x.nodes:=by
 induction h with
 |mk k x es e js j0 h hl hb hj hr h0 h1 h2 h3 ihr ih3=>
  have hn:=hw _ (List.mem_of_getElem? h)
  have e1:=x.wt_eq
  have e2:=x.nodes_eq
  unfold Node.wt nodeAt at hn
  have a1:∀l:List Branch,(∀b,b∈l→b.tree.wt+1≤1048577*b.tree.nodes)→wtL Branch.wt l≤1048577*(l.map Branch.nodes).sum:=by
   intro l
   induction l with
   |nil=>intro _;simp
   |cons a r ih=>
    intro hq
    have q1:=hq a (by simp)
    have q2:=ih fun b hb=>hq b (List.mem_cons_of_mem _ hb)
    have q3:Branch.wt a=a.tree.wt:=rfl
    have q4:Branch.nodes a=a.tree.nodes:=rfl
    rw[wtL_cons,List.map_cons,List.sum_cons]
    omega
  have a2:∀l:List Tree,(∀b,b∈l→b.wt+1≤1048577*b.nodes)→wtL Tree.wt l≤1048577*(l.map Tree.nodes).sum:=by
   intro l
   induction l with
   |nil=>intro _;simp
   |cons a r ih=>
    intro hq
    have q1:=hq a (by simp)
    have q2:=ih fun b hb=>hq b (List.mem_cons_of_mem _ hb)
    rw[wtL_cons,List.map_cons,List.sum_cons]
    omega
  have b1:=a1 x.branches fun b hb=>by
   obtain⟨i,hi,rfl⟩:=List.getElem_of_mem hb
   exact ihr i hi
  have b2:=a2 x.els fun y hy=>ih3 y hy
  simp only at hn
  omega
theorem P.impl_expandW {list:List Node}(hnw:∀n,n∈list→n.wt≤1048576){k:Nat}{x:Tree}(h:Rep list k x)(hr:right x):F.f41 list (k:Int)=some x:=by
 induction h with
 |mk k x es e js j0 h hl hb hj hr' h0 h1 h2 h3 ihr ih3=>
  obtain⟨⟨r1,r2,r3,r4⟩,rb,re⟩:=(right_eq x).1 hr
  have hw2:=hnw _ (List.mem_of_getElem? h)
  unfold Node.wt nodeAt at hw2
  simp only at hw2
  have w1:=wtL_len PathBind.wt x.binds
  have w2:=wtL_len (fun _:Int=>0) x.path
  have wp:∀b,b∈x.binds→b.path.length≤67108864:=fun b hb=>by
   have:=wtL_mem PathBind.wt hb
   have h3:b.path.length≤PathBind.wt b:=by unfold PathBind.wt;have:=wtL_len (fun _:Int=>0) b.path;omega
   omega
  obtain⟨hk,e1⟩:=List.getElem?_eq_some_iff.1 h
  rw[F.f41,at_lt hk]
  simp only[Option.bind_eq_bind,Option.bind_some]
  rw[e1]
  have lp:∀(m i:Nat) (out:List Branch),x.branches.length-i=m→out=x.branches.take i→i≤x.branches.length→F.f42 list (nodeAt x es e) x.binds x.path out i=some x.branches:=by
   intro m
   induction m with
   |zero=>
    intro i out hm ho hi
    rw[F.f42,if_neg (by show ¬i<es.length;omega),ho,List.take_of_length_le (by omega)]
   |succ m ih=>
    intro i out hm ho hi
    have hi:i<x.branches.length:=by omega
    have hi':i<es.length:=by omega
    have hg:(nodeAt x es e).edges[i]? =some es[i]:=List.getElem?_eq_getElem hi'
    rw[F.f42,if_pos (by show i<es.length;omega),hg]
    simp only[Option.bind_eq_bind,Option.bind_some]
    rw[hb i hi' hi]
    simp only
    have hbm:=List.getElem_mem hi
    rw[ihr i hi (rb _ hbm)]
    simp only[Option.bind_some]
    rw[if_pos (by rw[ho];simp;omega)]
    refine ih (i+1) _ (by omega) ?_ (by omega)
    rw[ho,List.take_succ_eq_append_getElem hi]
  have hB:F.f40 (nodeAt x es e).binds=some x.binds:=P.impl_ownBinds _ (by show x.binds.length≤_;omega) wp
  have hP:F.f38 (nodeAt x es e).path=some x.path:=P.slices_Clone_int _ (by show x.path.length≤_;omega)
  rw[hB,hP]
  simp only[Option.bind_some]
  rw[lp _ 0 [] rfl rfl (by omega)]
  simp only[Option.bind_some]
  have hels':(nodeAt x es e).els=e:=rfl
  rw[hels']
  match hels:x.els with
  | []=>
   rw[if_neg (by have:=h0 hels;omega)]
   congr 1
   exact Tree.ext' rfl rfl rfl rfl rfl hels.symm
  |y::r=>
   have hr0:r=[]:=by rw[hels]at h1;simp at h1;exact h1
   subst hr0
   have hym:y∈x.els:=by rw[hels];simp
   obtain⟨q1,q2⟩:=h2 y hym
   rw[if_pos (by omega),q1,ih3 y hym (re y hym)]
   simp only[Option.bind_some]
   congr 1
   exact Tree.ext' rfl rfl rfl rfl rfl hels.symm
theorem P.ExpandNodes_same (l:List Node)(hlen:l.length≤1048576)(hw:∀n,n∈l→n.wt≤1048576):
  ∃r:Tree×Bool,F.f43 l=some r∧F.f27 l=some r∧r.1.wt≤314573100:=by
 unfold F.f43 F.f27
 rw[P.impl_NodesValid l hlen,P.spec_NodesValid l]
 simp only[Option.bind_eq_bind,Option.bind_some]
 have hz:(⟨0,0,[],[],[],[]⟩:Tree).wt≤314573100:=by rw[Tree.wt_eq];simp
 by_cases hv:1≤l.length∧l.length≤300∧∀j (h:j<l.length),nodeOk j l[j]
 ·rw[if_pos (dec_of hv),if_pos (dec_of hv)]
  have hidx:IntKind.i64.wrap ((l.length:Int) -1)=((l.length-1:Nat):Int):=by rw[wrap_in (by omega) (by omega)];omega
  obtain⟨f,hf⟩:∃f:Nat→Tree,∀j,j<l.length→Rep l j (f j):=Classical.axiomOfChoice (r:=fun j y=>j<l.length→Rep l j y) fun j=>by
   by_cases hj:j<l.length
   ·obtain⟨y,hy,_⟩:=Rep.all l hv.2.2 _ j (Nat.lt_succ_self _) hj;exact⟨y,fun _=>hy⟩
   ·exact⟨⟨0,0,[],[],[],[]⟩,fun h=>absurd h hj⟩
  obtain⟨x,hx,hr⟩:=Rep.all l hv.2.2 _ (l.length-1) (Nat.lt_succ_self _) (by omega)
  obtain⟨s,e1,e2,e3⟩:=P.impl_sizes l hv.2.1 f hf
  have hT:f (l.length-1)=x:=Rep.fn (hf _ (by omega)) hx
  rw[e1,hidx]
  simp only[Option.bind_some]
  rw[at_lt (show l.length-1<s.length by omega)]
  simp only[Option.bind_some]
  rw[e3 _ (by omega)]
  simp only[hT]
  obtain⟨p1,p2⟩:=P.spec_l8Expand hw hx hr 300 (by omega)
  by_cases hn:x.nodes≤300
  ·have hxw:=Rep.weightW hw hx
   have p1:F.f25 l ((l.length-1:Nat):Int) 300=some (x,((300-x.nodes:Nat):Int)):=p1 hn
   rw[if_neg (by unfold cap;omega),P.impl_expandW hw hx hr,p1]
   simp only[Option.bind_some]
   rw[if_neg (by omega)]
   exact⟨_,rfl,rfl,by show x.wt≤_;omega⟩
  ·obtain⟨y,l',q1,q2⟩:=p2 (by omega)
   have q1:F.f25 l ((l.length-1:Nat):Int) 300=some (y,l'):=q1
   rw[if_pos (by unfold cap;omega),q1]
   simp only[Option.bind_some]
   rw[if_pos q2]
   exact⟨_,rfl,rfl,hz⟩
 ·rw[if_neg (by rw[dec_not hv];decide),if_neg (by rw[dec_not hv];decide)]
  exact⟨_,rfl,rfl,hz⟩
end Go.Vl
