/- The value-level layer, part 28: plain facts of the program's types: weights, bounds, how they are opened, and loops (printed by gen_p.py). -/
import Derived.Test.YtojdombnghnbmaaVlG
import Derived.Test.YtojdombnghnbmaaVlD
set_option linter.unusedSimpArgs false
set_option linter.unusedVariables false
namespace Go.Vl
open Go Go.RowKit
def wtL {α:Type}(f:α→Nat)(xs:List α):Nat:=xs.length+(xs.map f).sum
theorem wtL_eq {α:Type}(f:α→Nat)(xs:List α):wtL f xs=xs.length+(xs.map f).sum:=rfl
def okL {α:Type}(Q:α→Prop)(xs:List α):Prop:=xs.length≤maxLen∧∀x,x∈xs→Q x
@[simp] theorem wtL_nil {α:Type}(f:α→Nat):wtL f []=0:=rfl
@[simp] theorem wtL_cons {α:Type}(f:α→Nat)(x:α)(r:List α):wtL f (x::r)=1+f x+wtL f r:=by simp[wtL];omega
theorem wtL_mem {α:Type}(f:α→Nat){x:α}{xs:List α}(h:x∈xs):1+f x≤wtL f xs:=by
  induction xs with
  |nil=>cases h
  | cons a r ih => rcases List.mem_cons.1 h with rfl | h
                   · simp
                   · have:=ih h;simp;omega
theorem wtL_len {α:Type}(f:α→Nat)(xs:List α):xs.length≤wtL f xs:=by simp[wtL]
theorem wtL_int (xs:List Int):wtL (fun _=>0) xs=xs.length:=by induction xs with|nil=>rfl|cons a r ih=>simp[ih];omega
def inR (n:Int):Prop:= -9223372036854775808≤n∧n≤9223372036854775807
theorem Is.int_inv {d:D}(h:Is .int d):∃n,d=.int n∧inR n:=by
  cases h with
  |int n hw=>
    refine⟨n,rfl,?_⟩
    simp only[Lit.wf,Bool.and_eq_true,decide_eq_true_eq]at hw
    exact hw
theorem Is.str_inv {d:D}(h:Is .str d):∃s,d=.str s∧s.size≤maxLen:=by cases h with|str s h=>exact⟨s,rfl,h⟩
theorem Is.list_inv {t:DTy}{d:D}(h:Is (.list t) d):∃es,d=.list es∧es.length≤maxLen∧IsL t es:=by cases h with|list t es h hx=>exact⟨es,rfl,h,hx⟩
theorem Is.named_inv {i:Nat}{d:D}(h:Is (.named i) d):∃fs,d=.struct fs∧IsA (tyDef i) fs:=by cases h with|named i fs h=>exact⟨fs,rfl,h⟩
theorem IsA.nil_inv {ds:List D}(h:IsA [] ds):ds=[]:=by cases h;rfl
theorem IsA.cons_inv {t:DTy}{ts:List DTy}{ds:List D}(h:IsA (t::ts) ds):∃d r,ds=d::r∧Is t d∧IsA ts r:=by cases h with|cons t ts d r h hr=>exact⟨d,r,rfl,h,hr⟩
theorem open_list {α:Type}{c:α→List AV}{Q:α→Prop}{t:DTy}{es:List D}(h:IsL t es)(hl:es.length≤maxLen)(hx:∀e,e∈es→Is t e→∃x,c x=e.cells∧Q x):∃xs:List α,xs.map c=es.map D.cells∧okL Q xs:=by
  have:∃xs:List α,xs.map c=es.map D.cells∧xs.length=es.length∧∀x,x∈xs→Q x:=by
    clear hl
    induction es with
    |nil=>exact⟨[],rfl,rfl,fun x hx=>by cases hx⟩
    |cons a r ih=>
      cases h with
      |cons _ _ _ h1 h2=>
        obtain⟨x,c1,q1⟩:=hx a (by simp) h1
        obtain⟨xs,c2,l2,q2⟩:=ih h2 fun e he=>hx e (List.mem_cons_of_mem _ he)
        refine⟨x::xs,by simp[c1,c2],by simp[l2],fun y hy=> ?_⟩
        rcases List.mem_cons.1 hy with rfl|hy
        · exact q1
        · exact q2 y hy
  obtain⟨xs,h1,h2,h3⟩:=this
  exact⟨xs,h1,by omega,h3⟩
theorem open_ints {es:List D}(h:IsL .int es)(hl:es.length≤maxLen):∃xs:List Int,xs.map cI=es.map D.cells∧okL inR xs:=
  open_list h hl fun e _ hi=>by obtain⟨n,rfl,hn⟩:=hi.int_inv;exact⟨n,by simp,hn⟩
theorem szLoop {α : Type} {a : List α} {wt : α → Nat} {f : α → Int → Option Int} {L : Int → Nat → Option (Lo Int Int)}
    (hL:∀l i,L l i=if i<a.length then a[i]? >>=fun x=>f x l>>=fun v=>if v<0 then some (.ret (-1))else L v (i+1)else some (.go l))
    (hf:∀x,x∈a→∀l:Int,0≤l→l≤1048576→f x l=some (rem l (wt x))):∀(m i:Nat) (l:Int),a.length-i=m→0≤l→l≤1048576→
    L l i=some (if rem l ((a.drop i).map wt).sum<0 then .ret (-1)else .go (rem l ((a.drop i).map wt).sum)):=by
  intro m
  induction m with
  |zero=>
    intro i l hm h0 h1
    rw[hL,if_neg (by omega),List.drop_eq_nil_of_le (by omega)]
    have:rem l 0=l:=by rw[rem_pos (by omega)];omega
    simp[this];omega
  |succ m ih=>
    intro i l hm h0 h1
    have hi:i<a.length:=by omega
    rw[hL,if_pos hi,List.getElem?_eq_getElem hi,List.drop_eq_getElem_cons hi]
    simp only[List.map_cons,List.sum_cons,Option.bind_eq_bind,Option.bind_some]
    rw[hf _ (List.getElem_mem hi) l h0 h1]
    simp only[Option.bind_some]
    by_cases h:rem l (wt a[i])<0
    · rw[if_pos h,rem_lt _ _ h];simp
    · rw[if_neg h,ih (i+1) _ (by omega) (by omega) (Int.le_trans (rem_le _ h0) h1),rem_rem _ _ h]
theorem toLoop {α : Type} {a : List α} {f : α → Option α} {L : List α → Nat → Option (List α)}
    (hL:∀out i,L out i=if i<a.length then a[i]? >>=fun x=>f x>>=fun v=>out[i]? >>=fun _=>L (out.set i v) (i+1)else some out)
    (hf:∀x,x∈a→f x=some x):∀(m i:Nat) (out:List α),a.length-i=m→out.length=a.length→out.take i=a.take i→L out i=some a:=by
  intro m
  induction m with
  |zero=>
    intro i out hm hl ht
    rw[hL,if_neg (by omega)]
    rw[List.take_of_length_le (by omega),List.take_of_length_le (by omega)]at ht
    rw[ht]
  |succ m ih=>
    intro i out hm hl ht
    have hi:i<a.length:=by omega
    rw[hL,if_pos hi,List.getElem?_eq_getElem hi,List.getElem?_eq_getElem (by omega)]
    simp only[Option.bind_eq_bind,Option.bind_some]
    rw[hf _ (List.getElem_mem hi)]
    simp only[Option.bind_some]
    refine ih (i+1) _ (by omega) (by simp[hl]) ?_
    refine take_step ?_ (by simp;omega) hi (by simp)
    rw[List.take_set_of_le (by omega),ht]
theorem toLoop0 {α : Type} {a : List α} {L : List α → Nat → Option (List α)}
    (hL:∀out i,L out i=if i<a.length then a[i]? >>=fun x=>out[i]? >>=fun _=>L (out.set i x) (i+1)else some out):∀(m i:Nat) (out:List α),a.length-i=m→out.length=a.length→out.take i=a.take i→L out i=some a:=by
  refine toLoop (f:=some) (fun out i=> ?_) (fun x _=>rfl)
  rw[hL];simp
theorem eqLoop {α : Type} {a b : List α} {f : α → α → Option Bool} {L : Nat → Option (Lo Bool Unit)}
    (hL:∀i,L i=if i<a.length then a[i]? >>=fun x=>b[i]? >>=fun y=>f x y>>=fun v=>if v=true then L (i+1)else some (.ret false)else some (.go ()))
    (hf:∀x,x∈a→∀y,f x y=some (dec (x=y))) (hl:a.length=b.length):∀(m i:Nat),a.length-i=m→L i=some (if dec (a.drop i=b.drop i)=true then .go ()else .ret false):=by
  intro m
  induction m with
  |zero=>
    intro i hm
    rw[hL,if_neg (by omega),List.drop_eq_nil_of_le (by omega),List.drop_eq_nil_of_le (by omega)]
    simp
  |succ m ih=>
    intro i hm
    have hi:i<a.length:=by omega
    have hj:i<b.length:=by omega
    rw[hL,if_pos hi,List.getElem?_eq_getElem hi,List.getElem?_eq_getElem hj,List.drop_eq_getElem_cons hi,List.drop_eq_getElem_cons hj]
    simp only[Option.bind_eq_bind,Option.bind_some,List.cons.injEq]
    rw[hf _ (List.getElem_mem hi)]
    simp only[Option.bind_some]
    by_cases h:a[i]=b[i]
    · rw[if_pos (dec_of h),ih (i+1) (by omega)];simp[h]
    · rw[if_neg (by rw[dec_not h];simp)];simp[h]
theorem eqLoop0 {α : Type} [DecidableEq α] {a b : List α} {L : Nat → Option (Lo Bool Unit)}
    (hL:∀i,L i=if i<a.length then a[i]? >>=fun x=>b[i]? >>=fun y=>if x=y then L (i+1)else some (.ret false)else some (.go ()))
    (hl:a.length=b.length):∀(m i:Nat),a.length-i=m→L i=some (if dec (a.drop i=b.drop i)=true then .go ()else .ret false):=by
  refine eqLoop (f:=fun x y=>some (decide (x=y))) (fun i=> ?_) (fun x _ y=>by by_cases h:x=y<;>simp[h]) hl
  rw[hL];simp
theorem wtL_zero {α:Type}{f:α→Nat}(h:∀x,f x=0)(xs:List α):wtL f xs=xs.length:=by
  induction xs with
  |nil=>rfl
  |cons a r ih=>simp[ih,h];omega
theorem dec_false_iff {p:Prop}:dec p=false↔¬p:=by
  constructor
  · intro h hp;rw[dec_of hp]at h;cases h
  · exact dec_not
def Ty.wt (_:Ty):Nat:=0
structure Ty.Ok (x:Ty):Prop where
  data:inR x.data
  index:inR x.index
def Ctor.wt (x:Ctor):Nat:=x.name.size+wtL Ty.wt x.args
structure Ctor.Ok (x:Ctor):Prop where
  name:x.name.size≤maxLen
  args:okL Ty.Ok x.args
  index:inR x.index
def Data.wt (x:Data):Nat:=x.name.size+wtL Ctor.wt x.ctors
structure Data.Ok (x:Data):Prop where
  name:x.name.size≤maxLen
  ctors:okL Ctor.Ok x.ctors
def Value.wt :Value→Nat
  |⟨_,_,kids⟩=>kids.length+(kids.map fun k=>Value.wt k).sum
theorem Value.wt_eq (x:Value):x.wt=wtL Value.wt x.kids:=by cases x;rw[Value.wt,wtL_eq]
inductive Value.Ok :Value→Prop
  |mk (x:Value) (hctor:inR x.ctor) (hn:inR x.n) (h:x.kids.length≤maxLen) (hk:∀k,k∈x.kids→Value.Ok k):Value.Ok x
theorem Value.Ok.ctor {x:Value}(h:x.Ok):inR x.ctor:=by cases h;assumption
theorem Value.Ok.n {x:Value}(h:x.Ok):inR x.n:=by cases h;assumption
theorem Value.Ok.kids {x:Value}(h:x.Ok):okL Value.Ok x.kids:=by cases h with|mk _ _ _ h hk=>exact⟨h,hk⟩
theorem Value.ind {Q:Value→Prop}(h:∀x,(∀k,k∈x.kids→Q k)→Q x):∀x,Q x:=by
  intro x
  induction hn:SizeOf.sizeOf x using Nat.strongRecOn generalizing x with
  |_ n ih=>
    subst hn
    refine h x fun k hk=>ih _ ?_ k rfl
    have:=List.sizeOf_lt_of_mem hk
    cases x
    simp at this ⊢
    omega
def Pattern.wt :Pattern→Nat
  |⟨_,_,_,_,_,kids⟩=>kids.length+(kids.map fun k=>Pattern.wt k).sum
theorem Pattern.wt_eq (x:Pattern):x.wt=wtL Pattern.wt x.kids:=by cases x;rw[Pattern.wt,wtL_eq]
inductive Pattern.Ok :Pattern→Prop
  |mk (x:Pattern) (hop:inR x.op) (hctor:inR x.ctor) (hn:inR x.n) (hm:inR x.m) (hvar:inR x.var) (h:x.kids.length≤maxLen) (hk:∀k,k∈x.kids→Pattern.Ok k):Pattern.Ok x
theorem Pattern.Ok.op {x:Pattern}(h:x.Ok):inR x.op:=by cases h;assumption
theorem Pattern.Ok.ctor {x:Pattern}(h:x.Ok):inR x.ctor:=by cases h;assumption
theorem Pattern.Ok.n {x:Pattern}(h:x.Ok):inR x.n:=by cases h;assumption
theorem Pattern.Ok.m {x:Pattern}(h:x.Ok):inR x.m:=by cases h;assumption
theorem Pattern.Ok.var {x:Pattern}(h:x.Ok):inR x.var:=by cases h;assumption
theorem Pattern.Ok.kids {x:Pattern}(h:x.Ok):okL Pattern.Ok x.kids:=by cases h with|mk _ _ _ _ _ _ h hk=>exact⟨h,hk⟩
theorem Pattern.ind {Q:Pattern→Prop}(h:∀x,(∀k,k∈x.kids→Q k)→Q x):∀x,Q x:=by
  intro x
  induction hn:SizeOf.sizeOf x using Nat.strongRecOn generalizing x with
  |_ n ih=>
    subst hn
    refine h x fun k hk=>ih _ ?_ k rfl
    have:=List.sizeOf_lt_of_mem hk
    cases x
    simp at this ⊢
    omega
def Guard.wt (_:Guard):Nat:=0
structure Guard.Ok (x:Guard):Prop where
  op:inR x.op
  var:inR x.var
  n:inR x.n
def Clause.wt (x:Clause):Nat:=Pattern.wt x.pat+Guard.wt x.guard
structure Clause.Ok (x:Clause):Prop where
  pat:Pattern.Ok x.pat
  guard:Guard.Ok x.guard
def FunType.wt (x:FunType):Nat:=Ty.wt x.arg+Ty.wt x.res
structure FunType.Ok (x:FunType):Prop where
  arg:Ty.Ok x.arg
  res:Ty.Ok x.res
def VarType.wt (x:VarType):Nat:=Ty.wt x.type
structure VarType.Ok (x:VarType):Prop where
  var:inR x.var
  type:Ty.Ok x.type
def Expr.wt :Expr→Nat
  |⟨_,_,_,kids⟩=>kids.length+(kids.map fun k=>Expr.wt k).sum
theorem Expr.wt_eq (x:Expr):x.wt=wtL Expr.wt x.kids:=by cases x;rw[Expr.wt,wtL_eq]
inductive Expr.Ok :Expr→Prop
  |mk (x:Expr) (hop:inR x.op) (hn:inR x.n) (hctor:inR x.ctor) (h:x.kids.length≤maxLen) (hk:∀k,k∈x.kids→Expr.Ok k):Expr.Ok x
theorem Expr.Ok.op {x:Expr}(h:x.Ok):inR x.op:=by cases h;assumption
theorem Expr.Ok.n {x:Expr}(h:x.Ok):inR x.n:=by cases h;assumption
theorem Expr.Ok.ctor {x:Expr}(h:x.Ok):inR x.ctor:=by cases h;assumption
theorem Expr.Ok.kids {x:Expr}(h:x.Ok):okL Expr.Ok x.kids:=by cases h with|mk _ _ _ _ h hk=>exact⟨h,hk⟩
theorem Expr.ind {Q:Expr→Prop}(h:∀x,(∀k,k∈x.kids→Q k)→Q x):∀x,Q x:=by
  intro x
  induction hn:SizeOf.sizeOf x using Nat.strongRecOn generalizing x with
  |_ n ih=>
    subst hn
    refine h x fun k hk=>ih _ ?_ k rfl
    have:=List.sizeOf_lt_of_mem hk
    cases x
    simp at this ⊢
    omega
def Fun.wt (x:Fun):Nat:=FunType.wt x.type+wtL Clause.wt x.clauses+wtL Expr.wt x.bodies
structure Fun.Ok (x:Fun):Prop where
  type:FunType.Ok x.type
  clauses:okL Clause.Ok x.clauses
  bodies:okL Expr.Ok x.bodies
def Bind.wt (x:Bind):Nat:=Value.wt x.value
structure Bind.Ok (x:Bind):Prop where
  var:inR x.var
  value:Value.Ok x.value
def PathBind.wt (x:PathBind):Nat:=wtL (fun _=>0) x.path
structure PathBind.Ok (x:PathBind):Prop where
  var:inR x.var
  path:okL inR x.path
def Tree.wt :Tree→Nat
  |⟨_,_,binds,path,branches,els⟩=>wtL PathBind.wt binds+path.length+(branches.length+(branches.attach.map fun⟨b,_⟩=>Tree.wt b.tree).sum)+(els.length+(els.attach.map fun⟨k,_⟩=>Tree.wt k).sum)
termination_by t=>SizeOf.sizeOf t
decreasing_by
  · rename_i h
    have:=List.sizeOf_lt_of_mem h
    cases b
    simp at this ⊢
    omega
  · rename_i h
    have:=List.sizeOf_lt_of_mem h
    simp
    omega
def Branch.wt (b:Branch):Nat:=b.tree.wt
theorem Tree.wt_eq (x:Tree):x.wt=wtL PathBind.wt x.binds+wtL (fun _=>0) x.path+wtL Branch.wt x.branches+wtL Tree.wt x.els:=by
  cases x
  rw[Tree.wt,wtL_eq Branch.wt,wtL_eq Tree.wt,wtL_int]
  simp only[List.map_attach_eq_pmap,List.pmap_eq_map]
  rfl
inductive Tree.Ok :Tree→Prop
  |mk (x:Tree) (ho:inR x.op) (hc:inR x.clause) (hb:okL PathBind.Ok x.binds) (hp:okL inR x.path) (h1:x.branches.length≤maxLen) (h2:x.els.length≤maxLen) (hn:∀b,b∈x.branches→inR b.ctor∧inR b.n∧inR b.m) (hk:∀b,b∈x.branches→Tree.Ok b.tree) (he:∀k,k∈x.els→Tree.Ok k):Tree.Ok x
structure Branch.Ok (b:Branch):Prop where
  ctor:inR b.ctor
  n:inR b.n
  m:inR b.m
  tree:b.tree.Ok
theorem Tree.Ok.op {x:Tree}(h:x.Ok):inR x.op:=by cases h;assumption
theorem Tree.Ok.clause {x:Tree}(h:x.Ok):inR x.clause:=by cases h;assumption
theorem Tree.Ok.binds {x:Tree}(h:x.Ok):okL PathBind.Ok x.binds:=by cases h;assumption
theorem Tree.Ok.path {x:Tree}(h:x.Ok):okL inR x.path:=by cases h;assumption
theorem Tree.Ok.branches {x:Tree}(h:x.Ok):okL Branch.Ok x.branches:=by cases h with|mk _ _ _ _ _ h1 _ hn hk _=>exact⟨h1,fun b hb=>⟨(hn b hb).1,(hn b hb).2.1,(hn b hb).2.2,hk b hb⟩⟩
theorem Tree.Ok.els {x:Tree}(h:x.Ok):okL Tree.Ok x.els:=by cases h with|mk _ _ _ _ _ _ h2 _ _ he=>exact⟨h2,he⟩
theorem Tree.ind {Q:Tree→Prop}(h:∀x:Tree,(∀b:Branch,b∈x.branches→Q b.tree)→(∀k:Tree,k∈x.els→Q k)→Q x):∀x,Q x:=by
  intro x
  induction hn:SizeOf.sizeOf x using Nat.strongRecOn generalizing x with
  |_ n ih=>
    subst hn
    refine h x (fun b hb=>ih _ ?_ b.tree rfl) (fun k hk=>ih _ ?_ k rfl)
    · have:=List.sizeOf_lt_of_mem hb
      cases x;cases b
      simp at this ⊢
      omega
    · have:=List.sizeOf_lt_of_mem hk
      cases x
      simp at this ⊢
      omega
def Edge.wt (_:Edge):Nat:=0
structure Edge.Ok (x:Edge):Prop where
  ctor:inR x.ctor
  n:inR x.n
  m:inR x.m
  to:inR x.to
def Node.wt (x:Node):Nat:=wtL PathBind.wt x.binds+wtL (fun _=>0) x.path+wtL Edge.wt x.edges
structure Node.Ok (x:Node):Prop where
  op:inR x.op
  clause:inR x.clause
  binds:okL PathBind.Ok x.binds
  path:okL inR x.path
  edges:okL Edge.Ok x.edges
  els:inR x.els
def Step.wt (x:Step):Nat:=wtL (fun _=>0) x.path+wtL PathBind.wt x.binds
structure Step.Ok (x:Step):Prop where
  op:inR x.op
  path:okL inR x.path
  ctor:inR x.ctor
  n:inR x.n
  m:inR x.m
  clause:inR x.clause
  binds:okL PathBind.Ok x.binds
  to:inR x.to
theorem Ty.open :∀(d:D),Is (.named 0) d→∃x:Ty,Ty.c x=d.cells∧Ty.Ok x:=by
  intro d
  intro h
  obtain⟨ds,rfl,ha⟩:=h.named_inv
  simp only[tyDef]at ha
  obtain⟨d0,ds0,e0,h0,ha⟩:=ha.cons_inv
  obtain⟨d1,ds1,e1,h1,ha⟩:=ha.cons_inv
  have e:=ha.nil_inv
  subst e;subst e1;subst e0
  obtain⟨v0,rfl,o0⟩:=h0.int_inv
  obtain⟨v1,rfl,o1⟩:=h1.int_inv
  exact⟨⟨v0,v1⟩,by simp[],⟨o0,o1⟩⟩
theorem Ctor.open :∀(d:D),Is (.named 1) d→∃x:Ctor,Ctor.c x=d.cells∧Ctor.Ok x:=by
  intro d
  intro h
  obtain⟨ds,rfl,ha⟩:=h.named_inv
  simp only[tyDef]at ha
  obtain⟨d0,ds0,e0,h0,ha⟩:=ha.cons_inv
  obtain⟨d1,ds1,e1,h1,ha⟩:=ha.cons_inv
  obtain⟨d2,ds2,e2,h2,ha⟩:=ha.cons_inv
  have e:=ha.nil_inv
  subst e;subst e2;subst e1;subst e0
  obtain⟨v0,rfl,o0⟩:=h0.str_inv
  obtain⟨es1,rfl,l1,h1⟩:=h1.list_inv
  obtain⟨v1,c1,o1⟩:=open_list (c:=Ty.c) (Q:=Ty.Ok) h1 l1 (fun k _ hi=>Ty.open k hi)
  obtain⟨v2,rfl,o2⟩:=h2.int_inv
  exact⟨⟨v0,v1,v2⟩,by simp[←c1],⟨o0,o1,o2⟩⟩
theorem Data.open :∀(d:D),Is (.named 2) d→∃x:Data,Data.c x=d.cells∧Data.Ok x:=by
  intro d
  intro h
  obtain⟨ds,rfl,ha⟩:=h.named_inv
  simp only[tyDef]at ha
  obtain⟨d0,ds0,e0,h0,ha⟩:=ha.cons_inv
  obtain⟨d1,ds1,e1,h1,ha⟩:=ha.cons_inv
  have e:=ha.nil_inv
  subst e;subst e1;subst e0
  obtain⟨v0,rfl,o0⟩:=h0.str_inv
  obtain⟨es1,rfl,l1,h1⟩:=h1.list_inv
  obtain⟨v1,c1,o1⟩:=open_list (c:=Ctor.c) (Q:=Ctor.Ok) h1 l1 (fun k _ hi=>Ctor.open k hi)
  exact⟨⟨v0,v1⟩,by simp[←c1],⟨o0,o1⟩⟩
theorem Value.open :∀(d:D),Is (.named 3) d→∃x:Value,Value.c x=d.cells∧Value.Ok x:=by
  intro d
  induction hn:SizeOf.sizeOf d using Nat.strongRecOn generalizing d with
  |_ n ih=>
  subst hn
  intro h
  obtain⟨ds,rfl,ha⟩:=h.named_inv
  simp only[tyDef]at ha
  obtain⟨d0,ds0,e0,h0,ha⟩:=ha.cons_inv
  obtain⟨d1,ds1,e1,h1,ha⟩:=ha.cons_inv
  obtain⟨d2,ds2,e2,h2,ha⟩:=ha.cons_inv
  have e:=ha.nil_inv
  subst e;subst e2;subst e1;subst e0
  obtain⟨v0,rfl,o0⟩:=h0.int_inv
  obtain⟨v1,rfl,o1⟩:=h1.int_inv
  obtain⟨es2,rfl,l2,h2⟩:=h2.list_inv
  obtain⟨v2,c2,o2⟩:=open_list (c:=Value.c) (Q:=Value.Ok) h2 l2 (fun k hk hi=>ih _ (by have:=List.sizeOf_lt_of_mem hk;simp at this ⊢;omega) k rfl hi)
  exact⟨⟨v0,v1,v2⟩,by simp[←c2],.mk _ o0 o1 o2.1 o2.2⟩
theorem Pattern.open :∀(d:D),Is (.named 4) d→∃x:Pattern,Pattern.c x=d.cells∧Pattern.Ok x:=by
  intro d
  induction hn:SizeOf.sizeOf d using Nat.strongRecOn generalizing d with
  |_ n ih=>
  subst hn
  intro h
  obtain⟨ds,rfl,ha⟩:=h.named_inv
  simp only[tyDef]at ha
  obtain⟨d0,ds0,e0,h0,ha⟩:=ha.cons_inv
  obtain⟨d1,ds1,e1,h1,ha⟩:=ha.cons_inv
  obtain⟨d2,ds2,e2,h2,ha⟩:=ha.cons_inv
  obtain⟨d3,ds3,e3,h3,ha⟩:=ha.cons_inv
  obtain⟨d4,ds4,e4,h4,ha⟩:=ha.cons_inv
  obtain⟨d5,ds5,e5,h5,ha⟩:=ha.cons_inv
  have e:=ha.nil_inv
  subst e;subst e5;subst e4;subst e3;subst e2;subst e1;subst e0
  obtain⟨v0,rfl,o0⟩:=h0.int_inv
  obtain⟨v1,rfl,o1⟩:=h1.int_inv
  obtain⟨v2,rfl,o2⟩:=h2.int_inv
  obtain⟨v3,rfl,o3⟩:=h3.int_inv
  obtain⟨v4,rfl,o4⟩:=h4.int_inv
  obtain⟨es5,rfl,l5,h5⟩:=h5.list_inv
  obtain⟨v5,c5,o5⟩:=open_list (c:=Pattern.c) (Q:=Pattern.Ok) h5 l5 (fun k hk hi=>ih _ (by have:=List.sizeOf_lt_of_mem hk;simp at this ⊢;omega) k rfl hi)
  exact⟨⟨v0,v1,v2,v3,v4,v5⟩,by simp[←c5],.mk _ o0 o1 o2 o3 o4 o5.1 o5.2⟩
theorem Guard.open :∀(d:D),Is (.named 5) d→∃x:Guard,Guard.c x=d.cells∧Guard.Ok x:=by
  intro d
  intro h
  obtain⟨ds,rfl,ha⟩:=h.named_inv
  simp only[tyDef]at ha
  obtain⟨d0,ds0,e0,h0,ha⟩:=ha.cons_inv
  obtain⟨d1,ds1,e1,h1,ha⟩:=ha.cons_inv
  obtain⟨d2,ds2,e2,h2,ha⟩:=ha.cons_inv
  have e:=ha.nil_inv
  subst e;subst e2;subst e1;subst e0
  obtain⟨v0,rfl,o0⟩:=h0.int_inv
  obtain⟨v1,rfl,o1⟩:=h1.int_inv
  obtain⟨v2,rfl,o2⟩:=h2.int_inv
  exact⟨⟨v0,v1,v2⟩,by simp[],⟨o0,o1,o2⟩⟩
theorem Clause.open :∀(d:D),Is (.named 6) d→∃x:Clause,Clause.c x=d.cells∧Clause.Ok x:=by
  intro d
  intro h
  obtain⟨ds,rfl,ha⟩:=h.named_inv
  simp only[tyDef]at ha
  obtain⟨d0,ds0,e0,h0,ha⟩:=ha.cons_inv
  obtain⟨d1,ds1,e1,h1,ha⟩:=ha.cons_inv
  have e:=ha.nil_inv
  subst e;subst e1;subst e0
  obtain⟨v0,c0,o0⟩:=Pattern.open d0 h0
  obtain⟨v1,c1,o1⟩:=Guard.open d1 h1
  exact⟨⟨v0,v1⟩,by simp[←c0,←c1],⟨o0,o1⟩⟩
theorem FunType.open :∀(d:D),Is (.named 7) d→∃x:FunType,FunType.c x=d.cells∧FunType.Ok x:=by
  intro d
  intro h
  obtain⟨ds,rfl,ha⟩:=h.named_inv
  simp only[tyDef]at ha
  obtain⟨d0,ds0,e0,h0,ha⟩:=ha.cons_inv
  obtain⟨d1,ds1,e1,h1,ha⟩:=ha.cons_inv
  have e:=ha.nil_inv
  subst e;subst e1;subst e0
  obtain⟨v0,c0,o0⟩:=Ty.open d0 h0
  obtain⟨v1,c1,o1⟩:=Ty.open d1 h1
  exact⟨⟨v0,v1⟩,by simp[←c0,←c1],⟨o0,o1⟩⟩
theorem VarType.open :∀(d:D),Is (.named 8) d→∃x:VarType,VarType.c x=d.cells∧VarType.Ok x:=by
  intro d
  intro h
  obtain⟨ds,rfl,ha⟩:=h.named_inv
  simp only[tyDef]at ha
  obtain⟨d0,ds0,e0,h0,ha⟩:=ha.cons_inv
  obtain⟨d1,ds1,e1,h1,ha⟩:=ha.cons_inv
  have e:=ha.nil_inv
  subst e;subst e1;subst e0
  obtain⟨v0,rfl,o0⟩:=h0.int_inv
  obtain⟨v1,c1,o1⟩:=Ty.open d1 h1
  exact⟨⟨v0,v1⟩,by simp[←c1],⟨o0,o1⟩⟩
theorem Expr.open :∀(d:D),Is (.named 9) d→∃x:Expr,Expr.c x=d.cells∧Expr.Ok x:=by
  intro d
  induction hn:SizeOf.sizeOf d using Nat.strongRecOn generalizing d with
  |_ n ih=>
  subst hn
  intro h
  obtain⟨ds,rfl,ha⟩:=h.named_inv
  simp only[tyDef]at ha
  obtain⟨d0,ds0,e0,h0,ha⟩:=ha.cons_inv
  obtain⟨d1,ds1,e1,h1,ha⟩:=ha.cons_inv
  obtain⟨d2,ds2,e2,h2,ha⟩:=ha.cons_inv
  obtain⟨d3,ds3,e3,h3,ha⟩:=ha.cons_inv
  have e:=ha.nil_inv
  subst e;subst e3;subst e2;subst e1;subst e0
  obtain⟨v0,rfl,o0⟩:=h0.int_inv
  obtain⟨v1,rfl,o1⟩:=h1.int_inv
  obtain⟨v2,rfl,o2⟩:=h2.int_inv
  obtain⟨es3,rfl,l3,h3⟩:=h3.list_inv
  obtain⟨v3,c3,o3⟩:=open_list (c:=Expr.c) (Q:=Expr.Ok) h3 l3 (fun k hk hi=>ih _ (by have:=List.sizeOf_lt_of_mem hk;simp at this ⊢;omega) k rfl hi)
  exact⟨⟨v0,v1,v2,v3⟩,by simp[←c3],.mk _ o0 o1 o2 o3.1 o3.2⟩
theorem Fun.open :∀(d:D),Is (.named 10) d→∃x:Fun,Fun.c x=d.cells∧Fun.Ok x:=by
  intro d
  intro h
  obtain⟨ds,rfl,ha⟩:=h.named_inv
  simp only[tyDef]at ha
  obtain⟨d0,ds0,e0,h0,ha⟩:=ha.cons_inv
  obtain⟨d1,ds1,e1,h1,ha⟩:=ha.cons_inv
  obtain⟨d2,ds2,e2,h2,ha⟩:=ha.cons_inv
  have e:=ha.nil_inv
  subst e;subst e2;subst e1;subst e0
  obtain⟨v0,c0,o0⟩:=FunType.open d0 h0
  obtain⟨es1,rfl,l1,h1⟩:=h1.list_inv
  obtain⟨v1,c1,o1⟩:=open_list (c:=Clause.c) (Q:=Clause.Ok) h1 l1 (fun k _ hi=>Clause.open k hi)
  obtain⟨es2,rfl,l2,h2⟩:=h2.list_inv
  obtain⟨v2,c2,o2⟩:=open_list (c:=Expr.c) (Q:=Expr.Ok) h2 l2 (fun k _ hi=>Expr.open k hi)
  exact⟨⟨v0,v1,v2⟩,by simp[←c0,←c1,←c2],⟨o0,o1,o2⟩⟩
theorem Bind.open :∀(d:D),Is (.named 11) d→∃x:Bind,Bind.c x=d.cells∧Bind.Ok x:=by
  intro d
  intro h
  obtain⟨ds,rfl,ha⟩:=h.named_inv
  simp only[tyDef]at ha
  obtain⟨d0,ds0,e0,h0,ha⟩:=ha.cons_inv
  obtain⟨d1,ds1,e1,h1,ha⟩:=ha.cons_inv
  have e:=ha.nil_inv
  subst e;subst e1;subst e0
  obtain⟨v0,rfl,o0⟩:=h0.int_inv
  obtain⟨v1,c1,o1⟩:=Value.open d1 h1
  exact⟨⟨v0,v1⟩,by simp[←c1],⟨o0,o1⟩⟩
theorem PathBind.open :∀(d:D),Is (.named 12) d→∃x:PathBind,PathBind.c x=d.cells∧PathBind.Ok x:=by
  intro d
  intro h
  obtain⟨ds,rfl,ha⟩:=h.named_inv
  simp only[tyDef]at ha
  obtain⟨d0,ds0,e0,h0,ha⟩:=ha.cons_inv
  obtain⟨d1,ds1,e1,h1,ha⟩:=ha.cons_inv
  have e:=ha.nil_inv
  subst e;subst e1;subst e0
  obtain⟨v0,rfl,o0⟩:=h0.int_inv
  obtain⟨es1,rfl,l1,h1⟩:=h1.list_inv
  obtain⟨v1,c1,o1⟩:=open_ints h1 l1
  exact⟨⟨v0,v1⟩,by simp[←c1],⟨o0,o1⟩⟩
theorem Tree.open :∀(d:D),Is (.named 14) d→∃x:Tree,Tree.c x=d.cells∧Tree.Ok x:=by
  intro d
  induction hn:SizeOf.sizeOf d using Nat.strongRecOn generalizing d with
  |_ n ih=>
  subst hn
  intro h
  obtain⟨ds,rfl,ha⟩:=h.named_inv
  simp only[tyDef]at ha
  obtain⟨d0,ds0,e0,h0,ha⟩:=ha.cons_inv
  obtain⟨d1,ds1,e1,h1,ha⟩:=ha.cons_inv
  obtain⟨d2,ds2,e2,h2,ha⟩:=ha.cons_inv
  obtain⟨d3,ds3,e3,h3,ha⟩:=ha.cons_inv
  obtain⟨d4,ds4,e4,h4,ha⟩:=ha.cons_inv
  obtain⟨d5,ds5,e5,h5,ha⟩:=ha.cons_inv
  have e:=ha.nil_inv
  subst e;subst e5;subst e4;subst e3;subst e2;subst e1;subst e0
  obtain⟨v0,rfl,o0⟩:=h0.int_inv
  obtain⟨v1,rfl,o1⟩:=h1.int_inv
  obtain⟨es2,rfl,l2,h2⟩:=h2.list_inv
  obtain⟨v2,c2,o2⟩:=open_list (c:=PathBind.c) (Q:=PathBind.Ok) h2 l2 (fun k _ hi=>PathBind.open k hi)
  obtain⟨es3,rfl,l3,h3⟩:=h3.list_inv
  obtain⟨v3,c3,o3⟩:=open_ints h3 l3
  obtain⟨es4,rfl,l4,h4⟩:=h4.list_inv
  obtain⟨v4,c4,o4⟩:=open_list (c:=Branch.c) (Q:=Branch.Ok) h4 l4 (fun b hb hi=>by
    obtain⟨bs,rfl,hb'⟩:=hi.named_inv
    simp only[tyDef]at hb'
    obtain⟨q0,r0,e0,i0,hb'⟩:=hb'.cons_inv
    obtain⟨q1,r1,e1,i1,hb'⟩:=hb'.cons_inv
    obtain⟨q2,r2,e2,i2,hb'⟩:=hb'.cons_inv
    obtain⟨q3,r3,e3,i3,hb'⟩:=hb'.cons_inv
    have e:=hb'.nil_inv
    subst e;subst e3;subst e2;subst e1;subst e0
    obtain⟨w0,rfl,p0⟩:=i0.int_inv
    obtain⟨w1,rfl,p1⟩:=i1.int_inv
    obtain⟨w2,rfl,p2⟩:=i2.int_inv
    obtain⟨t,ct,ot⟩:=ih _ (by have:=List.sizeOf_lt_of_mem hb;simp at this ⊢;omega) q3 rfl i3
    exact⟨⟨w0,w1,w2,t⟩,by rw[Branch.c,ct];simp,⟨p0,p1,p2,ot⟩⟩)
  obtain⟨es5,rfl,l5,h5⟩:=h5.list_inv
  obtain⟨v5,c5,o5⟩:=open_list (c:=Tree.c) (Q:=Tree.Ok) h5 l5 (fun k hk hi=>ih _ (by have:=List.sizeOf_lt_of_mem hk;simp at this ⊢;omega) k rfl hi)
  exact⟨⟨v0,v1,v2,v3,v4,v5⟩,by simp[←c2,←c3,←c4,←c5],.mk _ o0 o1 o2 o3 o4.1 o5.1 (fun b hb=>⟨(o4.2 b hb).ctor,(o4.2 b hb).n,(o4.2 b hb).m⟩) (fun b hb=>(o4.2 b hb).tree) o5.2⟩
theorem Edge.open :∀(d:D),Is (.named 15) d→∃x:Edge,Edge.c x=d.cells∧Edge.Ok x:=by
  intro d
  intro h
  obtain⟨ds,rfl,ha⟩:=h.named_inv
  simp only[tyDef]at ha
  obtain⟨d0,ds0,e0,h0,ha⟩:=ha.cons_inv
  obtain⟨d1,ds1,e1,h1,ha⟩:=ha.cons_inv
  obtain⟨d2,ds2,e2,h2,ha⟩:=ha.cons_inv
  obtain⟨d3,ds3,e3,h3,ha⟩:=ha.cons_inv
  have e:=ha.nil_inv
  subst e;subst e3;subst e2;subst e1;subst e0
  obtain⟨v0,rfl,o0⟩:=h0.int_inv
  obtain⟨v1,rfl,o1⟩:=h1.int_inv
  obtain⟨v2,rfl,o2⟩:=h2.int_inv
  obtain⟨v3,rfl,o3⟩:=h3.int_inv
  exact⟨⟨v0,v1,v2,v3⟩,by simp[],⟨o0,o1,o2,o3⟩⟩
theorem Node.open :∀(d:D),Is (.named 16) d→∃x:Node,Node.c x=d.cells∧Node.Ok x:=by
  intro d
  intro h
  obtain⟨ds,rfl,ha⟩:=h.named_inv
  simp only[tyDef]at ha
  obtain⟨d0,ds0,e0,h0,ha⟩:=ha.cons_inv
  obtain⟨d1,ds1,e1,h1,ha⟩:=ha.cons_inv
  obtain⟨d2,ds2,e2,h2,ha⟩:=ha.cons_inv
  obtain⟨d3,ds3,e3,h3,ha⟩:=ha.cons_inv
  obtain⟨d4,ds4,e4,h4,ha⟩:=ha.cons_inv
  obtain⟨d5,ds5,e5,h5,ha⟩:=ha.cons_inv
  have e:=ha.nil_inv
  subst e;subst e5;subst e4;subst e3;subst e2;subst e1;subst e0
  obtain⟨v0,rfl,o0⟩:=h0.int_inv
  obtain⟨v1,rfl,o1⟩:=h1.int_inv
  obtain⟨es2,rfl,l2,h2⟩:=h2.list_inv
  obtain⟨v2,c2,o2⟩:=open_list (c:=PathBind.c) (Q:=PathBind.Ok) h2 l2 (fun k _ hi=>PathBind.open k hi)
  obtain⟨es3,rfl,l3,h3⟩:=h3.list_inv
  obtain⟨v3,c3,o3⟩:=open_ints h3 l3
  obtain⟨es4,rfl,l4,h4⟩:=h4.list_inv
  obtain⟨v4,c4,o4⟩:=open_list (c:=Edge.c) (Q:=Edge.Ok) h4 l4 (fun k _ hi=>Edge.open k hi)
  obtain⟨v5,rfl,o5⟩:=h5.int_inv
  exact⟨⟨v0,v1,v2,v3,v4,v5⟩,by simp[←c2,←c3,←c4],⟨o0,o1,o2,o3,o4,o5⟩⟩
theorem Step.open :∀(d:D),Is (.named 17) d→∃x:Step,Step.c x=d.cells∧Step.Ok x:=by
  intro d
  intro h
  obtain⟨ds,rfl,ha⟩:=h.named_inv
  simp only[tyDef]at ha
  obtain⟨d0,ds0,e0,h0,ha⟩:=ha.cons_inv
  obtain⟨d1,ds1,e1,h1,ha⟩:=ha.cons_inv
  obtain⟨d2,ds2,e2,h2,ha⟩:=ha.cons_inv
  obtain⟨d3,ds3,e3,h3,ha⟩:=ha.cons_inv
  obtain⟨d4,ds4,e4,h4,ha⟩:=ha.cons_inv
  obtain⟨d5,ds5,e5,h5,ha⟩:=ha.cons_inv
  obtain⟨d6,ds6,e6,h6,ha⟩:=ha.cons_inv
  obtain⟨d7,ds7,e7,h7,ha⟩:=ha.cons_inv
  have e:=ha.nil_inv
  subst e;subst e7;subst e6;subst e5;subst e4;subst e3;subst e2;subst e1;subst e0
  obtain⟨v0,rfl,o0⟩:=h0.int_inv
  obtain⟨es1,rfl,l1,h1⟩:=h1.list_inv
  obtain⟨v1,c1,o1⟩:=open_ints h1 l1
  obtain⟨v2,rfl,o2⟩:=h2.int_inv
  obtain⟨v3,rfl,o3⟩:=h3.int_inv
  obtain⟨v4,rfl,o4⟩:=h4.int_inv
  obtain⟨v5,rfl,o5⟩:=h5.int_inv
  obtain⟨es6,rfl,l6,h6⟩:=h6.list_inv
  obtain⟨v6,c6,o6⟩:=open_list (c:=PathBind.c) (Q:=PathBind.Ok) h6 l6 (fun k _ hi=>PathBind.open k hi)
  obtain⟨v7,rfl,o7⟩:=h7.int_inv
  exact⟨⟨v0,v1,v2,v3,v4,v5,v6,v7⟩,by simp[←c1,←c6],⟨o0,o1,o2,o3,o4,o5,o6,o7⟩⟩
end Go.Vl
