/- A part of the proof. -/
import Derived.Test.YtanfmnlkemmkpaaGreatVlG
import Derived.Test.YtanfmnlkemmkpaaGreatVlD
set_option linter.all false
namespace Go.Vl
open Go Go.RowKit
def wtL {α:Type}(f:α->Nat)(xs:List α):Nat:=xs.length+(xs.map f).sum
theorem ZL2 {α:Type}(f:α->Nat)(xs:List α):wtL f xs=xs.length+(xs.map f).sum:=rfl
def okL {α:Type}(Q:α->Prop)(xs:List α):Prop:=xs.length<=maxLen/\∀x,x∈xs->Q x
@[simp] theorem ZPO {α:Type}(f:α->Nat):wtL f []=0:=rfl
@[simp] theorem ZC4 {α:Type}(f:α->Nat)(x:α)(r:List α):wtL f (x::r)=1+f x+wtL f r:=by simp[wtL];omega
theorem ZAM {α:Type}(f:α->Nat){x:α}{xs:List α}(h:x∈xs):1+f x<=wtL f xs:=by
  induction xs with
  |nil=>cases h
  | cons a r ih => rcases List.mem_cons.1 h with rfl | h
                   · simp
                   · have:=ih h;simp;omega
theorem ZDB {α:Type}(f:α->Nat)(xs:List α):xs.length<=wtL f xs:=by simp[wtL]
def inR (n:Int):Prop:= -9223372036854775808<=n/\n<=9223372036854775807
def Ty.wt (_:Ty):Nat:=0
structure Ty.Ok (x:Ty):Prop where
  data:inR x.data
  index:inR x.index
def Ctor.wt (x:Ctor):Nat:=x.name.size+wtL Ty.wt x.args
structure Ctor.Ok (x:Ctor):Prop where
  name:x.name.size<=maxLen
  args:okL Ty.Ok x.args
  index:inR x.index
def Data.wt (x:Data):Nat:=x.name.size+wtL Ctor.wt x.ctors
structure Data.Ok (x:Data):Prop where
  name:x.name.size<=maxLen
  ctors:okL Ctor.Ok x.ctors
def Value.wt :Value->Nat
  |⟨_,_,kids⟩=>kids.length+(kids.map fun k=>Value.wt k).sum
theorem Value.wt_eq (x:Value):x.wt=wtL Value.wt x.kids:=by cases x;rw[Value.wt,ZL2]
inductive Value.Ok :Value->Prop
  |mk (x:Value) (hctor:inR x.ctor) (hn:inR x.n) (h:x.kids.length<=maxLen) (hk:∀k,k∈x.kids->Value.Ok k):Value.Ok x
theorem Value.ind {Q:Value->Prop}(h:∀x,(∀k,k∈x.kids->Q k)->Q x):∀x,Q x:=by
  intro x
  induction hn:SizeOf.sizeOf x using Nat.strongRecOn generalizing x with
  |_ n ih=>
    subst hn
    refine h x fun k hk=>ih _ ?_ k rfl
    have:=List.sizeOf_lt_of_mem hk
    cases x
    simp at this ⊢
    omega
def Pattern.wt :Pattern->Nat
  |⟨_,_,_,_,_,kids⟩=>kids.length+(kids.map fun k=>Pattern.wt k).sum
theorem Pattern.wt_eq (x:Pattern):x.wt=wtL Pattern.wt x.kids:=by cases x;rw[Pattern.wt,ZL2]
inductive Pattern.Ok :Pattern->Prop
  |mk (x:Pattern) (hop:inR x.op) (hctor:inR x.ctor) (hn:inR x.n) (hm:inR x.m) (hvar:inR x.var) (h:x.kids.length<=maxLen) (hk:∀k,k∈x.kids->Pattern.Ok k):Pattern.Ok x
theorem Pattern.ind {Q:Pattern->Prop}(h:∀x,(∀k,k∈x.kids->Q k)->Q x):∀x,Q x:=by
  intro x
  induction hn:SizeOf.sizeOf x using Nat.strongRecOn generalizing x with
  |_ n ih=>
    subst hn
    refine h x fun k hk=>ih _ ?_ k rfl
    have:=List.sizeOf_lt_of_mem hk
    cases x
    simp at this ⊢
    omega
def Guard.wt (_:Guard):Nat:=0
structure Guard.Ok (x:Guard):Prop where
  op:inR x.op
  var:inR x.var
  n:inR x.n
def Clause.wt (x:Clause):Nat:=Pattern.wt x.pat+Guard.wt x.guard
structure Clause.Ok (x:Clause):Prop where
  pat:Pattern.Ok x.pat
  guard:Guard.Ok x.guard
def FunType.wt (x:FunType):Nat:=Ty.wt x.arg+Ty.wt x.res
structure FunType.Ok (x:FunType):Prop where
  arg:Ty.Ok x.arg
  res:Ty.Ok x.res
def VarType.wt (x:VarType):Nat:=Ty.wt x.type
structure VarType.Ok (x:VarType):Prop where
  var:inR x.var
  type:Ty.Ok x.type
def Expr.wt :Expr->Nat
  |⟨_,_,_,kids⟩=>kids.length+(kids.map fun k=>Expr.wt k).sum
inductive Expr.Ok :Expr->Prop
  |mk (x:Expr) (hop:inR x.op) (hn:inR x.n) (hctor:inR x.ctor) (h:x.kids.length<=maxLen) (hk:∀k,k∈x.kids->Expr.Ok k):Expr.Ok x
def Fun.wt (x:Fun):Nat:=FunType.wt x.type+wtL Clause.wt x.clauses+wtL Expr.wt x.bodies
structure Fun.Ok (x:Fun):Prop where
  type:FunType.Ok x.type
  clauses:okL Clause.Ok x.clauses
  bodies:okL Expr.Ok x.bodies
def Bind.wt (x:Bind):Nat:=Value.wt x.value
structure Bind.Ok (x:Bind):Prop where
  var:inR x.var
  value:Value.Ok x.value
def PathBind.wt (x:PathBind):Nat:=wtL (fun _=>0) x.path
structure PathBind.Ok (x:PathBind):Prop where
  var:inR x.var
  path:okL inR x.path
def Tree.wt :Tree->Nat
  |⟨_,_,binds,path,branches,els⟩=>wtL PathBind.wt binds+path.length+(branches.length+(branches.attach.map fun⟨b,_⟩=>Tree.wt b.tree).sum)+(els.length+(els.attach.map fun⟨k,_⟩=>Tree.wt k).sum)
termination_by t=>SizeOf.sizeOf t
decreasing_by
  · rename_i h
    have:=List.sizeOf_lt_of_mem h
    cases b
    simp at this ⊢
    omega
  · rename_i h
    have:=List.sizeOf_lt_of_mem h
    simp
    omega
def Branch.wt (b:Branch):Nat:=b.tree.wt
inductive Tree.Ok :Tree->Prop
  |mk (x:Tree) (ho:inR x.op) (hc:inR x.clause) (hb:okL PathBind.Ok x.binds) (hp:okL inR x.path) (h1:x.branches.length<=maxLen) (h2:x.els.length<=maxLen) (hn:∀b,b∈x.branches->inR b.ctor/\inR b.n/\inR b.m) (hk:∀b,b∈x.branches->Tree.Ok b.tree) (he:∀k,k∈x.els->Tree.Ok k):Tree.Ok x
structure Branch.Ok (b:Branch):Prop where
  ctor:inR b.ctor
  n:inR b.n
  m:inR b.m
  tree:b.tree.Ok
def Edge.wt (_:Edge):Nat:=0
structure Edge.Ok (x:Edge):Prop where
  ctor:inR x.ctor
  n:inR x.n
  m:inR x.m
  to:inR x.to
def Node.wt (x:Node):Nat:=wtL PathBind.wt x.binds+wtL (fun _=>0) x.path+wtL Edge.wt x.edges
structure Node.Ok (x:Node):Prop where
  op:inR x.op
  clause:inR x.clause
  binds:okL PathBind.Ok x.binds
  path:okL inR x.path
  edges:okL Edge.Ok x.edges
  els:inR x.els
def Step.wt (x:Step):Nat:=wtL (fun _=>0) x.path+wtL PathBind.wt x.binds
structure Step.Ok (x:Step):Prop where
  op:inR x.op
  path:okL inR x.path
  ctor:inR x.ctor
  n:inR x.n
  m:inR x.m
  clause:inR x.clause
  binds:okL PathBind.Ok x.binds
  to:inR x.to
end Go.Vl
