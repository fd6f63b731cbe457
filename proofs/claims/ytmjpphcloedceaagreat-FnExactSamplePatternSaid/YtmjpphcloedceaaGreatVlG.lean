/- Part. -/
import Derived.Test.YtmjpphcloedceaaGreatVlF
set_option linter.all false
namespace Go.Vl
open Go
structure Ty where
 data:Int
 index:Int
structure Ctor where
 name:ByteArray
 args:List Ty
 index:Int
structure Data where
 name:ByteArray
 ctors:List Ctor
structure Value where
 ctor:Int
 n:Int
 kids:List Value
structure Pattern where
 op:Int
 ctor:Int
 n:Int
 m:Int
 var:Int
 kids:List Pattern
structure Guard where
 op:Int
 var:Int
 n:Int
structure Clause where
 pat:Pattern
 guard:Guard
structure FunType where
 arg:Ty
 res:Ty
structure VarType where
 var:Int
 type:Ty
structure Expr where
 op:Int
 n:Int
 ctor:Int
 kids:List Expr
structure Fun where
 type:FunType
 clauses:List Clause
 bodies:List Expr
structure Bind where
 var:Int
 value:Value
structure PathBind where
 var:Int
 path:List Int
structure BranchOf (α:Type)where
 ctor:Int
 n:Int
 m:Int
 tree:α
structure Tree where
 op:Int
 clause:Int
 binds:List PathBind
 path:List Int
 branches:List (BranchOf Tree)
 els:List Tree
abbrev Branch :=BranchOf Tree
structure Edge where
 ctor:Int
 n:Int
 m:Int
 to:Int
structure Node where
 op:Int
 clause:Int
 binds:List PathBind
 path:List Int
 edges:List Edge
 els:Int
structure Step where
 op:Int
 path:List Int
 ctor:Int
 n:Int
 m:Int
 clause:Int
 binds:List PathBind
 to:Int
def Ty.c (x:Ty):List AV:=[.lit (.int .i64 x.data),.lit (.int .i64 x.index)]
@[simp] theorem Ty.c_eq (x:Ty):x.c=[.lit (.int .i64 x.data),.lit (.int .i64 x.index)]:=rfl
def Ctor.c (x:Ctor):List AV:=[.lit (.string x.name),.arr (x.args.map Ty.c),.lit (.int .i64 x.index)]
@[simp] theorem Ctor.c_eq (x:Ctor):x.c=[.lit (.string x.name),.arr (x.args.map Ty.c),.lit (.int .i64 x.index)]:=rfl
def Data.c (x:Data):List AV:=[.lit (.string x.name),.arr (x.ctors.map Ctor.c)]
@[simp] theorem Data.c_eq (x:Data):x.c=[.lit (.string x.name),.arr (x.ctors.map Ctor.c)]:=rfl
def Value.c :Value->List AV
 |⟨ctor,n,kids⟩=>[.lit (.int .i64 ctor),.lit (.int .i64 n),.arr (kids.map fun k=>Value.c k)]
@[simp] theorem Value.c_eq (x:Value):x.c=[.lit (.int .i64 x.ctor),.lit (.int .i64 x.n),.arr (x.kids.map Value.c)]:=by cases x;rw[Value.c]
def Pattern.c :Pattern->List AV
 |⟨op,ctor,n,m,var,kids⟩=>[.lit (.int .i64 op),.lit (.int .i64 ctor),.lit (.int .i64 n),.lit (.int .i64 m),.lit (.int .i64 var),.arr (kids.map fun k=>Pattern.c k)]
@[simp] theorem Pattern.c_eq (x:Pattern):x.c=[.lit (.int .i64 x.op),.lit (.int .i64 x.ctor),.lit (.int .i64 x.n),.lit (.int .i64 x.m),.lit (.int .i64 x.var),.arr (x.kids.map Pattern.c)]:=by cases x;rw[Pattern.c]
def Guard.c (x:Guard):List AV:=[.lit (.int .i64 x.op),.lit (.int .i64 x.var),.lit (.int .i64 x.n)]
@[simp] theorem Guard.c_eq (x:Guard):x.c=[.lit (.int .i64 x.op),.lit (.int .i64 x.var),.lit (.int .i64 x.n)]:=rfl
def Clause.c (x:Clause):List AV:=[.lit (.int .i64 x.pat.op),.lit (.int .i64 x.pat.ctor),.lit (.int .i64 x.pat.n),.lit (.int .i64 x.pat.m),.lit (.int .i64 x.pat.var),.arr (x.pat.kids.map Pattern.c),.lit (.int .i64 x.guard.op),.lit (.int .i64 x.guard.var),.lit (.int .i64 x.guard.n)]
@[simp] theorem Clause.c_eq (x:Clause):x.c=[.lit (.int .i64 x.pat.op),.lit (.int .i64 x.pat.ctor),.lit (.int .i64 x.pat.n),.lit (.int .i64 x.pat.m),.lit (.int .i64 x.pat.var),.arr (x.pat.kids.map Pattern.c),.lit (.int .i64 x.guard.op),.lit (.int .i64 x.guard.var),.lit (.int .i64 x.guard.n)]:=rfl
def FunType.c (x:FunType):List AV:=[.lit (.int .i64 x.arg.data),.lit (.int .i64 x.arg.index),.lit (.int .i64 x.res.data),.lit (.int .i64 x.res.index)]
@[simp] theorem FunType.c_eq (x:FunType):x.c=[.lit (.int .i64 x.arg.data),.lit (.int .i64 x.arg.index),.lit (.int .i64 x.res.data),.lit (.int .i64 x.res.index)]:=rfl
def VarType.c (x:VarType):List AV:=[.lit (.int .i64 x.var),.lit (.int .i64 x.type.data),.lit (.int .i64 x.type.index)]
@[simp] theorem VarType.c_eq (x:VarType):x.c=[.lit (.int .i64 x.var),.lit (.int .i64 x.type.data),.lit (.int .i64 x.type.index)]:=rfl
def Expr.c :Expr->List AV
 |⟨op,n,ctor,kids⟩=>[.lit (.int .i64 op),.lit (.int .i64 n),.lit (.int .i64 ctor),.arr (kids.map fun k=>Expr.c k)]
@[simp] theorem Expr.c_eq (x:Expr):x.c=[.lit (.int .i64 x.op),.lit (.int .i64 x.n),.lit (.int .i64 x.ctor),.arr (x.kids.map Expr.c)]:=by cases x;rw[Expr.c]
def Fun.c (x:Fun):List AV:=[.lit (.int .i64 x.type.arg.data),.lit (.int .i64 x.type.arg.index),.lit (.int .i64 x.type.res.data),.lit (.int .i64 x.type.res.index),.arr (x.clauses.map Clause.c),.arr (x.bodies.map Expr.c)]
@[simp] theorem Fun.c_eq (x:Fun):x.c=[.lit (.int .i64 x.type.arg.data),.lit (.int .i64 x.type.arg.index),.lit (.int .i64 x.type.res.data),.lit (.int .i64 x.type.res.index),.arr (x.clauses.map Clause.c),.arr (x.bodies.map Expr.c)]:=rfl
def Bind.c (x:Bind):List AV:=[.lit (.int .i64 x.var),.lit (.int .i64 x.value.ctor),.lit (.int .i64 x.value.n),.arr (x.value.kids.map Value.c)]
@[simp] theorem Bind.c_eq (x:Bind):x.c=[.lit (.int .i64 x.var),.lit (.int .i64 x.value.ctor),.lit (.int .i64 x.value.n),.arr (x.value.kids.map Value.c)]:=rfl
def PathBind.c (x:PathBind):List AV:=[.lit (.int .i64 x.var),.arr (x.path.map cI)]
@[simp] theorem PathBind.c_eq (x:PathBind):x.c=[.lit (.int .i64 x.var),.arr (x.path.map cI)]:=rfl
def Tree.c :Tree->List AV
 |⟨op,clause,binds,path,branches,els⟩=>[.lit (.int .i64 op),.lit (.int .i64 clause),.arr (binds.map PathBind.c),.arr (path.map cI),
   .arr (branches.attach.map fun⟨b,_⟩=>[.lit (.int .i64 b.ctor),.lit (.int .i64 b.n),.lit (.int .i64 b.m)]++Tree.c b.tree),.arr (els.attach.map fun⟨k,_⟩=>Tree.c k)]
termination_by t=>SizeOf.sizeOf t
decreasing_by
 ·rename_i h
  have:=List.sizeOf_lt_of_mem h
  cases b
  simp at this ⊢
  omega
 ·rename_i h
  have:=List.sizeOf_lt_of_mem h
  simp
  omega
def Branch.c (b:Branch):List AV:=[.lit (.int .i64 b.ctor),.lit (.int .i64 b.n),.lit (.int .i64 b.m)]++b.tree.c
@[simp] theorem Tree.c_eq (x:Tree):x.c=[.lit (.int .i64 x.op),.lit (.int .i64 x.clause),.arr (x.binds.map PathBind.c),.arr (x.path.map cI),.arr (x.branches.map Branch.c),.arr (x.els.map Tree.c)]:=by
 cases x
 rw[Tree.c]
 simp only[List.map_attach_eq_pmap,List.pmap_eq_map]
 rfl
@[simp] theorem Branch.c_eq (x:Branch):Branch.c x=[.lit (.int .i64 x.ctor),.lit (.int .i64 x.n),.lit (.int .i64 x.m),.lit (.int .i64 x.tree.op),.lit (.int .i64 x.tree.clause),.arr (x.tree.binds.map PathBind.c),.arr (x.tree.path.map cI),.arr (x.tree.branches.map Branch.c),.arr (x.tree.els.map Tree.c)]:=by simp[Branch.c]
def Edge.c (x:Edge):List AV:=[.lit (.int .i64 x.ctor),.lit (.int .i64 x.n),.lit (.int .i64 x.m),.lit (.int .i64 x.to)]
@[simp] theorem Edge.c_eq (x:Edge):x.c=[.lit (.int .i64 x.ctor),.lit (.int .i64 x.n),.lit (.int .i64 x.m),.lit (.int .i64 x.to)]:=rfl
def Node.c (x:Node):List AV:=[.lit (.int .i64 x.op),.lit (.int .i64 x.clause),.arr (x.binds.map PathBind.c),.arr (x.path.map cI),.arr (x.edges.map Edge.c),.lit (.int .i64 x.els)]
@[simp] theorem Node.c_eq (x:Node):x.c=[.lit (.int .i64 x.op),.lit (.int .i64 x.clause),.arr (x.binds.map PathBind.c),.arr (x.path.map cI),.arr (x.edges.map Edge.c),.lit (.int .i64 x.els)]:=rfl
def Step.c (x:Step):List AV:=[.lit (.int .i64 x.op),.arr (x.path.map cI),.lit (.int .i64 x.ctor),.lit (.int .i64 x.n),.lit (.int .i64 x.m),.lit (.int .i64 x.clause),.arr (x.binds.map PathBind.c),.lit (.int .i64 x.to)]
@[simp] theorem Step.c_eq (x:Step):x.c=[.lit (.int .i64 x.op),.arr (x.path.map cI),.lit (.int .i64 x.ctor),.lit (.int .i64 x.n),.lit (.int .i64 x.m),.lit (.int .i64 x.clause),.arr (x.binds.map PathBind.c),.lit (.int .i64 x.to)]:=rfl
abbrev Ty.z :Ty:=⟨0,0⟩
abbrev Ctor.z :Ctor:=⟨ByteArray.empty,[],0⟩
abbrev Data.z :Data:=⟨ByteArray.empty,[]⟩
abbrev Value.z :Value:=⟨0,0,[]⟩
abbrev Pattern.z :Pattern:=⟨0,0,0,0,0,[]⟩
abbrev Guard.z :Guard:=⟨0,0,0⟩
abbrev Clause.z :Clause:=⟨Pattern.z,Guard.z⟩
abbrev FunType.z :FunType:=⟨Ty.z,Ty.z⟩
abbrev VarType.z :VarType:=⟨0,Ty.z⟩
abbrev Expr.z :Expr:=⟨0,0,0,[]⟩
abbrev Fun.z :Fun:=⟨FunType.z,[],[]⟩
abbrev Bind.z :Bind:=⟨0,Value.z⟩
abbrev PathBind.z :PathBind:=⟨0,[]⟩
abbrev Tree.z :Tree:=⟨0,0,[],[],[],[]⟩
abbrev Branch.z :Branch:=⟨0,0,0,Tree.z⟩
abbrev Edge.z :Edge:=⟨0,0,0,0⟩
abbrev Node.z :Node:=⟨0,0,[],[],[],0⟩
abbrev Step.z :Step:=⟨0,[],0,0,0,0,[],0⟩
@[simp] theorem ZPW :Nice Ty.c:=⟨by simp,by simp,by simp⟩
@[simp] theorem ZPQ :NiceLen Ty.c 2:=⟨by simp⟩
@[simp] theorem ZOB :Nice Ctor.c:=⟨by simp,by simp,by simp⟩
@[simp] theorem ZN3 :NiceLen Ctor.c 3:=⟨by simp⟩
@[simp] theorem ZOA :Nice Data.c:=⟨by simp,by simp,by simp⟩
@[simp] theorem ZN2 :NiceLen Data.c 2:=⟨by simp⟩
@[simp] theorem ZND :Nice Value.c:=⟨by simp,by simp,by simp⟩
@[simp] theorem ZNB :NiceLen Value.c 3:=⟨by simp⟩
@[simp] theorem ZLV :Nice Pattern.c:=⟨by simp,by simp,by simp⟩
@[simp] theorem ZLS :NiceLen Pattern.c 6:=⟨by simp⟩
@[simp] theorem ZNE :Nice Guard.c:=⟨by simp,by simp,by simp⟩
@[simp] theorem ZNC :NiceLen Guard.c 3:=⟨by simp⟩
@[simp] theorem ZMK :Nice Clause.c:=⟨by simp,by simp,by simp⟩
@[simp] theorem ZMI :NiceLen Clause.c 9:=⟨by simp⟩
@[simp] theorem ZLW :Nice FunType.c:=⟨by simp,by simp,by simp⟩
@[simp] theorem ZLT :NiceLen FunType.c 4:=⟨by simp⟩
@[simp] theorem ZLU :Nice VarType.c:=⟨by simp,by simp,by simp⟩
@[simp] theorem ZLR :NiceLen VarType.c 3:=⟨by simp⟩
@[simp] theorem ZN8 :Nice Expr.c:=⟨by simp,by simp,by simp⟩
@[simp] theorem ZN0 :NiceLen Expr.c 4:=⟨by simp⟩
@[simp] theorem ZO0 :Nice Fun.c:=⟨by simp,by simp,by simp⟩
@[simp] theorem ZOz :NiceLen Fun.c 6:=⟨by simp⟩
@[simp] theorem ZOC :Nice Bind.c:=⟨by simp,by simp,by simp⟩
@[simp] theorem ZN4 :NiceLen Bind.c 4:=⟨by simp⟩
@[simp] theorem ZKa :Nice PathBind.c:=⟨by simp,by simp,by simp⟩
@[simp] theorem ZKZ :NiceLen PathBind.c 2:=⟨by simp⟩
@[simp] theorem ZN5 :Nice Tree.c:=⟨by simp,by simp,by simp⟩
@[simp] theorem ZNx :NiceLen Tree.c 6:=⟨by simp⟩
@[simp] theorem ZML :Nice Branch.c:=⟨by simp,by simp,by simp⟩
@[simp] theorem ZMJ :NiceLen Branch.c 9:=⟨by simp⟩
@[simp] theorem ZN9 :Nice Edge.c:=⟨by simp,by simp,by simp⟩
@[simp] theorem ZN1 :NiceLen Edge.c 4:=⟨by simp⟩
@[simp] theorem ZN7 :Nice Node.c:=⟨by simp,by simp,by simp⟩
@[simp] theorem ZNz :NiceLen Node.c 6:=⟨by simp⟩
@[simp] theorem ZN6 :Nice Step.c:=⟨by simp,by simp,by simp⟩
@[simp] theorem ZNy :NiceLen Step.c 8:=⟨by simp⟩
end Go.Vl
