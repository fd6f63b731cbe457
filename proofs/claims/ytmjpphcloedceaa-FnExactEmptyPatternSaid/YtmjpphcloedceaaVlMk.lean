/- Part. -/
import Derived.Test.YtmjpphcloedceaaVlDeep
import Derived.Test.YtmjpphcloedceaaVlQ
set_option linter.all false
namespace Go.Vl
open Go
open Go.IntKind renaming i64->zA
def mkI :List Int->Int->List Int×Int
 | [],k=>([],k)
 |_::r,k=>let b:=mkI r (zA.wrap (k+1));(k::b.1,b.2)
def ZPH :List (List Int)->Int->List (List Int)×Int
 | [],k=>([],k)
 |x::r,k=>let a:=mkI x k;let b:=ZPH r a.2;(a.1::b.1,b.2)
def Ty.mkE :Ty->Int->Ty×Int
 |⟨_,_⟩,k=>(⟨k,zA.wrap (k+1)⟩,zA.wrap ((zA.wrap (k+1))+1))
def Ty.mkL :List Ty->Int->List Ty×Int
 | [],k=>([],k)
 |x::r,k=>let a:=Ty.mkE x k;let b:=Ty.mkL r a.2;(a.1::b.1,b.2)
def Ctor.mkE (mt:Int->ByteArray):Ctor->Int->Ctor×Int
 |⟨_,args,_⟩,k=>let a1:=Ty.mkL args (zA.wrap (k+1));(⟨mt k,a1.1,a1.2⟩,zA.wrap (a1.2+1))
def Ctor.mkL (mt:Int->ByteArray):List Ctor->Int->List Ctor×Int
 | [],k=>([],k)
 |x::r,k=>let a:=Ctor.mkE mt x k;let b:=Ctor.mkL mt r a.2;(a.1::b.1,b.2)
def Data.mkE (mt:Int->ByteArray):Data->Int->Data×Int
 |⟨_,ctors⟩,k=>let a1:=Ctor.mkL mt ctors (zA.wrap (k+1));(⟨mt k,a1.1⟩,a1.2)
def Data.mkL (mt:Int->ByteArray):List Data->Int->List Data×Int
 | [],k=>([],k)
 |x::r,k=>let a:=Data.mkE mt x k;let b:=Data.mkL mt r a.2;(a.1::b.1,b.2)
mutual
def Value.mkE :Value->Int->Value×Int
 |⟨_,_,kids⟩,k=>let a1:=Value.mkL kids (zA.wrap ((zA.wrap (k+1))+1));(⟨k,zA.wrap (k+1),a1.1⟩,a1.2)
def Value.mkL :List Value->Int->List Value×Int
 | [],k=>([],k)
 |x::r,k=>let a:=Value.mkE x k;let b:=Value.mkL r a.2;(a.1::b.1,b.2)
end
mutual
def Pattern.mkE :Pattern->Int->Pattern×Int
 |⟨_,_,_,_,_,kids⟩,k=>let a1:=Pattern.mkL kids (zA.wrap ((zA.wrap ((zA.wrap ((zA.wrap ((zA.wrap (k+1))+1))+1))+1))+1));(⟨k,zA.wrap (k+1),zA.wrap ((zA.wrap (k+1))+1),zA.wrap ((zA.wrap ((zA.wrap (k+1))+1))+1),zA.wrap ((zA.wrap ((zA.wrap ((zA.wrap (k+1))+1))+1))+1),a1.1⟩,a1.2)
def Pattern.mkL :List Pattern->Int->List Pattern×Int
 | [],k=>([],k)
 |x::r,k=>let a:=Pattern.mkE x k;let b:=Pattern.mkL r a.2;(a.1::b.1,b.2)
end
def Guard.mkE :Guard->Int->Guard×Int
 |⟨_,_,_⟩,k=>(⟨k,zA.wrap (k+1),zA.wrap ((zA.wrap (k+1))+1)⟩,zA.wrap ((zA.wrap ((zA.wrap (k+1))+1))+1))
def Guard.mkL :List Guard->Int->List Guard×Int
 | [],k=>([],k)
 |x::r,k=>let a:=Guard.mkE x k;let b:=Guard.mkL r a.2;(a.1::b.1,b.2)
def Clause.mkE :Clause->Int->Clause×Int
 |⟨pat,guard⟩,k=>let a1:=Pattern.mkE pat k;let a2:=Guard.mkE guard a1.2;(⟨a1.1,a2.1⟩,a2.2)
def Clause.mkL :List Clause->Int->List Clause×Int
 | [],k=>([],k)
 |x::r,k=>let a:=Clause.mkE x k;let b:=Clause.mkL r a.2;(a.1::b.1,b.2)
def FunType.mkE :FunType->Int->FunType×Int
 |⟨arg,res⟩,k=>let a1:=Ty.mkE arg k;let a2:=Ty.mkE res a1.2;(⟨a1.1,a2.1⟩,a2.2)
def FunType.mkL :List FunType->Int->List FunType×Int
 | [],k=>([],k)
 |x::r,k=>let a:=FunType.mkE x k;let b:=FunType.mkL r a.2;(a.1::b.1,b.2)
def VarType.mkE :VarType->Int->VarType×Int
 |⟨_,type⟩,k=>let a1:=Ty.mkE type (zA.wrap (k+1));(⟨k,a1.1⟩,a1.2)
def VarType.mkL :List VarType->Int->List VarType×Int
 | [],k=>([],k)
 |x::r,k=>let a:=VarType.mkE x k;let b:=VarType.mkL r a.2;(a.1::b.1,b.2)
mutual
def Expr.mkE :Expr->Int->Expr×Int
 |⟨_,_,_,kids⟩,k=>let a1:=Expr.mkL kids (zA.wrap ((zA.wrap ((zA.wrap (k+1))+1))+1));(⟨k,zA.wrap (k+1),zA.wrap ((zA.wrap (k+1))+1),a1.1⟩,a1.2)
def Expr.mkL :List Expr->Int->List Expr×Int
 | [],k=>([],k)
 |x::r,k=>let a:=Expr.mkE x k;let b:=Expr.mkL r a.2;(a.1::b.1,b.2)
end
def Fun.mkE :Fun->Int->Fun×Int
 |⟨type,clauses,bodies⟩,k=>let a1:=FunType.mkE type k;let a2:=Clause.mkL clauses a1.2;let a3:=Expr.mkL bodies a2.2;(⟨a1.1,a2.1,a3.1⟩,a3.2)
def Fun.mkL :List Fun->Int->List Fun×Int
 | [],k=>([],k)
 |x::r,k=>let a:=Fun.mkE x k;let b:=Fun.mkL r a.2;(a.1::b.1,b.2)
def Bind.mkE :Bind->Int->Bind×Int
 |⟨_,value⟩,k=>let a1:=Value.mkE value (zA.wrap (k+1));(⟨k,a1.1⟩,a1.2)
def Bind.mkL :List Bind->Int->List Bind×Int
 | [],k=>([],k)
 |x::r,k=>let a:=Bind.mkE x k;let b:=Bind.mkL r a.2;(a.1::b.1,b.2)
def PathBind.mkE :PathBind->Int->PathBind×Int
 |⟨_,path⟩,k=>let a1:=mkI path (zA.wrap (k+1));(⟨k,a1.1⟩,a1.2)
def PathBind.mkL :List PathBind->Int->List PathBind×Int
 | [],k=>([],k)
 |x::r,k=>let a:=PathBind.mkE x k;let b:=PathBind.mkL r a.2;(a.1::b.1,b.2)
mutual
def Tree.mkE :Tree->Int->Tree×Int
 |⟨_,_,binds,path,branches,els⟩,k=>let a1:=PathBind.mkL binds (zA.wrap ((zA.wrap (k+1))+1));let a2:=mkI path a1.2;let a3:=Branch.mkL branches a2.2;let a4:=Tree.mkL els a3.2;(⟨k,zA.wrap (k+1),a1.1,a2.1,a3.1,a4.1⟩,a4.2)
def Tree.mkL :List Tree->Int->List Tree×Int
 | [],k=>([],k)
 |x::r,k=>let a:=Tree.mkE x k;let b:=Tree.mkL r a.2;(a.1::b.1,b.2)
def Branch.mkE :BranchOf Tree->Int->(BranchOf Tree)×Int
 |⟨_,_,_,tree⟩,k=>let a1:=Tree.mkE tree (zA.wrap ((zA.wrap ((zA.wrap (k+1))+1))+1));(⟨k,zA.wrap (k+1),zA.wrap ((zA.wrap (k+1))+1),a1.1⟩,a1.2)
def Branch.mkL :List (BranchOf Tree)->Int->List (BranchOf Tree)×Int
 | [],k=>([],k)
 |x::r,k=>let a:=Branch.mkE x k;let b:=Branch.mkL r a.2;(a.1::b.1,b.2)
end
def Edge.mkE :Edge->Int->Edge×Int
 |⟨_,_,_,_⟩,k=>(⟨k,zA.wrap (k+1),zA.wrap ((zA.wrap (k+1))+1),zA.wrap ((zA.wrap ((zA.wrap (k+1))+1))+1)⟩,zA.wrap ((zA.wrap ((zA.wrap ((zA.wrap (k+1))+1))+1))+1))
def Edge.mkL :List Edge->Int->List Edge×Int
 | [],k=>([],k)
 |x::r,k=>let a:=Edge.mkE x k;let b:=Edge.mkL r a.2;(a.1::b.1,b.2)
def Node.mkE :Node->Int->Node×Int
 |⟨_,_,binds,path,edges,_⟩,k=>let a1:=PathBind.mkL binds (zA.wrap ((zA.wrap (k+1))+1));let a2:=mkI path a1.2;let a3:=Edge.mkL edges a2.2;(⟨k,zA.wrap (k+1),a1.1,a2.1,a3.1,a3.2⟩,zA.wrap (a3.2+1))
def Node.mkL :List Node->Int->List Node×Int
 | [],k=>([],k)
 |x::r,k=>let a:=Node.mkE x k;let b:=Node.mkL r a.2;(a.1::b.1,b.2)
def Step.mkE :Step->Int->Step×Int
 |⟨_,path,_,_,_,_,binds,_⟩,k=>let a1:=mkI path (zA.wrap (k+1));let a2:=PathBind.mkL binds (zA.wrap ((zA.wrap ((zA.wrap ((zA.wrap (a1.2+1))+1))+1))+1));(⟨k,a1.1,a1.2,zA.wrap (a1.2+1),zA.wrap ((zA.wrap (a1.2+1))+1),zA.wrap ((zA.wrap ((zA.wrap (a1.2+1))+1))+1),a2.1,a2.2⟩,zA.wrap (a2.2+1))
def Step.mkL :List Step->Int->List Step×Int
 | [],k=>([],k)
 |x::r,k=>let a:=Step.mkE x k;let b:=Step.mkL r a.2;(a.1::b.1,b.2)
def ZNk (l:List Int):Nat:=l.length
def ZOy :List (List Int)->Nat
 | []=>0
 |x::r=>ZNk x+ZOy r
def Ty.cnt :Ty->Nat
 |⟨_,_⟩=>2
def Ty.cntL :List Ty->Nat
 | []=>0
 |x::r=>Ty.cnt x+Ty.cntL r
def Ctor.cnt :Ctor->Nat
 |⟨_,args,_⟩=>2+Ty.cntL args
def Ctor.cntL :List Ctor->Nat
 | []=>0
 |x::r=>Ctor.cnt x+Ctor.cntL r
def Data.cnt :Data->Nat
 |⟨_,ctors⟩=>1+Ctor.cntL ctors
def Data.cntL :List Data->Nat
 | []=>0
 |x::r=>Data.cnt x+Data.cntL r
mutual
def Value.cnt :Value->Nat
 |⟨_,_,kids⟩=>2+Value.cntL kids
def Value.cntL :List Value->Nat
 | []=>0
 |x::r=>Value.cnt x+Value.cntL r
end
mutual
def Pattern.cnt :Pattern->Nat
 |⟨_,_,_,_,_,kids⟩=>5+Pattern.cntL kids
def Pattern.cntL :List Pattern->Nat
 | []=>0
 |x::r=>Pattern.cnt x+Pattern.cntL r
end
def Guard.cnt :Guard->Nat
 |⟨_,_,_⟩=>3
def Guard.cntL :List Guard->Nat
 | []=>0
 |x::r=>Guard.cnt x+Guard.cntL r
def Clause.cnt :Clause->Nat
 |⟨pat,guard⟩=>0+Pattern.cnt pat+Guard.cnt guard
def Clause.cntL :List Clause->Nat
 | []=>0
 |x::r=>Clause.cnt x+Clause.cntL r
def FunType.cnt :FunType->Nat
 |⟨arg,res⟩=>0+Ty.cnt arg+Ty.cnt res
def FunType.cntL :List FunType->Nat
 | []=>0
 |x::r=>FunType.cnt x+FunType.cntL r
def VarType.cnt :VarType->Nat
 |⟨_,type⟩=>1+Ty.cnt type
def VarType.cntL :List VarType->Nat
 | []=>0
 |x::r=>VarType.cnt x+VarType.cntL r
mutual
def Expr.cnt :Expr->Nat
 |⟨_,_,_,kids⟩=>3+Expr.cntL kids
def Expr.cntL :List Expr->Nat
 | []=>0
 |x::r=>Expr.cnt x+Expr.cntL r
end
def Fun.cnt :Fun->Nat
 |⟨type,clauses,bodies⟩=>0+FunType.cnt type+Clause.cntL clauses+Expr.cntL bodies
def Fun.cntL :List Fun->Nat
 | []=>0
 |x::r=>Fun.cnt x+Fun.cntL r
def Bind.cnt :Bind->Nat
 |⟨_,value⟩=>1+Value.cnt value
def Bind.cntL :List Bind->Nat
 | []=>0
 |x::r=>Bind.cnt x+Bind.cntL r
def PathBind.cnt :PathBind->Nat
 |⟨_,path⟩=>1+ZNk path
def PathBind.cntL :List PathBind->Nat
 | []=>0
 |x::r=>PathBind.cnt x+PathBind.cntL r
mutual
def Tree.cnt :Tree->Nat
 |⟨_,_,binds,path,branches,els⟩=>2+PathBind.cntL binds+ZNk path+Branch.cntL branches+Tree.cntL els
def Tree.cntL :List Tree->Nat
 | []=>0
 |x::r=>Tree.cnt x+Tree.cntL r
def Branch.cnt :BranchOf Tree->Nat
 |⟨_,_,_,tree⟩=>3+Tree.cnt tree
def Branch.cntL :List (BranchOf Tree)->Nat
 | []=>0
 |x::r=>Branch.cnt x+Branch.cntL r
end
def Edge.cnt :Edge->Nat
 |⟨_,_,_,_⟩=>4
def Edge.cntL :List Edge->Nat
 | []=>0
 |x::r=>Edge.cnt x+Edge.cntL r
def Node.cnt :Node->Nat
 |⟨_,_,binds,path,edges,_⟩=>3+PathBind.cntL binds+ZNk path+Edge.cntL edges
def Node.cntL :List Node->Nat
 | []=>0
 |x::r=>Node.cnt x+Node.cntL r
def Step.cnt :Step->Nat
 |⟨_,path,_,_,_,_,binds,_⟩=>6+ZNk path+PathBind.cntL binds
def Step.cntL :List Step->Nat
 | []=>0
 |x::r=>Step.cnt x+Step.cntL r
end Go.Vl
