/- Part. -/
import Derived.Test.YtmjpphcloedceaaGreatVlDeep
import Derived.Test.YtmjpphcloedceaaGreatVlQ
set_option linter.all false
open Nat renaming not_lt_zero->zA
namespace Go.Vl
open Go
open Go.IntKind renaming i64->zB
open Pattern renaming wt->zC,wt_eq->zD,c->zE
open Guard renaming wt->zF,c->zG
open VarType renaming wt->zH,c->zI
open PathBind renaming wt->zJ,c->zK
def mkI :List Int->Int->List Int×Int
 | [],k=>([],k)
 |_::r,k=>let b:=mkI r (zB.wrap (k+1));(k::b.1,b.2)
def ZQB :List (List Int)->Int->List (List Int)×Int
 | [],k=>([],k)
 |x::r,k=>let a:=mkI x k;let b:=ZQB r a.2;(a.1::b.1,b.2)
def Ty.mkE :Ty->Int->Ty×Int
 |⟨_,_⟩,k=>(⟨k,zB.wrap (k+1)⟩,zB.wrap ((zB.wrap (k+1))+1))
def Ty.mkL :List Ty->Int->List Ty×Int
 | [],k=>([],k)
 |x::r,k=>let a:=Ty.mkE x k;let b:=Ty.mkL r a.2;(a.1::b.1,b.2)
theorem Ty.mkL_len :∀(l:List Ty) (k:Int),(Ty.mkL l k).1.length=l.length
 | [],_=>by rw[Ty.mkL]
 |x::r,k=>by rw[Ty.mkL];simp[Ty.mkL_len r]
theorem Ty.c_len (x:Ty):(Ty.c x).length=2:=by simp
theorem Ty.lits_c (s:List Ty):∃us:List Go.Value,(s.map Ty.c).flatten=us.map .lit:=ZA8 (fun x=>⟨[.int .i64 x.data,.int .i64 x.index],by simp⟩) s
def Ctor.mkE (mt:Int->ByteArray):Ctor->Int->Ctor×Int
 |⟨_,args,_⟩,k=>let a1:=Ty.mkL args (zB.wrap (k+1));(⟨mt k,a1.1,a1.2⟩,zB.wrap (a1.2+1))
def Ctor.mkL (mt:Int->ByteArray):List Ctor->Int->List Ctor×Int
 | [],k=>([],k)
 |x::r,k=>let a:=Ctor.mkE mt x k;let b:=Ctor.mkL mt r a.2;(a.1::b.1,b.2)
theorem Ctor.mkL_len (mt:Int->ByteArray):∀(l:List Ctor) (k:Int),(Ctor.mkL mt l k).1.length=l.length
 | [],_=>by rw[Ctor.mkL]
 |x::r,k=>by rw[Ctor.mkL];simp[Ctor.mkL_len mt r]
theorem Ctor.c_len (x:Ctor):(Ctor.c x).length=3:=by simp
def Data.mkE (mt:Int->ByteArray):Data->Int->Data×Int
 |⟨_,ctors⟩,k=>let a1:=Ctor.mkL mt ctors (zB.wrap (k+1));(⟨mt k,a1.1⟩,a1.2)
def Data.mkL (mt:Int->ByteArray):List Data->Int->List Data×Int
 | [],k=>([],k)
 |x::r,k=>let a:=Data.mkE mt x k;let b:=Data.mkL mt r a.2;(a.1::b.1,b.2)
theorem Data.mkL_len (mt:Int->ByteArray):∀(l:List Data) (k:Int),(Data.mkL mt l k).1.length=l.length
 | [],_=>by rw[Data.mkL]
 |x::r,k=>by rw[Data.mkL];simp[Data.mkL_len mt r]
theorem Data.c_len (x:Data):(Data.c x).length=2:=by simp
mutual
def Value.mkE :Value->Int->Value×Int
 |⟨_,_,kids⟩,k=>let a1:=Value.mkL kids (zB.wrap ((zB.wrap (k+1))+1));(⟨k,zB.wrap (k+1),a1.1⟩,a1.2)
def Value.mkL :List Value->Int->List Value×Int
 | [],k=>([],k)
 |x::r,k=>let a:=Value.mkE x k;let b:=Value.mkL r a.2;(a.1::b.1,b.2)
end
theorem Value.mkL_len :∀(l:List Value) (k:Int),(Value.mkL l k).1.length=l.length
 | [],_=>by rw[Value.mkL]
 |x::r,k=>by rw[Value.mkL];simp[Value.mkL_len r]
theorem Value.c_len (x:Value):(Value.c x).length=3:=by simp
mutual
def Pattern.mkE :Pattern->Int->Pattern×Int
 |⟨_,_,_,_,_,kids⟩,k=>let a1:=Pattern.mkL kids (zB.wrap ((zB.wrap ((zB.wrap ((zB.wrap ((zB.wrap (k+1))+1))+1))+1))+1));(⟨k,zB.wrap (k+1),zB.wrap ((zB.wrap (k+1))+1),zB.wrap ((zB.wrap ((zB.wrap (k+1))+1))+1),zB.wrap ((zB.wrap ((zB.wrap ((zB.wrap (k+1))+1))+1))+1),a1.1⟩,a1.2)
def Pattern.mkL :List Pattern->Int->List Pattern×Int
 | [],k=>([],k)
 |x::r,k=>let a:=Pattern.mkE x k;let b:=Pattern.mkL r a.2;(a.1::b.1,b.2)
end
theorem Pattern.mkL_len :∀(l:List Pattern) (k:Int),(Pattern.mkL l k).1.length=l.length
 | [],_=>by rw[Pattern.mkL]
 |x::r,k=>by rw[Pattern.mkL];simp[Pattern.mkL_len r]
theorem Pattern.c_len (x:Pattern):(zE x).length=6:=by simp
def Guard.mkE :Guard->Int->Guard×Int
 |⟨_,_,_⟩,k=>(⟨k,zB.wrap (k+1),zB.wrap ((zB.wrap (k+1))+1)⟩,zB.wrap ((zB.wrap ((zB.wrap (k+1))+1))+1))
def Guard.mkL :List Guard->Int->List Guard×Int
 | [],k=>([],k)
 |x::r,k=>let a:=Guard.mkE x k;let b:=Guard.mkL r a.2;(a.1::b.1,b.2)
theorem Guard.mkL_len :∀(l:List Guard) (k:Int),(Guard.mkL l k).1.length=l.length
 | [],_=>by rw[Guard.mkL]
 |x::r,k=>by rw[Guard.mkL];simp[Guard.mkL_len r]
theorem Guard.c_len (x:Guard):(zG x).length=3:=by simp
theorem Guard.lits_c (s:List Guard):∃us:List Go.Value,(s.map zG).flatten=us.map .lit:=ZA8 (fun x=>⟨[.int .i64 x.op,.int .i64 x.var,.int .i64 x.n],by simp⟩) s
def Clause.mkE :Clause->Int->Clause×Int
 |⟨pat,guard⟩,k=>let a1:=Pattern.mkE pat k;let a2:=Guard.mkE guard a1.2;(⟨a1.1,a2.1⟩,a2.2)
def Clause.mkL :List Clause->Int->List Clause×Int
 | [],k=>([],k)
 |x::r,k=>let a:=Clause.mkE x k;let b:=Clause.mkL r a.2;(a.1::b.1,b.2)
theorem Clause.mkL_len :∀(l:List Clause) (k:Int),(Clause.mkL l k).1.length=l.length
 | [],_=>by rw[Clause.mkL]
 |x::r,k=>by rw[Clause.mkL];simp[Clause.mkL_len r]
theorem Clause.c_len (x:Clause):(Clause.c x).length=9:=by simp
def FunType.mkE :FunType->Int->FunType×Int
 |⟨arg,res⟩,k=>let a1:=Ty.mkE arg k;let a2:=Ty.mkE res a1.2;(⟨a1.1,a2.1⟩,a2.2)
def FunType.mkL :List FunType->Int->List FunType×Int
 | [],k=>([],k)
 |x::r,k=>let a:=FunType.mkE x k;let b:=FunType.mkL r a.2;(a.1::b.1,b.2)
theorem FunType.mkL_len :∀(l:List FunType) (k:Int),(FunType.mkL l k).1.length=l.length
 | [],_=>by rw[FunType.mkL]
 |x::r,k=>by rw[FunType.mkL];simp[FunType.mkL_len r]
theorem FunType.c_len (x:FunType):(FunType.c x).length=4:=by simp
theorem FunType.lits_c (s:List FunType):∃us:List Go.Value,(s.map FunType.c).flatten=us.map .lit:=ZA8 (fun x=>⟨[.int .i64 x.arg.data,.int .i64 x.arg.index,.int .i64 x.res.data,.int .i64 x.res.index],by simp⟩) s
def VarType.mkE :VarType->Int->VarType×Int
 |⟨_,type⟩,k=>let a1:=Ty.mkE type (zB.wrap (k+1));(⟨k,a1.1⟩,a1.2)
def VarType.mkL :List VarType->Int->List VarType×Int
 | [],k=>([],k)
 |x::r,k=>let a:=VarType.mkE x k;let b:=VarType.mkL r a.2;(a.1::b.1,b.2)
theorem VarType.mkL_len :∀(l:List VarType) (k:Int),(VarType.mkL l k).1.length=l.length
 | [],_=>by rw[VarType.mkL]
 |x::r,k=>by rw[VarType.mkL];simp[VarType.mkL_len r]
theorem VarType.c_len (x:VarType):(zI x).length=3:=by simp
theorem VarType.lits_c (s:List VarType):∃us:List Go.Value,(s.map zI).flatten=us.map .lit:=ZA8 (fun x=>⟨[.int .i64 x.var,.int .i64 x.type.data,.int .i64 x.type.index],by simp⟩) s
mutual
def Expr.mkE :Expr->Int->Expr×Int
 |⟨_,_,_,kids⟩,k=>let a1:=Expr.mkL kids (zB.wrap ((zB.wrap ((zB.wrap (k+1))+1))+1));(⟨k,zB.wrap (k+1),zB.wrap ((zB.wrap (k+1))+1),a1.1⟩,a1.2)
def Expr.mkL :List Expr->Int->List Expr×Int
 | [],k=>([],k)
 |x::r,k=>let a:=Expr.mkE x k;let b:=Expr.mkL r a.2;(a.1::b.1,b.2)
end
theorem Expr.mkL_len :∀(l:List Expr) (k:Int),(Expr.mkL l k).1.length=l.length
 | [],_=>by rw[Expr.mkL]
 |x::r,k=>by rw[Expr.mkL];simp[Expr.mkL_len r]
theorem Expr.c_len (x:Expr):(Expr.c x).length=4:=by simp
def Fun.mkE :Fun->Int->Fun×Int
 |⟨type,clauses,bodies⟩,k=>let a1:=FunType.mkE type k;let a2:=Clause.mkL clauses a1.2;let a3:=Expr.mkL bodies a2.2;(⟨a1.1,a2.1,a3.1⟩,a3.2)
def Fun.mkL :List Fun->Int->List Fun×Int
 | [],k=>([],k)
 |x::r,k=>let a:=Fun.mkE x k;let b:=Fun.mkL r a.2;(a.1::b.1,b.2)
theorem Fun.mkL_len :∀(l:List Fun) (k:Int),(Fun.mkL l k).1.length=l.length
 | [],_=>by rw[Fun.mkL]
 |x::r,k=>by rw[Fun.mkL];simp[Fun.mkL_len r]
theorem Fun.c_len (x:Fun):(Fun.c x).length=6:=by simp
def Bind.mkE :Bind->Int->Bind×Int
 |⟨_,value⟩,k=>let a1:=Value.mkE value (zB.wrap (k+1));(⟨k,a1.1⟩,a1.2)
def Bind.mkL :List Bind->Int->List Bind×Int
 | [],k=>([],k)
 |x::r,k=>let a:=Bind.mkE x k;let b:=Bind.mkL r a.2;(a.1::b.1,b.2)
theorem Bind.mkL_len :∀(l:List Bind) (k:Int),(Bind.mkL l k).1.length=l.length
 | [],_=>by rw[Bind.mkL]
 |x::r,k=>by rw[Bind.mkL];simp[Bind.mkL_len r]
theorem Bind.c_len (x:Bind):(Bind.c x).length=4:=by simp
def PathBind.mkE :PathBind->Int->PathBind×Int
 |⟨_,path⟩,k=>let a1:=mkI path (zB.wrap (k+1));(⟨k,a1.1⟩,a1.2)
def PathBind.mkL :List PathBind->Int->List PathBind×Int
 | [],k=>([],k)
 |x::r,k=>let a:=PathBind.mkE x k;let b:=PathBind.mkL r a.2;(a.1::b.1,b.2)
theorem PathBind.mkL_len :∀(l:List PathBind) (k:Int),(PathBind.mkL l k).1.length=l.length
 | [],_=>by rw[PathBind.mkL]
 |x::r,k=>by rw[PathBind.mkL];simp[PathBind.mkL_len r]
theorem PathBind.c_len (x:PathBind):(zK x).length=2:=by simp
mutual
def Tree.mkE :Tree->Int->Tree×Int
 |⟨_,_,binds,path,branches,els⟩,k=>let a1:=PathBind.mkL binds (zB.wrap ((zB.wrap (k+1))+1));let a2:=mkI path a1.2;let a3:=Branch.mkL branches a2.2;let a4:=Tree.mkL els a3.2;(⟨k,zB.wrap (k+1),a1.1,a2.1,a3.1,a4.1⟩,a4.2)
def Tree.mkL :List Tree->Int->List Tree×Int
 | [],k=>([],k)
 |x::r,k=>let a:=Tree.mkE x k;let b:=Tree.mkL r a.2;(a.1::b.1,b.2)
def Branch.mkE :BranchOf Tree->Int->(BranchOf Tree)×Int
 |⟨_,_,_,tree⟩,k=>let a1:=Tree.mkE tree (zB.wrap ((zB.wrap ((zB.wrap (k+1))+1))+1));(⟨k,zB.wrap (k+1),zB.wrap ((zB.wrap (k+1))+1),a1.1⟩,a1.2)
def Branch.mkL :List (BranchOf Tree)->Int->List (BranchOf Tree)×Int
 | [],k=>([],k)
 |x::r,k=>let a:=Branch.mkE x k;let b:=Branch.mkL r a.2;(a.1::b.1,b.2)
end
theorem Tree.mkL_len :∀(l:List Tree) (k:Int),(Tree.mkL l k).1.length=l.length
 | [],_=>by rw[Tree.mkL]
 |x::r,k=>by rw[Tree.mkL];simp[Tree.mkL_len r]
theorem Tree.c_len (x:Tree):(Tree.c x).length=6:=by simp
theorem Branch.mkL_len :∀(l:List (BranchOf Tree)) (k:Int),(Branch.mkL l k).1.length=l.length
 | [],_=>by rw[Branch.mkL]
 |x::r,k=>by rw[Branch.mkL];simp[Branch.mkL_len r]
theorem Branch.c_len (x:BranchOf Tree):(Branch.c x).length=9:=by simp
def Edge.mkE :Edge->Int->Edge×Int
 |⟨_,_,_,_⟩,k=>(⟨k,zB.wrap (k+1),zB.wrap ((zB.wrap (k+1))+1),zB.wrap ((zB.wrap ((zB.wrap (k+1))+1))+1)⟩,zB.wrap ((zB.wrap ((zB.wrap ((zB.wrap (k+1))+1))+1))+1))
def Edge.mkL :List Edge->Int->List Edge×Int
 | [],k=>([],k)
 |x::r,k=>let a:=Edge.mkE x k;let b:=Edge.mkL r a.2;(a.1::b.1,b.2)
theorem Edge.mkL_len :∀(l:List Edge) (k:Int),(Edge.mkL l k).1.length=l.length
 | [],_=>by rw[Edge.mkL]
 |x::r,k=>by rw[Edge.mkL];simp[Edge.mkL_len r]
theorem Edge.c_len (x:Edge):(Edge.c x).length=4:=by simp
theorem Edge.lits_c (s:List Edge):∃us:List Go.Value,(s.map Edge.c).flatten=us.map .lit:=ZA8 (fun x=>⟨[.int .i64 x.ctor,.int .i64 x.n,.int .i64 x.m,.int .i64 x.to],by simp⟩) s
def Node.mkE :Node->Int->Node×Int
 |⟨_,_,binds,path,edges,_⟩,k=>let a1:=PathBind.mkL binds (zB.wrap ((zB.wrap (k+1))+1));let a2:=mkI path a1.2;let a3:=Edge.mkL edges a2.2;(⟨k,zB.wrap (k+1),a1.1,a2.1,a3.1,a3.2⟩,zB.wrap (a3.2+1))
def Node.mkL :List Node->Int->List Node×Int
 | [],k=>([],k)
 |x::r,k=>let a:=Node.mkE x k;let b:=Node.mkL r a.2;(a.1::b.1,b.2)
theorem Node.mkL_len :∀(l:List Node) (k:Int),(Node.mkL l k).1.length=l.length
 | [],_=>by rw[Node.mkL]
 |x::r,k=>by rw[Node.mkL];simp[Node.mkL_len r]
theorem Node.c_len (x:Node):(Node.c x).length=6:=by simp
def Step.mkE :Step->Int->Step×Int
 |⟨_,path,_,_,_,_,binds,_⟩,k=>let a1:=mkI path (zB.wrap (k+1));let a2:=PathBind.mkL binds (zB.wrap ((zB.wrap ((zB.wrap ((zB.wrap (a1.2+1))+1))+1))+1));(⟨k,a1.1,a1.2,zB.wrap (a1.2+1),zB.wrap ((zB.wrap (a1.2+1))+1),zB.wrap ((zB.wrap ((zB.wrap (a1.2+1))+1))+1),a2.1,a2.2⟩,zB.wrap (a2.2+1))
def Step.mkL :List Step->Int->List Step×Int
 | [],k=>([],k)
 |x::r,k=>let a:=Step.mkE x k;let b:=Step.mkL r a.2;(a.1::b.1,b.2)
theorem Step.mkL_len :∀(l:List Step) (k:Int),(Step.mkL l k).1.length=l.length
 | [],_=>by rw[Step.mkL]
 |x::r,k=>by rw[Step.mkL];simp[Step.mkL_len r]
theorem Step.c_len (x:Step):(Step.c x).length=8:=by simp
def cntI (l:List Int):Nat:=l.length
theorem ZCh :∀(l:List Int) (k:Int),0<=k->k+(cntI l:Int)<=9223372036854775807->(mkI l k).2=k+(cntI l:Int)
 | [],k,_,_=>by simp[mkI,cntI]
 |x::r,k,h0,h=>by
  simp only[cntI,List.length_cons]at h ⊢
  have w:zB.wrap (k+1)=k+1:=ZB (by omega) (by omega)
  simp only[mkI,w]
  rw[ZCh r (k+1) (by omega) (by simp only[cntI];omega)]
  simp only[cntI];omega
def ZPo :List (List Int)->Nat
 | []=>0
 |x::r=>cntI x+ZPo r
def Ty.cnt :Ty->Nat
 |⟨_,_⟩=>2
def Ty.cntL :List Ty->Nat
 | []=>0
 |x::r=>Ty.cnt x+Ty.cntL r
theorem Ty.mk_sndA :∀m:Nat,(∀(l:List Ty) (k:Int),SizeOf.sizeOf l<m->0<=k->k+(Ty.cntL l:Int)<=9223372036854775807->(Ty.mkL l k).2=k+(Ty.cntL l:Int)):=by
 intro m
 induction m with
 |zero=>exact fun l k h=>absurd h (zA _)
 |succ m ih=>
  intro l k hm h0 h
  induction l generalizing k with
  |nil=>simp[Ty.mkL,Ty.cntL]
  |cons x r ihr=>
   have hr:SizeOf.sizeOf r<m+1:=by simp at hm;omega
   simp only[Ty.cntL]at h ⊢
   have hE:(Ty.mkE x k).2=k+(Ty.cnt x:Int):=by
    obtain⟨data,index⟩:=x
    simp only[Ty.cnt]at h ⊢
    have w1:zB.wrap (k+1)=k+1:=ZB (by omega) (by omega)
    have w2:zB.wrap (k+1+1)=k+1+1:=ZB (by omega) (by omega)
    simp only[Ty.mkE,w1,w2]
    omega
   rw[Ty.mkL]
   simp only[hE]
   rw[ihr (k+(Ty.cnt x:Int)) hr (by omega) (by omega)]
   omega
theorem Ty.mkL_snd (l:List Ty)(k:Int)(h0:0<=k)(h:k+(Ty.cntL l:Int)<=9223372036854775807):(Ty.mkL l k).2=k+(Ty.cntL l:Int):=(Ty.mk_sndA (SizeOf.sizeOf l+1)) l k (Nat.lt_succ_self _) h0 h
def Ctor.cnt :Ctor->Nat
 |⟨_,args,_⟩=>2+Ty.cntL args
def Ctor.cntL :List Ctor->Nat
 | []=>0
 |x::r=>Ctor.cnt x+Ctor.cntL r
theorem Ctor.mk_sndA (mt:Int->ByteArray):∀m:Nat,(∀(l:List Ctor) (k:Int),SizeOf.sizeOf l<m->0<=k->k+(Ctor.cntL l:Int)<=9223372036854775807->(Ctor.mkL mt l k).2=k+(Ctor.cntL l:Int)):=by
 intro m
 induction m with
 |zero=>exact fun l k h=>absurd h (zA _)
 |succ m ih=>
  intro l k hm h0 h
  induction l generalizing k with
  |nil=>simp[Ctor.mkL,Ctor.cntL]
  |cons x r ihr=>
   have hr:SizeOf.sizeOf r<m+1:=by simp at hm;omega
   simp only[Ctor.cntL]at h ⊢
   have hE:(Ctor.mkE mt x k).2=k+(Ctor.cnt x:Int):=by
    obtain⟨name,args,index⟩:=x
    simp only[Ctor.cnt]at h ⊢
    have w1:zB.wrap (k+1)=k+1:=ZB (by omega) (by omega)
    have w2:(Ty.mkL args (k+1)).2=k+1+(Ty.cntL args:Int):=Ty.mkL_snd _ _ (by omega) (by omega)
    have w3:zB.wrap (k+1+(Ty.cntL args:Int)+1)=k+1+(Ty.cntL args:Int)+1:=ZB (by omega) (by omega)
    simp only[Ctor.mkE,w1,w2,w3]
    omega
   rw[Ctor.mkL]
   simp only[hE]
   rw[ihr (k+(Ctor.cnt x:Int)) hr (by omega) (by omega)]
   omega
theorem Ctor.mkL_snd (mt:Int->ByteArray)(l:List Ctor)(k:Int)(h0:0<=k)(h:k+(Ctor.cntL l:Int)<=9223372036854775807):(Ctor.mkL mt l k).2=k+(Ctor.cntL l:Int):=(Ctor.mk_sndA mt (SizeOf.sizeOf l+1)) l k (Nat.lt_succ_self _) h0 h
def Data.cnt :Data->Nat
 |⟨_,ctors⟩=>1+Ctor.cntL ctors
def Data.cntL :List Data->Nat
 | []=>0
 |x::r=>Data.cnt x+Data.cntL r
theorem Data.mk_sndA (mt:Int->ByteArray):∀m:Nat,(∀(l:List Data) (k:Int),SizeOf.sizeOf l<m->0<=k->k+(Data.cntL l:Int)<=9223372036854775807->(Data.mkL mt l k).2=k+(Data.cntL l:Int)):=by
 intro m
 induction m with
 |zero=>exact fun l k h=>absurd h (zA _)
 |succ m ih=>
  intro l k hm h0 h
  induction l generalizing k with
  |nil=>simp[Data.mkL,Data.cntL]
  |cons x r ihr=>
   have hr:SizeOf.sizeOf r<m+1:=by simp at hm;omega
   simp only[Data.cntL]at h ⊢
   have hE:(Data.mkE mt x k).2=k+(Data.cnt x:Int):=by
    obtain⟨name,ctors⟩:=x
    simp only[Data.cnt]at h ⊢
    have w1:zB.wrap (k+1)=k+1:=ZB (by omega) (by omega)
    have w2:(Ctor.mkL mt ctors (k+1)).2=k+1+(Ctor.cntL ctors:Int):=Ctor.mkL_snd mt _ _ (by omega) (by omega)
    simp only[Data.mkE,w1,w2]
    omega
   rw[Data.mkL]
   simp only[hE]
   rw[ihr (k+(Data.cnt x:Int)) hr (by omega) (by omega)]
   omega
theorem Data.mkL_snd (mt:Int->ByteArray)(l:List Data)(k:Int)(h0:0<=k)(h:k+(Data.cntL l:Int)<=9223372036854775807):(Data.mkL mt l k).2=k+(Data.cntL l:Int):=(Data.mk_sndA mt (SizeOf.sizeOf l+1)) l k (Nat.lt_succ_self _) h0 h
mutual
def Value.cnt :Value->Nat
 |⟨_,_,kids⟩=>2+Value.cntL kids
def Value.cntL :List Value->Nat
 | []=>0
 |x::r=>Value.cnt x+Value.cntL r
end
theorem Value.mk_sndA :∀m:Nat,(∀(l:List Value) (k:Int),SizeOf.sizeOf l<m->0<=k->k+(Value.cntL l:Int)<=9223372036854775807->(Value.mkL l k).2=k+(Value.cntL l:Int)):=by
 intro m
 induction m with
 |zero=>exact fun l k h=>absurd h (zA _)
 |succ m ih=>
  intro l k hm h0 h
  induction l generalizing k with
  |nil=>simp[Value.mkL,Value.cntL]
  |cons x r ihr=>
   have hr:SizeOf.sizeOf r<m+1:=by simp at hm;omega
   simp only[Value.cntL]at h ⊢
   have hE:(Value.mkE x k).2=k+(Value.cnt x:Int):=by
    obtain⟨ctor,n,kids⟩:=x
    simp only[Value.cnt]at h ⊢
    have w1:zB.wrap (k+1)=k+1:=ZB (by omega) (by omega)
    have w2:zB.wrap (k+1+1)=k+1+1:=ZB (by omega) (by omega)
    have w3:(Value.mkL kids (k+1+1)).2=k+1+1+(Value.cntL kids:Int):=ih _ _ (by simp at hm;omega) (by omega) (by omega)
    simp only[Value.mkE,w1,w2,w3]
    omega
   rw[Value.mkL]
   simp only[hE]
   rw[ihr (k+(Value.cnt x:Int)) hr (by omega) (by omega)]
   omega
theorem Value.mkL_snd (l:List Value)(k:Int)(h0:0<=k)(h:k+(Value.cntL l:Int)<=9223372036854775807):(Value.mkL l k).2=k+(Value.cntL l:Int):=(Value.mk_sndA (SizeOf.sizeOf l+1)) l k (Nat.lt_succ_self _) h0 h
mutual
def Pattern.cnt :Pattern->Nat
 |⟨_,_,_,_,_,kids⟩=>5+Pattern.cntL kids
def Pattern.cntL :List Pattern->Nat
 | []=>0
 |x::r=>Pattern.cnt x+Pattern.cntL r
end
theorem Pattern.mk_sndA :∀m:Nat,(∀(l:List Pattern) (k:Int),SizeOf.sizeOf l<m->0<=k->k+(Pattern.cntL l:Int)<=9223372036854775807->(Pattern.mkL l k).2=k+(Pattern.cntL l:Int)):=by
 intro m
 induction m with
 |zero=>exact fun l k h=>absurd h (zA _)
 |succ m ih=>
  intro l k hm h0 h
  induction l generalizing k with
  |nil=>simp[Pattern.mkL,Pattern.cntL]
  |cons x r ihr=>
   have hr:SizeOf.sizeOf r<m+1:=by simp at hm;omega
   simp only[Pattern.cntL]at h ⊢
   have hE:(Pattern.mkE x k).2=k+(Pattern.cnt x:Int):=by
    obtain⟨op,ctor,n,m,var,kids⟩:=x
    simp only[Pattern.cnt]at h ⊢
    have w1:zB.wrap (k+1)=k+1:=ZB (by omega) (by omega)
    have w2:zB.wrap (k+1+1)=k+1+1:=ZB (by omega) (by omega)
    have w3:zB.wrap (k+1+1+1)=k+1+1+1:=ZB (by omega) (by omega)
    have w4:zB.wrap (k+1+1+1+1)=k+1+1+1+1:=ZB (by omega) (by omega)
    have w5:zB.wrap (k+1+1+1+1+1)=k+1+1+1+1+1:=ZB (by omega) (by omega)
    have w6:(Pattern.mkL kids (k+1+1+1+1+1)).2=k+1+1+1+1+1+(Pattern.cntL kids:Int):=ih _ _ (by simp at hm;omega) (by omega) (by omega)
    simp only[Pattern.mkE,w1,w2,w3,w4,w5,w6]
    omega
   rw[Pattern.mkL]
   simp only[hE]
   rw[ihr (k+(Pattern.cnt x:Int)) hr (by omega) (by omega)]
   omega
theorem Pattern.mkL_snd (l:List Pattern)(k:Int)(h0:0<=k)(h:k+(Pattern.cntL l:Int)<=9223372036854775807):(Pattern.mkL l k).2=k+(Pattern.cntL l:Int):=(Pattern.mk_sndA (SizeOf.sizeOf l+1)) l k (Nat.lt_succ_self _) h0 h
def Guard.cnt :Guard->Nat
 |⟨_,_,_⟩=>3
def Guard.cntL :List Guard->Nat
 | []=>0
 |x::r=>Guard.cnt x+Guard.cntL r
theorem Guard.mk_sndA :∀m:Nat,(∀(l:List Guard) (k:Int),SizeOf.sizeOf l<m->0<=k->k+(Guard.cntL l:Int)<=9223372036854775807->(Guard.mkL l k).2=k+(Guard.cntL l:Int)):=by
 intro m
 induction m with
 |zero=>exact fun l k h=>absurd h (zA _)
 |succ m ih=>
  intro l k hm h0 h
  induction l generalizing k with
  |nil=>simp[Guard.mkL,Guard.cntL]
  |cons x r ihr=>
   have hr:SizeOf.sizeOf r<m+1:=by simp at hm;omega
   simp only[Guard.cntL]at h ⊢
   have hE:(Guard.mkE x k).2=k+(Guard.cnt x:Int):=by
    obtain⟨op,var,n⟩:=x
    simp only[Guard.cnt]at h ⊢
    have w1:zB.wrap (k+1)=k+1:=ZB (by omega) (by omega)
    have w2:zB.wrap (k+1+1)=k+1+1:=ZB (by omega) (by omega)
    have w3:zB.wrap (k+1+1+1)=k+1+1+1:=ZB (by omega) (by omega)
    simp only[Guard.mkE,w1,w2,w3]
    omega
   rw[Guard.mkL]
   simp only[hE]
   rw[ihr (k+(Guard.cnt x:Int)) hr (by omega) (by omega)]
   omega
theorem Guard.mkL_snd (l:List Guard)(k:Int)(h0:0<=k)(h:k+(Guard.cntL l:Int)<=9223372036854775807):(Guard.mkL l k).2=k+(Guard.cntL l:Int):=(Guard.mk_sndA (SizeOf.sizeOf l+1)) l k (Nat.lt_succ_self _) h0 h
def Clause.cnt :Clause->Nat
 |⟨pat,guard⟩=>0+Pattern.cnt pat+Guard.cnt guard
def Clause.cntL :List Clause->Nat
 | []=>0
 |x::r=>Clause.cnt x+Clause.cntL r
theorem Clause.mk_sndA :∀m:Nat,(∀(l:List Clause) (k:Int),SizeOf.sizeOf l<m->0<=k->k+(Clause.cntL l:Int)<=9223372036854775807->(Clause.mkL l k).2=k+(Clause.cntL l:Int)):=by
 intro m
 induction m with
 |zero=>exact fun l k h=>absurd h (zA _)
 |succ m ih=>
  intro l k hm h0 h
  induction l generalizing k with
  |nil=>simp[Clause.mkL,Clause.cntL]
  |cons x r ihr=>
   have hr:SizeOf.sizeOf r<m+1:=by simp at hm;omega
   simp only[Clause.cntL]at h ⊢
   have hE:(Clause.mkE x k).2=k+(Clause.cnt x:Int):=by
    obtain⟨⟨pat_op,pat_ctor,pat_n,pat_m,pat_var,pat_kids⟩,⟨guard_op,guard_var,guard_n⟩⟩:=x
    simp only[Clause.cnt,Pattern.cnt,Guard.cnt]at h ⊢
    have w1:zB.wrap (k+1)=k+1:=ZB (by omega) (by omega)
    have w2:zB.wrap (k+1+1)=k+1+1:=ZB (by omega) (by omega)
    have w3:zB.wrap (k+1+1+1)=k+1+1+1:=ZB (by omega) (by omega)
    have w4:zB.wrap (k+1+1+1+1)=k+1+1+1+1:=ZB (by omega) (by omega)
    have w5:zB.wrap (k+1+1+1+1+1)=k+1+1+1+1+1:=ZB (by omega) (by omega)
    have w6:(Pattern.mkL pat_kids (k+1+1+1+1+1)).2=k+1+1+1+1+1+(Pattern.cntL pat_kids:Int):=Pattern.mkL_snd _ _ (by omega) (by omega)
    have w7:zB.wrap (k+1+1+1+1+1+(Pattern.cntL pat_kids:Int)+1)=k+1+1+1+1+1+(Pattern.cntL pat_kids:Int)+1:=ZB (by omega) (by omega)
    have w8:zB.wrap (k+1+1+1+1+1+(Pattern.cntL pat_kids:Int)+1+1)=k+1+1+1+1+1+(Pattern.cntL pat_kids:Int)+1+1:=ZB (by omega) (by omega)
    have w9:zB.wrap (k+1+1+1+1+1+(Pattern.cntL pat_kids:Int)+1+1+1)=k+1+1+1+1+1+(Pattern.cntL pat_kids:Int)+1+1+1:=ZB (by omega) (by omega)
    simp only[Clause.mkE,Pattern.mkE,Guard.mkE,w1,w2,w3,w4,w5,w6,w7,w8,w9]
    omega
   rw[Clause.mkL]
   simp only[hE]
   rw[ihr (k+(Clause.cnt x:Int)) hr (by omega) (by omega)]
   omega
theorem Clause.mkL_snd (l:List Clause)(k:Int)(h0:0<=k)(h:k+(Clause.cntL l:Int)<=9223372036854775807):(Clause.mkL l k).2=k+(Clause.cntL l:Int):=(Clause.mk_sndA (SizeOf.sizeOf l+1)) l k (Nat.lt_succ_self _) h0 h
def FunType.cnt :FunType->Nat
 |⟨arg,res⟩=>0+Ty.cnt arg+Ty.cnt res
def FunType.cntL :List FunType->Nat
 | []=>0
 |x::r=>FunType.cnt x+FunType.cntL r
theorem FunType.mk_sndA :∀m:Nat,(∀(l:List FunType) (k:Int),SizeOf.sizeOf l<m->0<=k->k+(FunType.cntL l:Int)<=9223372036854775807->(FunType.mkL l k).2=k+(FunType.cntL l:Int)):=by
 intro m
 induction m with
 |zero=>exact fun l k h=>absurd h (zA _)
 |succ m ih=>
  intro l k hm h0 h
  induction l generalizing k with
  |nil=>simp[FunType.mkL,FunType.cntL]
  |cons x r ihr=>
   have hr:SizeOf.sizeOf r<m+1:=by simp at hm;omega
   simp only[FunType.cntL]at h ⊢
   have hE:(FunType.mkE x k).2=k+(FunType.cnt x:Int):=by
    obtain⟨⟨arg_data,arg_index⟩,⟨res_data,res_index⟩⟩:=x
    simp only[FunType.cnt,Ty.cnt]at h ⊢
    have w1:zB.wrap (k+1)=k+1:=ZB (by omega) (by omega)
    have w2:zB.wrap (k+1+1)=k+1+1:=ZB (by omega) (by omega)
    have w3:zB.wrap (k+1+1+1)=k+1+1+1:=ZB (by omega) (by omega)
    have w4:zB.wrap (k+1+1+1+1)=k+1+1+1+1:=ZB (by omega) (by omega)
    simp only[FunType.mkE,Ty.mkE,w1,w2,w3,w4]
    omega
   rw[FunType.mkL]
   simp only[hE]
   rw[ihr (k+(FunType.cnt x:Int)) hr (by omega) (by omega)]
   omega
theorem FunType.mkL_snd (l:List FunType)(k:Int)(h0:0<=k)(h:k+(FunType.cntL l:Int)<=9223372036854775807):(FunType.mkL l k).2=k+(FunType.cntL l:Int):=(FunType.mk_sndA (SizeOf.sizeOf l+1)) l k (Nat.lt_succ_self _) h0 h
def VarType.cnt :VarType->Nat
 |⟨_,type⟩=>1+Ty.cnt type
def VarType.cntL :List VarType->Nat
 | []=>0
 |x::r=>VarType.cnt x+VarType.cntL r
theorem VarType.mk_sndA :∀m:Nat,(∀(l:List VarType) (k:Int),SizeOf.sizeOf l<m->0<=k->k+(VarType.cntL l:Int)<=9223372036854775807->(VarType.mkL l k).2=k+(VarType.cntL l:Int)):=by
 intro m
 induction m with
 |zero=>exact fun l k h=>absurd h (zA _)
 |succ m ih=>
  intro l k hm h0 h
  induction l generalizing k with
  |nil=>simp[VarType.mkL,VarType.cntL]
  |cons x r ihr=>
   have hr:SizeOf.sizeOf r<m+1:=by simp at hm;omega
   simp only[VarType.cntL]at h ⊢
   have hE:(VarType.mkE x k).2=k+(VarType.cnt x:Int):=by
    obtain⟨var,⟨type_data,type_index⟩⟩:=x
    simp only[VarType.cnt,Ty.cnt]at h ⊢
    have w1:zB.wrap (k+1)=k+1:=ZB (by omega) (by omega)
    have w2:zB.wrap (k+1+1)=k+1+1:=ZB (by omega) (by omega)
    have w3:zB.wrap (k+1+1+1)=k+1+1+1:=ZB (by omega) (by omega)
    simp only[VarType.mkE,Ty.mkE,w1,w2,w3]
    omega
   rw[VarType.mkL]
   simp only[hE]
   rw[ihr (k+(VarType.cnt x:Int)) hr (by omega) (by omega)]
   omega
theorem VarType.mkL_snd (l:List VarType)(k:Int)(h0:0<=k)(h:k+(VarType.cntL l:Int)<=9223372036854775807):(VarType.mkL l k).2=k+(VarType.cntL l:Int):=(VarType.mk_sndA (SizeOf.sizeOf l+1)) l k (Nat.lt_succ_self _) h0 h
mutual
def Expr.cnt :Expr->Nat
 |⟨_,_,_,kids⟩=>3+Expr.cntL kids
def Expr.cntL :List Expr->Nat
 | []=>0
 |x::r=>Expr.cnt x+Expr.cntL r
end
theorem Expr.mk_sndA :∀m:Nat,(∀(l:List Expr) (k:Int),SizeOf.sizeOf l<m->0<=k->k+(Expr.cntL l:Int)<=9223372036854775807->(Expr.mkL l k).2=k+(Expr.cntL l:Int)):=by
 intro m
 induction m with
 |zero=>exact fun l k h=>absurd h (zA _)
 |succ m ih=>
  intro l k hm h0 h
  induction l generalizing k with
  |nil=>simp[Expr.mkL,Expr.cntL]
  |cons x r ihr=>
   have hr:SizeOf.sizeOf r<m+1:=by simp at hm;omega
   simp only[Expr.cntL]at h ⊢
   have hE:(Expr.mkE x k).2=k+(Expr.cnt x:Int):=by
    obtain⟨op,n,ctor,kids⟩:=x
    simp only[Expr.cnt]at h ⊢
    have w1:zB.wrap (k+1)=k+1:=ZB (by omega) (by omega)
    have w2:zB.wrap (k+1+1)=k+1+1:=ZB (by omega) (by omega)
    have w3:zB.wrap (k+1+1+1)=k+1+1+1:=ZB (by omega) (by omega)
    have w4:(Expr.mkL kids (k+1+1+1)).2=k+1+1+1+(Expr.cntL kids:Int):=ih _ _ (by simp at hm;omega) (by omega) (by omega)
    simp only[Expr.mkE,w1,w2,w3,w4]
    omega
   rw[Expr.mkL]
   simp only[hE]
   rw[ihr (k+(Expr.cnt x:Int)) hr (by omega) (by omega)]
   omega
theorem Expr.mkL_snd (l:List Expr)(k:Int)(h0:0<=k)(h:k+(Expr.cntL l:Int)<=9223372036854775807):(Expr.mkL l k).2=k+(Expr.cntL l:Int):=(Expr.mk_sndA (SizeOf.sizeOf l+1)) l k (Nat.lt_succ_self _) h0 h
def Fun.cnt :Fun->Nat
 |⟨type,clauses,bodies⟩=>0+FunType.cnt type+Clause.cntL clauses+Expr.cntL bodies
def Fun.cntL :List Fun->Nat
 | []=>0
 |x::r=>Fun.cnt x+Fun.cntL r
theorem Fun.mk_sndA :∀m:Nat,(∀(l:List Fun) (k:Int),SizeOf.sizeOf l<m->0<=k->k+(Fun.cntL l:Int)<=9223372036854775807->(Fun.mkL l k).2=k+(Fun.cntL l:Int)):=by
 intro m
 induction m with
 |zero=>exact fun l k h=>absurd h (zA _)
 |succ m ih=>
  intro l k hm h0 h
  induction l generalizing k with
  |nil=>simp[Fun.mkL,Fun.cntL]
  |cons x r ihr=>
   have hr:SizeOf.sizeOf r<m+1:=by simp at hm;omega
   simp only[Fun.cntL]at h ⊢
   have hE:(Fun.mkE x k).2=k+(Fun.cnt x:Int):=by
    obtain⟨⟨⟨type_arg_data,type_arg_index⟩,⟨type_res_data,type_res_index⟩⟩,clauses,bodies⟩:=x
    simp only[Fun.cnt,FunType.cnt,Ty.cnt]at h ⊢
    have w1:zB.wrap (k+1)=k+1:=ZB (by omega) (by omega)
    have w2:zB.wrap (k+1+1)=k+1+1:=ZB (by omega) (by omega)
    have w3:zB.wrap (k+1+1+1)=k+1+1+1:=ZB (by omega) (by omega)
    have w4:zB.wrap (k+1+1+1+1)=k+1+1+1+1:=ZB (by omega) (by omega)
    have w5:(Clause.mkL clauses (k+1+1+1+1)).2=k+1+1+1+1+(Clause.cntL clauses:Int):=Clause.mkL_snd _ _ (by omega) (by omega)
    have w6:(Expr.mkL bodies (k+1+1+1+1+(Clause.cntL clauses:Int))).2=k+1+1+1+1+(Clause.cntL clauses:Int)+(Expr.cntL bodies:Int):=Expr.mkL_snd _ _ (by omega) (by omega)
    simp only[Fun.mkE,FunType.mkE,Ty.mkE,w1,w2,w3,w4,w5,w6]
    omega
   rw[Fun.mkL]
   simp only[hE]
   rw[ihr (k+(Fun.cnt x:Int)) hr (by omega) (by omega)]
   omega
theorem Fun.mkL_snd (l:List Fun)(k:Int)(h0:0<=k)(h:k+(Fun.cntL l:Int)<=9223372036854775807):(Fun.mkL l k).2=k+(Fun.cntL l:Int):=(Fun.mk_sndA (SizeOf.sizeOf l+1)) l k (Nat.lt_succ_self _) h0 h
def Bind.cnt :Bind->Nat
 |⟨_,value⟩=>1+Value.cnt value
def Bind.cntL :List Bind->Nat
 | []=>0
 |x::r=>Bind.cnt x+Bind.cntL r
theorem Bind.mk_sndA :∀m:Nat,(∀(l:List Bind) (k:Int),SizeOf.sizeOf l<m->0<=k->k+(Bind.cntL l:Int)<=9223372036854775807->(Bind.mkL l k).2=k+(Bind.cntL l:Int)):=by
 intro m
 induction m with
 |zero=>exact fun l k h=>absurd h (zA _)
 |succ m ih=>
  intro l k hm h0 h
  induction l generalizing k with
  |nil=>simp[Bind.mkL,Bind.cntL]
  |cons x r ihr=>
   have hr:SizeOf.sizeOf r<m+1:=by simp at hm;omega
   simp only[Bind.cntL]at h ⊢
   have hE:(Bind.mkE x k).2=k+(Bind.cnt x:Int):=by
    obtain⟨var,⟨value_ctor,value_n,value_kids⟩⟩:=x
    simp only[Bind.cnt,Value.cnt]at h ⊢
    have w1:zB.wrap (k+1)=k+1:=ZB (by omega) (by omega)
    have w2:zB.wrap (k+1+1)=k+1+1:=ZB (by omega) (by omega)
    have w3:zB.wrap (k+1+1+1)=k+1+1+1:=ZB (by omega) (by omega)
    have w4:(Value.mkL value_kids (k+1+1+1)).2=k+1+1+1+(Value.cntL value_kids:Int):=Value.mkL_snd _ _ (by omega) (by omega)
    simp only[Bind.mkE,Value.mkE,w1,w2,w3,w4]
    omega
   rw[Bind.mkL]
   simp only[hE]
   rw[ihr (k+(Bind.cnt x:Int)) hr (by omega) (by omega)]
   omega
theorem Bind.mkL_snd (l:List Bind)(k:Int)(h0:0<=k)(h:k+(Bind.cntL l:Int)<=9223372036854775807):(Bind.mkL l k).2=k+(Bind.cntL l:Int):=(Bind.mk_sndA (SizeOf.sizeOf l+1)) l k (Nat.lt_succ_self _) h0 h
def PathBind.cnt :PathBind->Nat
 |⟨_,path⟩=>1+cntI path
def PathBind.cntL :List PathBind->Nat
 | []=>0
 |x::r=>PathBind.cnt x+PathBind.cntL r
theorem PathBind.mk_sndA :∀m:Nat,(∀(l:List PathBind) (k:Int),SizeOf.sizeOf l<m->0<=k->k+(PathBind.cntL l:Int)<=9223372036854775807->(PathBind.mkL l k).2=k+(PathBind.cntL l:Int)):=by
 intro m
 induction m with
 |zero=>exact fun l k h=>absurd h (zA _)
 |succ m ih=>
  intro l k hm h0 h
  induction l generalizing k with
  |nil=>simp[PathBind.mkL,PathBind.cntL]
  |cons x r ihr=>
   have hr:SizeOf.sizeOf r<m+1:=by simp at hm;omega
   simp only[PathBind.cntL]at h ⊢
   have hE:(PathBind.mkE x k).2=k+(PathBind.cnt x:Int):=by
    obtain⟨var,path⟩:=x
    simp only[PathBind.cnt]at h ⊢
    have w1:zB.wrap (k+1)=k+1:=ZB (by omega) (by omega)
    have w2:(mkI path (k+1)).2=k+1+(cntI path:Int):=ZCh _ _ (by omega) (by omega)
    simp only[PathBind.mkE,w1,w2]
    omega
   rw[PathBind.mkL]
   simp only[hE]
   rw[ihr (k+(PathBind.cnt x:Int)) hr (by omega) (by omega)]
   omega
theorem PathBind.mkL_snd (l:List PathBind)(k:Int)(h0:0<=k)(h:k+(PathBind.cntL l:Int)<=9223372036854775807):(PathBind.mkL l k).2=k+(PathBind.cntL l:Int):=(PathBind.mk_sndA (SizeOf.sizeOf l+1)) l k (Nat.lt_succ_self _) h0 h
mutual
def Tree.cnt :Tree->Nat
 |⟨_,_,binds,path,branches,els⟩=>2+PathBind.cntL binds+cntI path+Branch.cntL branches+Tree.cntL els
def Tree.cntL :List Tree->Nat
 | []=>0
 |x::r=>Tree.cnt x+Tree.cntL r
def Branch.cnt :BranchOf Tree->Nat
 |⟨_,_,_,tree⟩=>3+Tree.cnt tree
def Branch.cntL :List (BranchOf Tree)->Nat
 | []=>0
 |x::r=>Branch.cnt x+Branch.cntL r
end
theorem Tree.mk_sndA :∀m:Nat,(∀(l:List Tree) (k:Int),SizeOf.sizeOf l<m->0<=k->k+(Tree.cntL l:Int)<=9223372036854775807->(Tree.mkL l k).2=k+(Tree.cntL l:Int))/\(∀(l:List (BranchOf Tree)) (k:Int),SizeOf.sizeOf l<m->0<=k->k+(Branch.cntL l:Int)<=9223372036854775807->(Branch.mkL l k).2=k+(Branch.cntL l:Int)):=by
 intro m
 induction m with
 |zero=>exact⟨fun l k h=>absurd h (zA _),fun l k h=>absurd h (zA _)⟩
 |succ m ih=>
  refine⟨?_,?_⟩
  ·intro l k hm h0 h
   induction l generalizing k with
   |nil=>simp[Tree.mkL,Tree.cntL]
   |cons x r ihr=>
    have hr:SizeOf.sizeOf r<m+1:=by simp at hm;omega
    simp only[Tree.cntL]at h ⊢
    have hE:(Tree.mkE x k).2=k+(Tree.cnt x:Int):=by
     obtain⟨op,clause,binds,path,branches,els⟩:=x
     simp only[Tree.cnt]at h ⊢
     have w1:zB.wrap (k+1)=k+1:=ZB (by omega) (by omega)
     have w2:zB.wrap (k+1+1)=k+1+1:=ZB (by omega) (by omega)
     have w3:(PathBind.mkL binds (k+1+1)).2=k+1+1+(PathBind.cntL binds:Int):=PathBind.mkL_snd _ _ (by omega) (by omega)
     have w4:(mkI path (k+1+1+(PathBind.cntL binds:Int))).2=k+1+1+(PathBind.cntL binds:Int)+(cntI path:Int):=ZCh _ _ (by omega) (by omega)
     have w5:(Branch.mkL branches (k+1+1+(PathBind.cntL binds:Int)+(cntI path:Int))).2=k+1+1+(PathBind.cntL binds:Int)+(cntI path:Int)+(Branch.cntL branches:Int):=ih.2 _ _ (by simp at hm;omega) (by omega) (by omega)
     have w6:(Tree.mkL els (k+1+1+(PathBind.cntL binds:Int)+(cntI path:Int)+(Branch.cntL branches:Int))).2=k+1+1+(PathBind.cntL binds:Int)+(cntI path:Int)+(Branch.cntL branches:Int)+(Tree.cntL els:Int):=ih.1 _ _ (by simp at hm;omega) (by omega) (by omega)
     simp only[Tree.mkE,w1,w2,w3,w4,w5,w6]
     omega
    rw[Tree.mkL]
    simp only[hE]
    rw[ihr (k+(Tree.cnt x:Int)) hr (by omega) (by omega)]
    omega
  ·intro l k hm h0 h
   induction l generalizing k with
   |nil=>simp[Branch.mkL,Branch.cntL]
   |cons x r ihr=>
    have hr:SizeOf.sizeOf r<m+1:=by simp at hm;omega
    simp only[Branch.cntL]at h ⊢
    have hE:(Branch.mkE x k).2=k+(Branch.cnt x:Int):=by
     obtain⟨ctor,n,m,⟨tree_op,tree_clause,tree_binds,tree_path,tree_branches,tree_els⟩⟩:=x
     simp only[Branch.cnt,Tree.cnt]at h ⊢
     have w1:zB.wrap (k+1)=k+1:=ZB (by omega) (by omega)
     have w2:zB.wrap (k+1+1)=k+1+1:=ZB (by omega) (by omega)
     have w3:zB.wrap (k+1+1+1)=k+1+1+1:=ZB (by omega) (by omega)
     have w4:zB.wrap (k+1+1+1+1)=k+1+1+1+1:=ZB (by omega) (by omega)
     have w5:zB.wrap (k+1+1+1+1+1)=k+1+1+1+1+1:=ZB (by omega) (by omega)
     have w6:(PathBind.mkL tree_binds (k+1+1+1+1+1)).2=k+1+1+1+1+1+(PathBind.cntL tree_binds:Int):=PathBind.mkL_snd _ _ (by omega) (by omega)
     have w7:(mkI tree_path (k+1+1+1+1+1+(PathBind.cntL tree_binds:Int))).2=k+1+1+1+1+1+(PathBind.cntL tree_binds:Int)+(cntI tree_path:Int):=ZCh _ _ (by omega) (by omega)
     have w8:(Branch.mkL tree_branches (k+1+1+1+1+1+(PathBind.cntL tree_binds:Int)+(cntI tree_path:Int))).2=k+1+1+1+1+1+(PathBind.cntL tree_binds:Int)+(cntI tree_path:Int)+(Branch.cntL tree_branches:Int):=ih.2 _ _ (by simp at hm;omega) (by omega) (by omega)
     have w9:(Tree.mkL tree_els (k+1+1+1+1+1+(PathBind.cntL tree_binds:Int)+(cntI tree_path:Int)+(Branch.cntL tree_branches:Int))).2=k+1+1+1+1+1+(PathBind.cntL tree_binds:Int)+(cntI tree_path:Int)+(Branch.cntL tree_branches:Int)+(Tree.cntL tree_els:Int):=ih.1 _ _ (by simp at hm;omega) (by omega) (by omega)
     simp only[Branch.mkE,Tree.mkE,w1,w2,w3,w4,w5,w6,w7,w8,w9]
     omega
    rw[Branch.mkL]
    simp only[hE]
    rw[ihr (k+(Branch.cnt x:Int)) hr (by omega) (by omega)]
    omega
theorem Tree.mkL_snd (l:List Tree)(k:Int)(h0:0<=k)(h:k+(Tree.cntL l:Int)<=9223372036854775807):(Tree.mkL l k).2=k+(Tree.cntL l:Int):=(Tree.mk_sndA (SizeOf.sizeOf l+1)).1 l k (Nat.lt_succ_self _) h0 h
theorem Branch.mkL_snd (l:List (BranchOf Tree))(k:Int)(h0:0<=k)(h:k+(Branch.cntL l:Int)<=9223372036854775807):(Branch.mkL l k).2=k+(Branch.cntL l:Int):=(Tree.mk_sndA (SizeOf.sizeOf l+1)).2 l k (Nat.lt_succ_self _) h0 h
def Edge.cnt :Edge->Nat
 |⟨_,_,_,_⟩=>4
def Edge.cntL :List Edge->Nat
 | []=>0
 |x::r=>Edge.cnt x+Edge.cntL r
theorem Edge.mk_sndA :∀m:Nat,(∀(l:List Edge) (k:Int),SizeOf.sizeOf l<m->0<=k->k+(Edge.cntL l:Int)<=9223372036854775807->(Edge.mkL l k).2=k+(Edge.cntL l:Int)):=by
 intro m
 induction m with
 |zero=>exact fun l k h=>absurd h (zA _)
 |succ m ih=>
  intro l k hm h0 h
  induction l generalizing k with
  |nil=>simp[Edge.mkL,Edge.cntL]
  |cons x r ihr=>
   have hr:SizeOf.sizeOf r<m+1:=by simp at hm;omega
   simp only[Edge.cntL]at h ⊢
   have hE:(Edge.mkE x k).2=k+(Edge.cnt x:Int):=by
    obtain⟨ctor,n,m,to⟩:=x
    simp only[Edge.cnt]at h ⊢
    have w1:zB.wrap (k+1)=k+1:=ZB (by omega) (by omega)
    have w2:zB.wrap (k+1+1)=k+1+1:=ZB (by omega) (by omega)
    have w3:zB.wrap (k+1+1+1)=k+1+1+1:=ZB (by omega) (by omega)
    have w4:zB.wrap (k+1+1+1+1)=k+1+1+1+1:=ZB (by omega) (by omega)
    simp only[Edge.mkE,w1,w2,w3,w4]
    omega
   rw[Edge.mkL]
   simp only[hE]
   rw[ihr (k+(Edge.cnt x:Int)) hr (by omega) (by omega)]
   omega
theorem Edge.mkL_snd (l:List Edge)(k:Int)(h0:0<=k)(h:k+(Edge.cntL l:Int)<=9223372036854775807):(Edge.mkL l k).2=k+(Edge.cntL l:Int):=(Edge.mk_sndA (SizeOf.sizeOf l+1)) l k (Nat.lt_succ_self _) h0 h
def Node.cnt :Node->Nat
 |⟨_,_,binds,path,edges,_⟩=>3+PathBind.cntL binds+cntI path+Edge.cntL edges
def Node.cntL :List Node->Nat
 | []=>0
 |x::r=>Node.cnt x+Node.cntL r
theorem Node.mk_sndA :∀m:Nat,(∀(l:List Node) (k:Int),SizeOf.sizeOf l<m->0<=k->k+(Node.cntL l:Int)<=9223372036854775807->(Node.mkL l k).2=k+(Node.cntL l:Int)):=by
 intro m
 induction m with
 |zero=>exact fun l k h=>absurd h (zA _)
 |succ m ih=>
  intro l k hm h0 h
  induction l generalizing k with
  |nil=>simp[Node.mkL,Node.cntL]
  |cons x r ihr=>
   have hr:SizeOf.sizeOf r<m+1:=by simp at hm;omega
   simp only[Node.cntL]at h ⊢
   have hE:(Node.mkE x k).2=k+(Node.cnt x:Int):=by
    obtain⟨op,clause,binds,path,edges,els⟩:=x
    simp only[Node.cnt]at h ⊢
    have w1:zB.wrap (k+1)=k+1:=ZB (by omega) (by omega)
    have w2:zB.wrap (k+1+1)=k+1+1:=ZB (by omega) (by omega)
    have w3:(PathBind.mkL binds (k+1+1)).2=k+1+1+(PathBind.cntL binds:Int):=PathBind.mkL_snd _ _ (by omega) (by omega)
    have w4:(mkI path (k+1+1+(PathBind.cntL binds:Int))).2=k+1+1+(PathBind.cntL binds:Int)+(cntI path:Int):=ZCh _ _ (by omega) (by omega)
    have w5:(Edge.mkL edges (k+1+1+(PathBind.cntL binds:Int)+(cntI path:Int))).2=k+1+1+(PathBind.cntL binds:Int)+(cntI path:Int)+(Edge.cntL edges:Int):=Edge.mkL_snd _ _ (by omega) (by omega)
    have w6:zB.wrap (k+1+1+(PathBind.cntL binds:Int)+(cntI path:Int)+(Edge.cntL edges:Int)+1)=k+1+1+(PathBind.cntL binds:Int)+(cntI path:Int)+(Edge.cntL edges:Int)+1:=ZB (by omega) (by omega)
    simp only[Node.mkE,w1,w2,w3,w4,w5,w6]
    omega
   rw[Node.mkL]
   simp only[hE]
   rw[ihr (k+(Node.cnt x:Int)) hr (by omega) (by omega)]
   omega
theorem Node.mkL_snd (l:List Node)(k:Int)(h0:0<=k)(h:k+(Node.cntL l:Int)<=9223372036854775807):(Node.mkL l k).2=k+(Node.cntL l:Int):=(Node.mk_sndA (SizeOf.sizeOf l+1)) l k (Nat.lt_succ_self _) h0 h
def Step.cnt :Step->Nat
 |⟨_,path,_,_,_,_,binds,_⟩=>6+cntI path+PathBind.cntL binds
def Step.cntL :List Step->Nat
 | []=>0
 |x::r=>Step.cnt x+Step.cntL r
theorem Step.mk_sndA :∀m:Nat,(∀(l:List Step) (k:Int),SizeOf.sizeOf l<m->0<=k->k+(Step.cntL l:Int)<=9223372036854775807->(Step.mkL l k).2=k+(Step.cntL l:Int)):=by
 intro m
 induction m with
 |zero=>exact fun l k h=>absurd h (zA _)
 |succ m ih=>
  intro l k hm h0 h
  induction l generalizing k with
  |nil=>simp[Step.mkL,Step.cntL]
  |cons x r ihr=>
   have hr:SizeOf.sizeOf r<m+1:=by simp at hm;omega
   simp only[Step.cntL]at h ⊢
   have hE:(Step.mkE x k).2=k+(Step.cnt x:Int):=by
    obtain⟨op,path,ctor,n,m,clause,binds,to⟩:=x
    simp only[Step.cnt]at h ⊢
    have w1:zB.wrap (k+1)=k+1:=ZB (by omega) (by omega)
    have w2:(mkI path (k+1)).2=k+1+(cntI path:Int):=ZCh _ _ (by omega) (by omega)
    have w3:zB.wrap (k+1+(cntI path:Int)+1)=k+1+(cntI path:Int)+1:=ZB (by omega) (by omega)
    have w4:zB.wrap (k+1+(cntI path:Int)+1+1)=k+1+(cntI path:Int)+1+1:=ZB (by omega) (by omega)
    have w5:zB.wrap (k+1+(cntI path:Int)+1+1+1)=k+1+(cntI path:Int)+1+1+1:=ZB (by omega) (by omega)
    have w6:zB.wrap (k+1+(cntI path:Int)+1+1+1+1)=k+1+(cntI path:Int)+1+1+1+1:=ZB (by omega) (by omega)
    have w7:(PathBind.mkL binds (k+1+(cntI path:Int)+1+1+1+1)).2=k+1+(cntI path:Int)+1+1+1+1+(PathBind.cntL binds:Int):=PathBind.mkL_snd _ _ (by omega) (by omega)
    have w8:zB.wrap (k+1+(cntI path:Int)+1+1+1+1+(PathBind.cntL binds:Int)+1)=k+1+(cntI path:Int)+1+1+1+1+(PathBind.cntL binds:Int)+1:=ZB (by omega) (by omega)
    simp only[Step.mkE,w1,w2,w3,w4,w5,w6,w7,w8]
    omega
   rw[Step.mkL]
   simp only[hE]
   rw[ihr (k+(Step.cnt x:Int)) hr (by omega) (by omega)]
   omega
theorem Step.mkL_snd (l:List Step)(k:Int)(h0:0<=k)(h:k+(Step.cntL l:Int)<=9223372036854775807):(Step.mkL l k).2=k+(Step.cntL l:Int):=(Step.mk_sndA (SizeOf.sizeOf l+1)) l k (Nat.lt_succ_self _) h0 h
theorem ZDf (l:List Int):cntI l<=9*wtL (fun _=>0) l:=by rw[ZIf];simp only[cntI];omega
theorem Ty.cnt_leA :∀m:Nat,(∀(l:List Ty),SizeOf.sizeOf l<m->Ty.cntL l<=9*wtL Ty.wt l):=by
 intro m
 induction m with
 |zero=>exact fun l h=>absurd h (zA _)
 |succ m ih=>
  intro l hm
  induction l with
  |nil=>simp[Ty.cntL]
  |cons x r ihr=>
   have hr:SizeOf.sizeOf r<m+1:=by simp at hm;omega
   have h1:=ihr hr
   simp only[Ty.cntL,ZT]
   have hE:Ty.cnt x<=9+9*Ty.wt x:=by
    obtain⟨data,index⟩:=x
    simp only[Ty.cnt]
    simp only[Ty.wt]
    omega
   omega
theorem Ty.cntL_le (l:List Ty):Ty.cntL l<=9*wtL Ty.wt l:=(Ty.cnt_leA (SizeOf.sizeOf l+1)) l (Nat.lt_succ_self _)
theorem Ctor.cnt_leA :∀m:Nat,(∀(l:List Ctor),SizeOf.sizeOf l<m->Ctor.cntL l<=9*wtL Ctor.wt l):=by
 intro m
 induction m with
 |zero=>exact fun l h=>absurd h (zA _)
 |succ m ih=>
  intro l hm
  induction l with
  |nil=>simp[Ctor.cntL]
  |cons x r ihr=>
   have hr:SizeOf.sizeOf r<m+1:=by simp at hm;omega
   have h1:=ihr hr
   simp only[Ctor.cntL,ZT]
   have hE:Ctor.cnt x<=9+9*Ctor.wt x:=by
    obtain⟨name,args,index⟩:=x
    have c1:=Ty.cntL_le args
    simp only[Ctor.cnt]
    simp only[Ctor.wt]
    omega
   omega
theorem Ctor.cntL_le (l:List Ctor):Ctor.cntL l<=9*wtL Ctor.wt l:=(Ctor.cnt_leA (SizeOf.sizeOf l+1)) l (Nat.lt_succ_self _)
theorem Data.cnt_leA :∀m:Nat,(∀(l:List Data),SizeOf.sizeOf l<m->Data.cntL l<=9*wtL Data.wt l):=by
 intro m
 induction m with
 |zero=>exact fun l h=>absurd h (zA _)
 |succ m ih=>
  intro l hm
  induction l with
  |nil=>simp[Data.cntL]
  |cons x r ihr=>
   have hr:SizeOf.sizeOf r<m+1:=by simp at hm;omega
   have h1:=ihr hr
   simp only[Data.cntL,ZT]
   have hE:Data.cnt x<=9+9*Data.wt x:=by
    obtain⟨name,ctors⟩:=x
    have c1:=Ctor.cntL_le ctors
    simp only[Data.cnt]
    simp only[Data.wt]
    omega
   omega
theorem Data.cntL_le (l:List Data):Data.cntL l<=9*wtL Data.wt l:=(Data.cnt_leA (SizeOf.sizeOf l+1)) l (Nat.lt_succ_self _)
theorem Value.cnt_leA :∀m:Nat,(∀(l:List Value),SizeOf.sizeOf l<m->Value.cntL l<=9*wtL Value.wt l):=by
 intro m
 induction m with
 |zero=>exact fun l h=>absurd h (zA _)
 |succ m ih=>
  intro l hm
  induction l with
  |nil=>simp[Value.cntL]
  |cons x r ihr=>
   have hr:SizeOf.sizeOf r<m+1:=by simp at hm;omega
   have h1:=ihr hr
   simp only[Value.cntL,ZT]
   have hE:Value.cnt x<=9+9*Value.wt x:=by
    obtain⟨ctor,n,kids⟩:=x
    have c1:=ih kids (by simp at hm;omega)
    simp only[Value.cnt]
    simp only[Value.wt_eq]
    omega
   omega
theorem Value.cntL_le (l:List Value):Value.cntL l<=9*wtL Value.wt l:=(Value.cnt_leA (SizeOf.sizeOf l+1)) l (Nat.lt_succ_self _)
theorem Pattern.cnt_leA :∀m:Nat,(∀(l:List Pattern),SizeOf.sizeOf l<m->Pattern.cntL l<=9*wtL zC l):=by
 intro m
 induction m with
 |zero=>exact fun l h=>absurd h (zA _)
 |succ m ih=>
  intro l hm
  induction l with
  |nil=>simp[Pattern.cntL]
  |cons x r ihr=>
   have hr:SizeOf.sizeOf r<m+1:=by simp at hm;omega
   have h1:=ihr hr
   simp only[Pattern.cntL,ZT]
   have hE:Pattern.cnt x<=9+9*zC x:=by
    obtain⟨op,ctor,n,m,var,kids⟩:=x
    have c1:=ih kids (by simp at hm;omega)
    simp only[Pattern.cnt]
    simp only[zD]
    omega
   omega
theorem Pattern.cntL_le (l:List Pattern):Pattern.cntL l<=9*wtL zC l:=(Pattern.cnt_leA (SizeOf.sizeOf l+1)) l (Nat.lt_succ_self _)
theorem Guard.cnt_leA :∀m:Nat,(∀(l:List Guard),SizeOf.sizeOf l<m->Guard.cntL l<=9*wtL zF l):=by
 intro m
 induction m with
 |zero=>exact fun l h=>absurd h (zA _)
 |succ m ih=>
  intro l hm
  induction l with
  |nil=>simp[Guard.cntL]
  |cons x r ihr=>
   have hr:SizeOf.sizeOf r<m+1:=by simp at hm;omega
   have h1:=ihr hr
   simp only[Guard.cntL,ZT]
   have hE:Guard.cnt x<=9+9*zF x:=by
    obtain⟨op,var,n⟩:=x
    simp only[Guard.cnt]
    simp only[zF]
    omega
   omega
theorem Guard.cntL_le (l:List Guard):Guard.cntL l<=9*wtL zF l:=(Guard.cnt_leA (SizeOf.sizeOf l+1)) l (Nat.lt_succ_self _)
theorem Clause.cnt_leA :∀m:Nat,(∀(l:List Clause),SizeOf.sizeOf l<m->Clause.cntL l<=9*wtL Clause.wt l):=by
 intro m
 induction m with
 |zero=>exact fun l h=>absurd h (zA _)
 |succ m ih=>
  intro l hm
  induction l with
  |nil=>simp[Clause.cntL]
  |cons x r ihr=>
   have hr:SizeOf.sizeOf r<m+1:=by simp at hm;omega
   have h1:=ihr hr
   simp only[Clause.cntL,ZT]
   have hE:Clause.cnt x<=9+9*Clause.wt x:=by
    obtain⟨⟨pat_op,pat_ctor,pat_n,pat_m,pat_var,pat_kids⟩,⟨guard_op,guard_var,guard_n⟩⟩:=x
    have c1:=Pattern.cntL_le pat_kids
    simp only[Clause.cnt,Pattern.cnt,Guard.cnt]
    simp only[Clause.wt,zD,zF]
    omega
   omega
theorem Clause.cntL_le (l:List Clause):Clause.cntL l<=9*wtL Clause.wt l:=(Clause.cnt_leA (SizeOf.sizeOf l+1)) l (Nat.lt_succ_self _)
theorem FunType.cnt_leA :∀m:Nat,(∀(l:List FunType),SizeOf.sizeOf l<m->FunType.cntL l<=9*wtL FunType.wt l):=by
 intro m
 induction m with
 |zero=>exact fun l h=>absurd h (zA _)
 |succ m ih=>
  intro l hm
  induction l with
  |nil=>simp[FunType.cntL]
  |cons x r ihr=>
   have hr:SizeOf.sizeOf r<m+1:=by simp at hm;omega
   have h1:=ihr hr
   simp only[FunType.cntL,ZT]
   have hE:FunType.cnt x<=9+9*FunType.wt x:=by
    obtain⟨⟨arg_data,arg_index⟩,⟨res_data,res_index⟩⟩:=x
    simp only[FunType.cnt,Ty.cnt]
    simp only[FunType.wt,Ty.wt]
    omega
   omega
theorem FunType.cntL_le (l:List FunType):FunType.cntL l<=9*wtL FunType.wt l:=(FunType.cnt_leA (SizeOf.sizeOf l+1)) l (Nat.lt_succ_self _)
theorem VarType.cnt_leA :∀m:Nat,(∀(l:List VarType),SizeOf.sizeOf l<m->VarType.cntL l<=9*wtL zH l):=by
 intro m
 induction m with
 |zero=>exact fun l h=>absurd h (zA _)
 |succ m ih=>
  intro l hm
  induction l with
  |nil=>simp[VarType.cntL]
  |cons x r ihr=>
   have hr:SizeOf.sizeOf r<m+1:=by simp at hm;omega
   have h1:=ihr hr
   simp only[VarType.cntL,ZT]
   have hE:VarType.cnt x<=9+9*zH x:=by
    obtain⟨var,⟨type_data,type_index⟩⟩:=x
    simp only[VarType.cnt,Ty.cnt]
    simp only[zH,Ty.wt]
    omega
   omega
theorem VarType.cntL_le (l:List VarType):VarType.cntL l<=9*wtL zH l:=(VarType.cnt_leA (SizeOf.sizeOf l+1)) l (Nat.lt_succ_self _)
theorem Expr.cnt_leA :∀m:Nat,(∀(l:List Expr),SizeOf.sizeOf l<m->Expr.cntL l<=9*wtL Expr.wt l):=by
 intro m
 induction m with
 |zero=>exact fun l h=>absurd h (zA _)
 |succ m ih=>
  intro l hm
  induction l with
  |nil=>simp[Expr.cntL]
  |cons x r ihr=>
   have hr:SizeOf.sizeOf r<m+1:=by simp at hm;omega
   have h1:=ihr hr
   simp only[Expr.cntL,ZT]
   have hE:Expr.cnt x<=9+9*Expr.wt x:=by
    obtain⟨op,n,ctor,kids⟩:=x
    have c1:=ih kids (by simp at hm;omega)
    simp only[Expr.cnt]
    simp only[Expr.wt_eq]
    omega
   omega
theorem Expr.cntL_le (l:List Expr):Expr.cntL l<=9*wtL Expr.wt l:=(Expr.cnt_leA (SizeOf.sizeOf l+1)) l (Nat.lt_succ_self _)
theorem Fun.cnt_leA :∀m:Nat,(∀(l:List Fun),SizeOf.sizeOf l<m->Fun.cntL l<=9*wtL Fun.wt l):=by
 intro m
 induction m with
 |zero=>exact fun l h=>absurd h (zA _)
 |succ m ih=>
  intro l hm
  induction l with
  |nil=>simp[Fun.cntL]
  |cons x r ihr=>
   have hr:SizeOf.sizeOf r<m+1:=by simp at hm;omega
   have h1:=ihr hr
   simp only[Fun.cntL,ZT]
   have hE:Fun.cnt x<=9+9*Fun.wt x:=by
    obtain⟨⟨⟨type_arg_data,type_arg_index⟩,⟨type_res_data,type_res_index⟩⟩,clauses,bodies⟩:=x
    have c1:=Clause.cntL_le clauses
    have c2:=Expr.cntL_le bodies
    simp only[Fun.cnt,FunType.cnt,Ty.cnt]
    simp only[Fun.wt,FunType.wt,Ty.wt]
    omega
   omega
theorem Fun.cntL_le (l:List Fun):Fun.cntL l<=9*wtL Fun.wt l:=(Fun.cnt_leA (SizeOf.sizeOf l+1)) l (Nat.lt_succ_self _)
theorem Bind.cnt_leA :∀m:Nat,(∀(l:List Bind),SizeOf.sizeOf l<m->Bind.cntL l<=9*wtL Bind.wt l):=by
 intro m
 induction m with
 |zero=>exact fun l h=>absurd h (zA _)
 |succ m ih=>
  intro l hm
  induction l with
  |nil=>simp[Bind.cntL]
  |cons x r ihr=>
   have hr:SizeOf.sizeOf r<m+1:=by simp at hm;omega
   have h1:=ihr hr
   simp only[Bind.cntL,ZT]
   have hE:Bind.cnt x<=9+9*Bind.wt x:=by
    obtain⟨var,⟨value_ctor,value_n,value_kids⟩⟩:=x
    have c1:=Value.cntL_le value_kids
    simp only[Bind.cnt,Value.cnt]
    simp only[Bind.wt,Value.wt_eq]
    omega
   omega
theorem Bind.cntL_le (l:List Bind):Bind.cntL l<=9*wtL Bind.wt l:=(Bind.cnt_leA (SizeOf.sizeOf l+1)) l (Nat.lt_succ_self _)
theorem PathBind.cnt_leA :∀m:Nat,(∀(l:List PathBind),SizeOf.sizeOf l<m->PathBind.cntL l<=9*wtL zJ l):=by
 intro m
 induction m with
 |zero=>exact fun l h=>absurd h (zA _)
 |succ m ih=>
  intro l hm
  induction l with
  |nil=>simp[PathBind.cntL]
  |cons x r ihr=>
   have hr:SizeOf.sizeOf r<m+1:=by simp at hm;omega
   have h1:=ihr hr
   simp only[PathBind.cntL,ZT]
   have hE:PathBind.cnt x<=9+9*zJ x:=by
    obtain⟨var,path⟩:=x
    have c1:=ZDf path
    simp only[PathBind.cnt]
    simp only[zJ]
    omega
   omega
theorem PathBind.cntL_le (l:List PathBind):PathBind.cntL l<=9*wtL zJ l:=(PathBind.cnt_leA (SizeOf.sizeOf l+1)) l (Nat.lt_succ_self _)
theorem Tree.cnt_leA :∀m:Nat,(∀(l:List Tree),SizeOf.sizeOf l<m->Tree.cntL l<=9*wtL Tree.wt l)/\(∀(l:List (BranchOf Tree)),SizeOf.sizeOf l<m->Branch.cntL l<=9*wtL Branch.wt l):=by
 intro m
 induction m with
 |zero=>exact⟨fun l h=>absurd h (zA _),fun l h=>absurd h (zA _)⟩
 |succ m ih=>
  refine⟨?_,?_⟩
  ·intro l hm
   induction l with
   |nil=>simp[Tree.cntL]
   |cons x r ihr=>
    have hr:SizeOf.sizeOf r<m+1:=by simp at hm;omega
    have h1:=ihr hr
    simp only[Tree.cntL,ZT]
    have hE:Tree.cnt x<=9+9*Tree.wt x:=by
     obtain⟨op,clause,binds,path,branches,els⟩:=x
     have c1:=PathBind.cntL_le binds
     have c2:=ZDf path
     have c3:=ih.2 branches (by simp at hm;omega)
     have c4:=ih.1 els (by simp at hm;omega)
     simp only[Tree.cnt]
     simp only[Tree.wt_eq]
     omega
    omega
  ·intro l hm
   induction l with
   |nil=>simp[Branch.cntL]
   |cons x r ihr=>
    have hr:SizeOf.sizeOf r<m+1:=by simp at hm;omega
    have h1:=ihr hr
    simp only[Branch.cntL,ZT]
    have hE:Branch.cnt x<=9+9*Branch.wt x:=by
     obtain⟨ctor,n,m,⟨tree_op,tree_clause,tree_binds,tree_path,tree_branches,tree_els⟩⟩:=x
     have c1:=PathBind.cntL_le tree_binds
     have c2:=ZDf tree_path
     have c3:=ih.2 tree_branches (by simp at hm;omega)
     have c4:=ih.1 tree_els (by simp at hm;omega)
     simp only[Branch.cnt,Tree.cnt]
     simp only[Branch.wt,Tree.wt_eq]
     omega
    omega
theorem Tree.cntL_le (l:List Tree):Tree.cntL l<=9*wtL Tree.wt l:=(Tree.cnt_leA (SizeOf.sizeOf l+1)).1 l (Nat.lt_succ_self _)
theorem Branch.cntL_le (l:List (BranchOf Tree)):Branch.cntL l<=9*wtL Branch.wt l:=(Tree.cnt_leA (SizeOf.sizeOf l+1)).2 l (Nat.lt_succ_self _)
theorem Edge.cnt_leA :∀m:Nat,(∀(l:List Edge),SizeOf.sizeOf l<m->Edge.cntL l<=9*wtL Edge.wt l):=by
 intro m
 induction m with
 |zero=>exact fun l h=>absurd h (zA _)
 |succ m ih=>
  intro l hm
  induction l with
  |nil=>simp[Edge.cntL]
  |cons x r ihr=>
   have hr:SizeOf.sizeOf r<m+1:=by simp at hm;omega
   have h1:=ihr hr
   simp only[Edge.cntL,ZT]
   have hE:Edge.cnt x<=9+9*Edge.wt x:=by
    obtain⟨ctor,n,m,to⟩:=x
    simp only[Edge.cnt]
    simp only[Edge.wt]
    omega
   omega
theorem Edge.cntL_le (l:List Edge):Edge.cntL l<=9*wtL Edge.wt l:=(Edge.cnt_leA (SizeOf.sizeOf l+1)) l (Nat.lt_succ_self _)
theorem Node.cnt_leA :∀m:Nat,(∀(l:List Node),SizeOf.sizeOf l<m->Node.cntL l<=9*wtL Node.wt l):=by
 intro m
 induction m with
 |zero=>exact fun l h=>absurd h (zA _)
 |succ m ih=>
  intro l hm
  induction l with
  |nil=>simp[Node.cntL]
  |cons x r ihr=>
   have hr:SizeOf.sizeOf r<m+1:=by simp at hm;omega
   have h1:=ihr hr
   simp only[Node.cntL,ZT]
   have hE:Node.cnt x<=9+9*Node.wt x:=by
    obtain⟨op,clause,binds,path,edges,els⟩:=x
    have c1:=PathBind.cntL_le binds
    have c2:=ZDf path
    have c3:=Edge.cntL_le edges
    simp only[Node.cnt]
    simp only[Node.wt]
    omega
   omega
theorem Node.cntL_le (l:List Node):Node.cntL l<=9*wtL Node.wt l:=(Node.cnt_leA (SizeOf.sizeOf l+1)) l (Nat.lt_succ_self _)
theorem Step.cnt_leA :∀m:Nat,(∀(l:List Step),SizeOf.sizeOf l<m->Step.cntL l<=9*wtL Step.wt l):=by
 intro m
 induction m with
 |zero=>exact fun l h=>absurd h (zA _)
 |succ m ih=>
  intro l hm
  induction l with
  |nil=>simp[Step.cntL]
  |cons x r ihr=>
   have hr:SizeOf.sizeOf r<m+1:=by simp at hm;omega
   have h1:=ihr hr
   simp only[Step.cntL,ZT]
   have hE:Step.cnt x<=9+9*Step.wt x:=by
    obtain⟨op,path,ctor,n,m,clause,binds,to⟩:=x
    have c1:=ZDf path
    have c2:=PathBind.cntL_le binds
    simp only[Step.cnt]
    simp only[Step.wt]
    omega
   omega
theorem Step.cntL_le (l:List Step):Step.cntL l<=9*wtL Step.wt l:=(Step.cnt_leA (SizeOf.sizeOf l+1)) l (Nat.lt_succ_self _)
end Go.Vl
