/- Part. -/
import Derived.Test.YtnockmfobogfpaaGreatVlDeep
import Derived.Test.YtnockmfobogfpaaGreatVlQ
set_option linter.all false
open Nat renaming not_lt_zero->zA
namespace Go.Vl
open Go
open Go.IntKind renaming i64->zB
open Pattern renaming wt->zC,wt_eq->zD,c->zE
def mkI :List Int->Int->List Int×Int
 | [],k=>([],k)
 |_::r,k=>let b:=mkI r (zB.wrap (k+1));(k::b.1,b.2)
theorem ZHW :∀(l:List Int) (k:Int),(mkI l k).1.length=l.length
 | [],_=>rfl
 |_::r,k=>by simp[mkI,ZHW r]
def ZDI :List (List Int)->Int->List (List Int)×Int
 | [],k=>([],k)
 |x::r,k=>let a:=mkI x k;let b:=ZDI r a.2;(a.1::b.1,b.2)
theorem ZFQ :∀(l:List (List Int)) (k:Int),(ZDI l k).1.length=l.length
 | [],_=>rfl
 |x::r,k=>by simp[ZDI,ZFQ r]
def Ty.mkE :Ty->Int->Ty×Int
 |⟨_,_⟩,k=>(⟨k,zB.wrap (k+1)⟩,zB.wrap ((zB.wrap (k+1))+1))
def Ty.mkL :List Ty->Int->List Ty×Int
 | [],k=>([],k)
 |x::r,k=>let a:=Ty.mkE x k;let b:=Ty.mkL r a.2;(a.1::b.1,b.2)
theorem Ty.mkL_len :∀(l:List Ty) (k:Int),(Ty.mkL l k).1.length=l.length
 | [],_=>by rw[Ty.mkL]
 |x::r,k=>by rw[Ty.mkL];simp[Ty.mkL_len r]
theorem Ty.c_len (x:Ty):(Ty.c x).length=2:=by simp
theorem Ty.lits_c (s:List Ty):∃us:List Go.Value,(s.map Ty.c).flatten=us.map .lit:=ZDt (fun x=>⟨[.int .i64 x.data,.int .i64 x.index],by simp⟩) s
def Ctor.mkE (mt:Int->ByteArray):Ctor->Int->Ctor×Int
 |⟨_,args,_⟩,k=>let a1:=Ty.mkL args (zB.wrap (k+1));(⟨mt k,a1.1,a1.2⟩,zB.wrap (a1.2+1))
def Ctor.mkL (mt:Int->ByteArray):List Ctor->Int->List Ctor×Int
 | [],k=>([],k)
 |x::r,k=>let a:=Ctor.mkE mt x k;let b:=Ctor.mkL mt r a.2;(a.1::b.1,b.2)
theorem Ctor.mkL_len (mt:Int->ByteArray):∀(l:List Ctor) (k:Int),(Ctor.mkL mt l k).1.length=l.length
 | [],_=>by rw[Ctor.mkL]
 |x::r,k=>by rw[Ctor.mkL];simp[Ctor.mkL_len mt r]
theorem Ctor.c_len (x:Ctor):(Ctor.c x).length=3:=by simp
def Data.mkE (mt:Int->ByteArray):Data->Int->Data×Int
 |⟨_,ctors⟩,k=>let a1:=Ctor.mkL mt ctors (zB.wrap (k+1));(⟨mt k,a1.1⟩,a1.2)
def Data.mkL (mt:Int->ByteArray):List Data->Int->List Data×Int
 | [],k=>([],k)
 |x::r,k=>let a:=Data.mkE mt x k;let b:=Data.mkL mt r a.2;(a.1::b.1,b.2)
theorem Data.mkL_len (mt:Int->ByteArray):∀(l:List Data) (k:Int),(Data.mkL mt l k).1.length=l.length
 | [],_=>by rw[Data.mkL]
 |x::r,k=>by rw[Data.mkL];simp[Data.mkL_len mt r]
theorem Data.c_len (x:Data):(Data.c x).length=2:=by simp
mutual
def Value.mkE :Value->Int->Value×Int
 |⟨_,_,kids⟩,k=>let a1:=Value.mkL kids (zB.wrap ((zB.wrap (k+1))+1));(⟨k,zB.wrap (k+1),a1.1⟩,a1.2)
def Value.mkL :List Value->Int->List Value×Int
 | [],k=>([],k)
 |x::r,k=>let a:=Value.mkE x k;let b:=Value.mkL r a.2;(a.1::b.1,b.2)
end
theorem Value.mkL_len :∀(l:List Value) (k:Int),(Value.mkL l k).1.length=l.length
 | [],_=>by rw[Value.mkL]
 |x::r,k=>by rw[Value.mkL];simp[Value.mkL_len r]
theorem Value.c_len (x:Value):(Value.c x).length=3:=by simp
mutual
def Pattern.mkE :Pattern->Int->Pattern×Int
 |⟨_,_,_,_,_,kids⟩,k=>let a1:=Pattern.mkL kids (zB.wrap ((zB.wrap ((zB.wrap ((zB.wrap ((zB.wrap (k+1))+1))+1))+1))+1));(⟨k,zB.wrap (k+1),zB.wrap ((zB.wrap (k+1))+1),zB.wrap ((zB.wrap ((zB.wrap (k+1))+1))+1),zB.wrap ((zB.wrap ((zB.wrap ((zB.wrap (k+1))+1))+1))+1),a1.1⟩,a1.2)
def Pattern.mkL :List Pattern->Int->List Pattern×Int
 | [],k=>([],k)
 |x::r,k=>let a:=Pattern.mkE x k;let b:=Pattern.mkL r a.2;(a.1::b.1,b.2)
end
theorem Pattern.mkL_len :∀(l:List Pattern) (k:Int),(Pattern.mkL l k).1.length=l.length
 | [],_=>by rw[Pattern.mkL]
 |x::r,k=>by rw[Pattern.mkL];simp[Pattern.mkL_len r]
theorem Pattern.c_len (x:Pattern):(zE x).length=6:=by simp
def Guard.mkE :Guard->Int->Guard×Int
 |⟨_,_,_⟩,k=>(⟨k,zB.wrap (k+1),zB.wrap ((zB.wrap (k+1))+1)⟩,zB.wrap ((zB.wrap ((zB.wrap (k+1))+1))+1))
def Guard.mkL :List Guard->Int->List Guard×Int
 | [],k=>([],k)
 |x::r,k=>let a:=Guard.mkE x k;let b:=Guard.mkL r a.2;(a.1::b.1,b.2)
def Clause.mkE :Clause->Int->Clause×Int
 |⟨pat,guard⟩,k=>let a1:=Pattern.mkE pat k;let a2:=Guard.mkE guard a1.2;(⟨a1.1,a2.1⟩,a2.2)
def Clause.mkL :List Clause->Int->List Clause×Int
 | [],k=>([],k)
 |x::r,k=>let a:=Clause.mkE x k;let b:=Clause.mkL r a.2;(a.1::b.1,b.2)
theorem Clause.mkL_len :∀(l:List Clause) (k:Int),(Clause.mkL l k).1.length=l.length
 | [],_=>by rw[Clause.mkL]
 |x::r,k=>by rw[Clause.mkL];simp[Clause.mkL_len r]
theorem Clause.c_len (x:Clause):(Clause.c x).length=9:=by simp
def FunType.mkE :FunType->Int->FunType×Int
 |⟨arg,res⟩,k=>let a1:=Ty.mkE arg k;let a2:=Ty.mkE res a1.2;(⟨a1.1,a2.1⟩,a2.2)
def FunType.mkL :List FunType->Int->List FunType×Int
 | [],k=>([],k)
 |x::r,k=>let a:=FunType.mkE x k;let b:=FunType.mkL r a.2;(a.1::b.1,b.2)
def VarType.mkE :VarType->Int->VarType×Int
 |⟨_,type⟩,k=>let a1:=Ty.mkE type (zB.wrap (k+1));(⟨k,a1.1⟩,a1.2)
def VarType.mkL :List VarType->Int->List VarType×Int
 | [],k=>([],k)
 |x::r,k=>let a:=VarType.mkE x k;let b:=VarType.mkL r a.2;(a.1::b.1,b.2)
mutual
def Expr.mkE :Expr->Int->Expr×Int
 |⟨_,_,_,kids⟩,k=>let a1:=Expr.mkL kids (zB.wrap ((zB.wrap ((zB.wrap (k+1))+1))+1));(⟨k,zB.wrap (k+1),zB.wrap ((zB.wrap (k+1))+1),a1.1⟩,a1.2)
def Expr.mkL :List Expr->Int->List Expr×Int
 | [],k=>([],k)
 |x::r,k=>let a:=Expr.mkE x k;let b:=Expr.mkL r a.2;(a.1::b.1,b.2)
end
def Fun.mkE :Fun->Int->Fun×Int
 |⟨type,clauses,bodies⟩,k=>let a1:=FunType.mkE type k;let a2:=Clause.mkL clauses a1.2;let a3:=Expr.mkL bodies a2.2;(⟨a1.1,a2.1,a3.1⟩,a3.2)
def Fun.mkL :List Fun->Int->List Fun×Int
 | [],k=>([],k)
 |x::r,k=>let a:=Fun.mkE x k;let b:=Fun.mkL r a.2;(a.1::b.1,b.2)
def Bind.mkE :Bind->Int->Bind×Int
 |⟨_,value⟩,k=>let a1:=Value.mkE value (zB.wrap (k+1));(⟨k,a1.1⟩,a1.2)
def Bind.mkL :List Bind->Int->List Bind×Int
 | [],k=>([],k)
 |x::r,k=>let a:=Bind.mkE x k;let b:=Bind.mkL r a.2;(a.1::b.1,b.2)
def PathBind.mkE :PathBind->Int->PathBind×Int
 |⟨_,path⟩,k=>let a1:=mkI path (zB.wrap (k+1));(⟨k,a1.1⟩,a1.2)
def PathBind.mkL :List PathBind->Int->List PathBind×Int
 | [],k=>([],k)
 |x::r,k=>let a:=PathBind.mkE x k;let b:=PathBind.mkL r a.2;(a.1::b.1,b.2)
mutual
def Tree.mkE :Tree->Int->Tree×Int
 |⟨_,_,binds,path,branches,els⟩,k=>let a1:=PathBind.mkL binds (zB.wrap ((zB.wrap (k+1))+1));let a2:=mkI path a1.2;let a3:=Branch.mkL branches a2.2;let a4:=Tree.mkL els a3.2;(⟨k,zB.wrap (k+1),a1.1,a2.1,a3.1,a4.1⟩,a4.2)
def Tree.mkL :List Tree->Int->List Tree×Int
 | [],k=>([],k)
 |x::r,k=>let a:=Tree.mkE x k;let b:=Tree.mkL r a.2;(a.1::b.1,b.2)
def Branch.mkE :BranchOf Tree->Int->(BranchOf Tree)×Int
 |⟨_,_,_,tree⟩,k=>let a1:=Tree.mkE tree (zB.wrap ((zB.wrap ((zB.wrap (k+1))+1))+1));(⟨k,zB.wrap (k+1),zB.wrap ((zB.wrap (k+1))+1),a1.1⟩,a1.2)
def Branch.mkL :List (BranchOf Tree)->Int->List (BranchOf Tree)×Int
 | [],k=>([],k)
 |x::r,k=>let a:=Branch.mkE x k;let b:=Branch.mkL r a.2;(a.1::b.1,b.2)
end
def Edge.mkE :Edge->Int->Edge×Int
 |⟨_,_,_,_⟩,k=>(⟨k,zB.wrap (k+1),zB.wrap ((zB.wrap (k+1))+1),zB.wrap ((zB.wrap ((zB.wrap (k+1))+1))+1)⟩,zB.wrap ((zB.wrap ((zB.wrap ((zB.wrap (k+1))+1))+1))+1))
def Edge.mkL :List Edge->Int->List Edge×Int
 | [],k=>([],k)
 |x::r,k=>let a:=Edge.mkE x k;let b:=Edge.mkL r a.2;(a.1::b.1,b.2)
def Node.mkE :Node->Int->Node×Int
 |⟨_,_,binds,path,edges,_⟩,k=>let a1:=PathBind.mkL binds (zB.wrap ((zB.wrap (k+1))+1));let a2:=mkI path a1.2;let a3:=Edge.mkL edges a2.2;(⟨k,zB.wrap (k+1),a1.1,a2.1,a3.1,a3.2⟩,zB.wrap (a3.2+1))
def Node.mkL :List Node->Int->List Node×Int
 | [],k=>([],k)
 |x::r,k=>let a:=Node.mkE x k;let b:=Node.mkL r a.2;(a.1::b.1,b.2)
def Step.mkE :Step->Int->Step×Int
 |⟨_,path,_,_,_,_,binds,_⟩,k=>let a1:=mkI path (zB.wrap (k+1));let a2:=PathBind.mkL binds (zB.wrap ((zB.wrap ((zB.wrap ((zB.wrap (a1.2+1))+1))+1))+1));(⟨k,a1.1,a1.2,zB.wrap (a1.2+1),zB.wrap ((zB.wrap (a1.2+1))+1),zB.wrap ((zB.wrap ((zB.wrap (a1.2+1))+1))+1),a2.1,a2.2⟩,zB.wrap (a2.2+1))
def Step.mkL :List Step->Int->List Step×Int
 | [],k=>([],k)
 |x::r,k=>let a:=Step.mkE x k;let b:=Step.mkL r a.2;(a.1::b.1,b.2)
def cntI (l:List Int):Nat:=l.length
theorem ZHV :∀(l:List Int) (k:Int),0<=k->k+(cntI l:Int)<=9223372036854775807->(mkI l k).2=k+(cntI l:Int)
 | [],k,_,_=>by simp[mkI,cntI]
 |x::r,k,h0,h=>by
  simp only[cntI,List.length_cons]at h ⊢
  have w:zB.wrap (k+1)=k+1:=ZD (by omega) (by omega)
  simp only[mkI,w]
  rw[ZHV r (k+1) (by omega) (by simp only[cntI];omega)]
  simp only[cntI];omega
def cntII :List (List Int)->Nat
 | []=>0
 |x::r=>cntI x+cntII r
theorem ZIc :∀(l:List (List Int)) (k:Int),0<=k->k+(cntII l:Int)<=9223372036854775807->(ZDI l k).2=k+(cntII l:Int)
 | [],k,_,_=>by simp[ZDI,cntII]
 |x::r,k,h0,h=>by
  simp only[cntII]at h ⊢
  simp only[ZDI]
  rw[ZHV x k h0 (by omega),ZIc r _ (by omega) (by omega)]
  omega
def Ty.cnt :Ty->Nat
 |⟨_,_⟩=>2
def Ty.cntL :List Ty->Nat
 | []=>0
 |x::r=>Ty.cnt x+Ty.cntL r
theorem Ty.mk_sndA :∀m:Nat,(∀(l:List Ty) (k:Int),SizeOf.sizeOf l<m->0<=k->k+(Ty.cntL l:Int)<=9223372036854775807->(Ty.mkL l k).2=k+(Ty.cntL l:Int)):=by
 intro m
 induction m with
 |zero=>exact fun l k h=>absurd h (zA _)
 |succ m ih=>
  intro l k hm h0 h
  induction l generalizing k with
  |nil=>simp[Ty.mkL,Ty.cntL]
  |cons x r ihr=>
   have hr:SizeOf.sizeOf r<m+1:=by simp at hm;omega
   simp only[Ty.cntL]at h ⊢
   have hE:(Ty.mkE x k).2=k+(Ty.cnt x:Int):=by
    obtain⟨data,index⟩:=x
    simp only[Ty.cnt]at h ⊢
    have w1:zB.wrap (k+1)=k+1:=ZD (by omega) (by omega)
    have w2:zB.wrap (k+1+1)=k+1+1:=ZD (by omega) (by omega)
    simp only[Ty.mkE,w1,w2]
    omega
   rw[Ty.mkL]
   simp only[hE]
   rw[ihr (k+(Ty.cnt x:Int)) hr (by omega) (by omega)]
   omega
theorem Ty.mkL_snd (l:List Ty)(k:Int)(h0:0<=k)(h:k+(Ty.cntL l:Int)<=9223372036854775807):(Ty.mkL l k).2=k+(Ty.cntL l:Int):=(Ty.mk_sndA (SizeOf.sizeOf l+1)) l k (Nat.lt_succ_self _) h0 h
def Ctor.cnt :Ctor->Nat
 |⟨_,args,_⟩=>2+Ty.cntL args
def Ctor.cntL :List Ctor->Nat
 | []=>0
 |x::r=>Ctor.cnt x+Ctor.cntL r
theorem Ctor.mk_sndA (mt:Int->ByteArray):∀m:Nat,(∀(l:List Ctor) (k:Int),SizeOf.sizeOf l<m->0<=k->k+(Ctor.cntL l:Int)<=9223372036854775807->(Ctor.mkL mt l k).2=k+(Ctor.cntL l:Int)):=by
 intro m
 induction m with
 |zero=>exact fun l k h=>absurd h (zA _)
 |succ m ih=>
  intro l k hm h0 h
  induction l generalizing k with
  |nil=>simp[Ctor.mkL,Ctor.cntL]
  |cons x r ihr=>
   have hr:SizeOf.sizeOf r<m+1:=by simp at hm;omega
   simp only[Ctor.cntL]at h ⊢
   have hE:(Ctor.mkE mt x k).2=k+(Ctor.cnt x:Int):=by
    obtain⟨name,args,index⟩:=x
    simp only[Ctor.cnt]at h ⊢
    have w1:zB.wrap (k+1)=k+1:=ZD (by omega) (by omega)
    have w2:(Ty.mkL args (k+1)).2=k+1+(Ty.cntL args:Int):=Ty.mkL_snd _ _ (by omega) (by omega)
    have w3:zB.wrap (k+1+(Ty.cntL args:Int)+1)=k+1+(Ty.cntL args:Int)+1:=ZD (by omega) (by omega)
    simp only[Ctor.mkE,w1,w2,w3]
    omega
   rw[Ctor.mkL]
   simp only[hE]
   rw[ihr (k+(Ctor.cnt x:Int)) hr (by omega) (by omega)]
   omega
theorem Ctor.mkL_snd (mt:Int->ByteArray)(l:List Ctor)(k:Int)(h0:0<=k)(h:k+(Ctor.cntL l:Int)<=9223372036854775807):(Ctor.mkL mt l k).2=k+(Ctor.cntL l:Int):=(Ctor.mk_sndA mt (SizeOf.sizeOf l+1)) l k (Nat.lt_succ_self _) h0 h
def Data.cnt :Data->Nat
 |⟨_,ctors⟩=>1+Ctor.cntL ctors
def Data.cntL :List Data->Nat
 | []=>0
 |x::r=>Data.cnt x+Data.cntL r
theorem Data.mk_sndA (mt:Int->ByteArray):∀m:Nat,(∀(l:List Data) (k:Int),SizeOf.sizeOf l<m->0<=k->k+(Data.cntL l:Int)<=9223372036854775807->(Data.mkL mt l k).2=k+(Data.cntL l:Int)):=by
 intro m
 induction m with
 |zero=>exact fun l k h=>absurd h (zA _)
 |succ m ih=>
  intro l k hm h0 h
  induction l generalizing k with
  |nil=>simp[Data.mkL,Data.cntL]
  |cons x r ihr=>
   have hr:SizeOf.sizeOf r<m+1:=by simp at hm;omega
   simp only[Data.cntL]at h ⊢
   have hE:(Data.mkE mt x k).2=k+(Data.cnt x:Int):=by
    obtain⟨name,ctors⟩:=x
    simp only[Data.cnt]at h ⊢
    have w1:zB.wrap (k+1)=k+1:=ZD (by omega) (by omega)
    have w2:(Ctor.mkL mt ctors (k+1)).2=k+1+(Ctor.cntL ctors:Int):=Ctor.mkL_snd mt _ _ (by omega) (by omega)
    simp only[Data.mkE,w1,w2]
    omega
   rw[Data.mkL]
   simp only[hE]
   rw[ihr (k+(Data.cnt x:Int)) hr (by omega) (by omega)]
   omega
theorem Data.mkL_snd (mt:Int->ByteArray)(l:List Data)(k:Int)(h0:0<=k)(h:k+(Data.cntL l:Int)<=9223372036854775807):(Data.mkL mt l k).2=k+(Data.cntL l:Int):=(Data.mk_sndA mt (SizeOf.sizeOf l+1)) l k (Nat.lt_succ_self _) h0 h
mutual
def Value.cnt :Value->Nat
 |⟨_,_,kids⟩=>2+Value.cntL kids
def Value.cntL :List Value->Nat
 | []=>0
 |x::r=>Value.cnt x+Value.cntL r
end
theorem Value.mk_sndA :∀m:Nat,(∀(l:List Value) (k:Int),SizeOf.sizeOf l<m->0<=k->k+(Value.cntL l:Int)<=9223372036854775807->(Value.mkL l k).2=k+(Value.cntL l:Int)):=by
 intro m
 induction m with
 |zero=>exact fun l k h=>absurd h (zA _)
 |succ m ih=>
  intro l k hm h0 h
  induction l generalizing k with
  |nil=>simp[Value.mkL,Value.cntL]
  |cons x r ihr=>
   have hr:SizeOf.sizeOf r<m+1:=by simp at hm;omega
   simp only[Value.cntL]at h ⊢
   have hE:(Value.mkE x k).2=k+(Value.cnt x:Int):=by
    obtain⟨ctor,n,kids⟩:=x
    simp only[Value.cnt]at h ⊢
    have w1:zB.wrap (k+1)=k+1:=ZD (by omega) (by omega)
    have w2:zB.wrap (k+1+1)=k+1+1:=ZD (by omega) (by omega)
    have w3:(Value.mkL kids (k+1+1)).2=k+1+1+(Value.cntL kids:Int):=ih _ _ (by simp at hm;omega) (by omega) (by omega)
    simp only[Value.mkE,w1,w2,w3]
    omega
   rw[Value.mkL]
   simp only[hE]
   rw[ihr (k+(Value.cnt x:Int)) hr (by omega) (by omega)]
   omega
theorem Value.mkL_snd (l:List Value)(k:Int)(h0:0<=k)(h:k+(Value.cntL l:Int)<=9223372036854775807):(Value.mkL l k).2=k+(Value.cntL l:Int):=(Value.mk_sndA (SizeOf.sizeOf l+1)) l k (Nat.lt_succ_self _) h0 h
mutual
def Pattern.cnt :Pattern->Nat
 |⟨_,_,_,_,_,kids⟩=>5+Pattern.cntL kids
def Pattern.cntL :List Pattern->Nat
 | []=>0
 |x::r=>Pattern.cnt x+Pattern.cntL r
end
theorem Pattern.mk_sndA :∀m:Nat,(∀(l:List Pattern) (k:Int),SizeOf.sizeOf l<m->0<=k->k+(Pattern.cntL l:Int)<=9223372036854775807->(Pattern.mkL l k).2=k+(Pattern.cntL l:Int)):=by
 intro m
 induction m with
 |zero=>exact fun l k h=>absurd h (zA _)
 |succ m ih=>
  intro l k hm h0 h
  induction l generalizing k with
  |nil=>simp[Pattern.mkL,Pattern.cntL]
  |cons x r ihr=>
   have hr:SizeOf.sizeOf r<m+1:=by simp at hm;omega
   simp only[Pattern.cntL]at h ⊢
   have hE:(Pattern.mkE x k).2=k+(Pattern.cnt x:Int):=by
    obtain⟨op,ctor,n,m,var,kids⟩:=x
    simp only[Pattern.cnt]at h ⊢
    have w1:zB.wrap (k+1)=k+1:=ZD (by omega) (by omega)
    have w2:zB.wrap (k+1+1)=k+1+1:=ZD (by omega) (by omega)
    have w3:zB.wrap (k+1+1+1)=k+1+1+1:=ZD (by omega) (by omega)
    have w4:zB.wrap (k+1+1+1+1)=k+1+1+1+1:=ZD (by omega) (by omega)
    have w5:zB.wrap (k+1+1+1+1+1)=k+1+1+1+1+1:=ZD (by omega) (by omega)
    have w6:(Pattern.mkL kids (k+1+1+1+1+1)).2=k+1+1+1+1+1+(Pattern.cntL kids:Int):=ih _ _ (by simp at hm;omega) (by omega) (by omega)
    simp only[Pattern.mkE,w1,w2,w3,w4,w5,w6]
    omega
   rw[Pattern.mkL]
   simp only[hE]
   rw[ihr (k+(Pattern.cnt x:Int)) hr (by omega) (by omega)]
   omega
theorem Pattern.mkL_snd (l:List Pattern)(k:Int)(h0:0<=k)(h:k+(Pattern.cntL l:Int)<=9223372036854775807):(Pattern.mkL l k).2=k+(Pattern.cntL l:Int):=(Pattern.mk_sndA (SizeOf.sizeOf l+1)) l k (Nat.lt_succ_self _) h0 h
def Guard.cnt :Guard->Nat
 |⟨_,_,_⟩=>3
def Guard.cntL :List Guard->Nat
 | []=>0
 |x::r=>Guard.cnt x+Guard.cntL r
def Clause.cnt :Clause->Nat
 |⟨pat,guard⟩=>0+Pattern.cnt pat+Guard.cnt guard
def Clause.cntL :List Clause->Nat
 | []=>0
 |x::r=>Clause.cnt x+Clause.cntL r
theorem Clause.mk_sndA :∀m:Nat,(∀(l:List Clause) (k:Int),SizeOf.sizeOf l<m->0<=k->k+(Clause.cntL l:Int)<=9223372036854775807->(Clause.mkL l k).2=k+(Clause.cntL l:Int)):=by
 intro m
 induction m with
 |zero=>exact fun l k h=>absurd h (zA _)
 |succ m ih=>
  intro l k hm h0 h
  induction l generalizing k with
  |nil=>simp[Clause.mkL,Clause.cntL]
  |cons x r ihr=>
   have hr:SizeOf.sizeOf r<m+1:=by simp at hm;omega
   simp only[Clause.cntL]at h ⊢
   have hE:(Clause.mkE x k).2=k+(Clause.cnt x:Int):=by
    obtain⟨⟨pat_op,pat_ctor,pat_n,pat_m,pat_var,pat_kids⟩,⟨guard_op,guard_var,guard_n⟩⟩:=x
    simp only[Clause.cnt,Pattern.cnt,Guard.cnt]at h ⊢
    have w1:zB.wrap (k+1)=k+1:=ZD (by omega) (by omega)
    have w2:zB.wrap (k+1+1)=k+1+1:=ZD (by omega) (by omega)
    have w3:zB.wrap (k+1+1+1)=k+1+1+1:=ZD (by omega) (by omega)
    have w4:zB.wrap (k+1+1+1+1)=k+1+1+1+1:=ZD (by omega) (by omega)
    have w5:zB.wrap (k+1+1+1+1+1)=k+1+1+1+1+1:=ZD (by omega) (by omega)
    have w6:(Pattern.mkL pat_kids (k+1+1+1+1+1)).2=k+1+1+1+1+1+(Pattern.cntL pat_kids:Int):=Pattern.mkL_snd _ _ (by omega) (by omega)
    have w7:zB.wrap (k+1+1+1+1+1+(Pattern.cntL pat_kids:Int)+1)=k+1+1+1+1+1+(Pattern.cntL pat_kids:Int)+1:=ZD (by omega) (by omega)
    have w8:zB.wrap (k+1+1+1+1+1+(Pattern.cntL pat_kids:Int)+1+1)=k+1+1+1+1+1+(Pattern.cntL pat_kids:Int)+1+1:=ZD (by omega) (by omega)
    have w9:zB.wrap (k+1+1+1+1+1+(Pattern.cntL pat_kids:Int)+1+1+1)=k+1+1+1+1+1+(Pattern.cntL pat_kids:Int)+1+1+1:=ZD (by omega) (by omega)
    simp only[Clause.mkE,Pattern.mkE,Guard.mkE,w1,w2,w3,w4,w5,w6,w7,w8,w9]
    omega
   rw[Clause.mkL]
   simp only[hE]
   rw[ihr (k+(Clause.cnt x:Int)) hr (by omega) (by omega)]
   omega
theorem Clause.mkL_snd (l:List Clause)(k:Int)(h0:0<=k)(h:k+(Clause.cntL l:Int)<=9223372036854775807):(Clause.mkL l k).2=k+(Clause.cntL l:Int):=(Clause.mk_sndA (SizeOf.sizeOf l+1)) l k (Nat.lt_succ_self _) h0 h
def FunType.cnt :FunType->Nat
 |⟨arg,res⟩=>0+Ty.cnt arg+Ty.cnt res
def FunType.cntL :List FunType->Nat
 | []=>0
 |x::r=>FunType.cnt x+FunType.cntL r
def VarType.cnt :VarType->Nat
 |⟨_,type⟩=>1+Ty.cnt type
def VarType.cntL :List VarType->Nat
 | []=>0
 |x::r=>VarType.cnt x+VarType.cntL r
mutual
def Expr.cnt :Expr->Nat
 |⟨_,_,_,kids⟩=>3+Expr.cntL kids
def Expr.cntL :List Expr->Nat
 | []=>0
 |x::r=>Expr.cnt x+Expr.cntL r
end
def Fun.cnt :Fun->Nat
 |⟨type,clauses,bodies⟩=>0+FunType.cnt type+Clause.cntL clauses+Expr.cntL bodies
def Fun.cntL :List Fun->Nat
 | []=>0
 |x::r=>Fun.cnt x+Fun.cntL r
def Bind.cnt :Bind->Nat
 |⟨_,value⟩=>1+Value.cnt value
def Bind.cntL :List Bind->Nat
 | []=>0
 |x::r=>Bind.cnt x+Bind.cntL r
def PathBind.cnt :PathBind->Nat
 |⟨_,path⟩=>1+cntI path
def PathBind.cntL :List PathBind->Nat
 | []=>0
 |x::r=>PathBind.cnt x+PathBind.cntL r
mutual
def Tree.cnt :Tree->Nat
 |⟨_,_,binds,path,branches,els⟩=>2+PathBind.cntL binds+cntI path+Branch.cntL branches+Tree.cntL els
def Tree.cntL :List Tree->Nat
 | []=>0
 |x::r=>Tree.cnt x+Tree.cntL r
def Branch.cnt :BranchOf Tree->Nat
 |⟨_,_,_,tree⟩=>3+Tree.cnt tree
def Branch.cntL :List (BranchOf Tree)->Nat
 | []=>0
 |x::r=>Branch.cnt x+Branch.cntL r
end
def Edge.cnt :Edge->Nat
 |⟨_,_,_,_⟩=>4
def Edge.cntL :List Edge->Nat
 | []=>0
 |x::r=>Edge.cnt x+Edge.cntL r
def Node.cnt :Node->Nat
 |⟨_,_,binds,path,edges,_⟩=>3+PathBind.cntL binds+cntI path+Edge.cntL edges
def Node.cntL :List Node->Nat
 | []=>0
 |x::r=>Node.cnt x+Node.cntL r
def Step.cnt :Step->Nat
 |⟨_,path,_,_,_,_,binds,_⟩=>6+cntI path+PathBind.cntL binds
def Step.cntL :List Step->Nat
 | []=>0
 |x::r=>Step.cnt x+Step.cntL r
theorem Ty.cnt_leA :∀m:Nat,(∀(l:List Ty),SizeOf.sizeOf l<m->Ty.cntL l<=9*wtL Ty.wt l):=by
 intro m
 induction m with
 |zero=>exact fun l h=>absurd h (zA _)
 |succ m ih=>
  intro l hm
  induction l with
  |nil=>simp[Ty.cntL]
  |cons x r ihr=>
   have hr:SizeOf.sizeOf r<m+1:=by simp at hm;omega
   have h1:=ihr hr
   simp only[Ty.cntL,Zx]
   have hE:Ty.cnt x<=9+9*Ty.wt x:=by
    obtain⟨data,index⟩:=x
    simp only[Ty.cnt]
    simp only[Ty.wt]
    omega
   omega
theorem Ty.cntL_le (l:List Ty):Ty.cntL l<=9*wtL Ty.wt l:=(Ty.cnt_leA (SizeOf.sizeOf l+1)) l (Nat.lt_succ_self _)
theorem Ctor.cnt_leA :∀m:Nat,(∀(l:List Ctor),SizeOf.sizeOf l<m->Ctor.cntL l<=9*wtL Ctor.wt l):=by
 intro m
 induction m with
 |zero=>exact fun l h=>absurd h (zA _)
 |succ m ih=>
  intro l hm
  induction l with
  |nil=>simp[Ctor.cntL]
  |cons x r ihr=>
   have hr:SizeOf.sizeOf r<m+1:=by simp at hm;omega
   have h1:=ihr hr
   simp only[Ctor.cntL,Zx]
   have hE:Ctor.cnt x<=9+9*Ctor.wt x:=by
    obtain⟨name,args,index⟩:=x
    have c1:=Ty.cntL_le args
    simp only[Ctor.cnt]
    simp only[Ctor.wt]
    omega
   omega
theorem Ctor.cntL_le (l:List Ctor):Ctor.cntL l<=9*wtL Ctor.wt l:=(Ctor.cnt_leA (SizeOf.sizeOf l+1)) l (Nat.lt_succ_self _)
theorem Data.cnt_leA :∀m:Nat,(∀(l:List Data),SizeOf.sizeOf l<m->Data.cntL l<=9*wtL Data.wt l):=by
 intro m
 induction m with
 |zero=>exact fun l h=>absurd h (zA _)
 |succ m ih=>
  intro l hm
  induction l with
  |nil=>simp[Data.cntL]
  |cons x r ihr=>
   have hr:SizeOf.sizeOf r<m+1:=by simp at hm;omega
   have h1:=ihr hr
   simp only[Data.cntL,Zx]
   have hE:Data.cnt x<=9+9*Data.wt x:=by
    obtain⟨name,ctors⟩:=x
    have c1:=Ctor.cntL_le ctors
    simp only[Data.cnt]
    simp only[Data.wt]
    omega
   omega
theorem Data.cntL_le (l:List Data):Data.cntL l<=9*wtL Data.wt l:=(Data.cnt_leA (SizeOf.sizeOf l+1)) l (Nat.lt_succ_self _)
theorem Value.cnt_leA :∀m:Nat,(∀(l:List Value),SizeOf.sizeOf l<m->Value.cntL l<=9*wtL Value.wt l):=by
 intro m
 induction m with
 |zero=>exact fun l h=>absurd h (zA _)
 |succ m ih=>
  intro l hm
  induction l with
  |nil=>simp[Value.cntL]
  |cons x r ihr=>
   have hr:SizeOf.sizeOf r<m+1:=by simp at hm;omega
   have h1:=ihr hr
   simp only[Value.cntL,Zx]
   have hE:Value.cnt x<=9+9*Value.wt x:=by
    obtain⟨ctor,n,kids⟩:=x
    have c1:=ih kids (by simp at hm;omega)
    simp only[Value.cnt]
    simp only[Value.wt_eq]
    omega
   omega
theorem Value.cntL_le (l:List Value):Value.cntL l<=9*wtL Value.wt l:=(Value.cnt_leA (SizeOf.sizeOf l+1)) l (Nat.lt_succ_self _)
theorem Pattern.cnt_leA :∀m:Nat,(∀(l:List Pattern),SizeOf.sizeOf l<m->Pattern.cntL l<=9*wtL zC l):=by
 intro m
 induction m with
 |zero=>exact fun l h=>absurd h (zA _)
 |succ m ih=>
  intro l hm
  induction l with
  |nil=>simp[Pattern.cntL]
  |cons x r ihr=>
   have hr:SizeOf.sizeOf r<m+1:=by simp at hm;omega
   have h1:=ihr hr
   simp only[Pattern.cntL,Zx]
   have hE:Pattern.cnt x<=9+9*zC x:=by
    obtain⟨op,ctor,n,m,var,kids⟩:=x
    have c1:=ih kids (by simp at hm;omega)
    simp only[Pattern.cnt]
    simp only[zD]
    omega
   omega
theorem Pattern.cntL_le (l:List Pattern):Pattern.cntL l<=9*wtL zC l:=(Pattern.cnt_leA (SizeOf.sizeOf l+1)) l (Nat.lt_succ_self _)
theorem Clause.cnt_leA :∀m:Nat,(∀(l:List Clause),SizeOf.sizeOf l<m->Clause.cntL l<=9*wtL Clause.wt l):=by
 intro m
 induction m with
 |zero=>exact fun l h=>absurd h (zA _)
 |succ m ih=>
  intro l hm
  induction l with
  |nil=>simp[Clause.cntL]
  |cons x r ihr=>
   have hr:SizeOf.sizeOf r<m+1:=by simp at hm;omega
   have h1:=ihr hr
   simp only[Clause.cntL,Zx]
   have hE:Clause.cnt x<=9+9*Clause.wt x:=by
    obtain⟨⟨pat_op,pat_ctor,pat_n,pat_m,pat_var,pat_kids⟩,⟨guard_op,guard_var,guard_n⟩⟩:=x
    have c1:=Pattern.cntL_le pat_kids
    simp only[Clause.cnt,Pattern.cnt,Guard.cnt]
    simp only[Clause.wt,zD,Guard.wt]
    omega
   omega
theorem Clause.cntL_le (l:List Clause):Clause.cntL l<=9*wtL Clause.wt l:=(Clause.cnt_leA (SizeOf.sizeOf l+1)) l (Nat.lt_succ_self _)
theorem ZLJ (x:Int):(cI x).length=1:=rfl
theorem ZH3 (x:List Int):(cL cI x).length=1:=rfl
end Go.Vl
