/- Part. -/
import Derived.Test.YtmjpphcloedceaaGreatVlSound2
set_option linter.all false
namespace Go.Vl
open Go
def ZBu (P:Program)(t:TypeId):Bool:= !P.stoodInHeld t&& !P.eqGuardType P.depth t&& match P.underlying t with
 |some (.struct fs)=>match fs.toList with
  | [f,g]=>f.name != "_" && g.name != "_" && f.offset==0&& g.offset==1&& (match P.underlying f.type with|some (.int .i64)=>true|_=>false)&& (match P.underlying g.type with|some (.int .i64)=>true|_=>false)
  |_=>false
 |_=>false
def ZDH (P:Program)(t:TypeId):Bool:= !P.stoodInHeld t&& !P.eqGuardType P.depth t&& match P.underlying t with
 |some (.struct fs)=>match fs.toList with
  | [f,g,h]=>f.name != "_" && g.name != "_" && h.name != "_" && f.offset==0&& g.offset==1&& h.offset==2&& (match P.underlying f.type with|some (.int .i64)=>true|_=>false)&& (match P.underlying g.type with|some (.int .i64)=>true|_=>false)&& (match P.underlying h.type with|some (.int .i64)=>true|_=>false)
  | [f,g]=>f.name != "_" && g.name != "_" && f.offset==0&& g.offset==1&& (match P.underlying f.type with|some (.int .i64)=>true|_=>false)&& ZBu P g.type&& P.cellsOf g.type==2
  |_=>false
 |_=>false
def ZED (P:Program)(t:TypeId):Bool:= !P.stoodInHeld t&& !P.eqGuardType P.depth t&& match P.underlying t with
 |some (.struct fs)=>match fs.toList with
  | [f,g,h,k]=>f.name != "_" && g.name != "_" && h.name != "_" && k.name != "_" && f.offset==0&& g.offset==1&& h.offset==2&& k.offset==3&& (match P.underlying f.type with|some (.int .i64)=>true|_=>false)&& (match P.underlying g.type with|some (.int .i64)=>true|_=>false)&& (match P.underlying h.type with|some (.int .i64)=>true|_=>false)&& (match P.underlying k.type with|some (.int .i64)=>true|_=>false)
  |_=>false
 |_=>false
def ZPu (k:IntKind)(a b:Int):Int:=k.wrap ((BitVec.ofInt k.bits a^^^BitVec.ofInt k.bits b).toNat:Int)
noncomputable def dec (p:Prop):Bool:=@decide p (Classical.propDecidable p)
variable {p:Prop}
theorem Zq :dec p=true↔p:=by simp[dec]
theorem dec_of (h:p):dec p=true:=Zq.2 h
theorem ZD (h:¬p):dec p=false:=by
 cases hd:dec p with
 |false=>rfl
 |true=>exact absurd (Zq.1 hd) h
@[simp] theorem ZO2 :dec True=true:=dec_of trivial
@[simp] theorem ZOe :dec False=false:=ZD id
def eq2 (p q:Int×Int):Prop:=p.1=q.1/\p.2=q.2
theorem ZMr (p q:Int×Int):(p.1==q.1&& p.2==q.2)=dec (eq2 p q):=by
 by_cases h1:p.1=q.1<;>by_cases h2:p.2=q.2
 ·rw[dec_of ⟨h1,h2⟩];simp[h1,h2]
 ·rw[ZD fun h=>h2 h.2];simp[h2]
 ·rw[ZD fun h=>h1 h.1];simp[h1]
 ·rw[ZD fun h=>h1 h.1];simp[h1]
def eq3 (p q:Int×Int×Int):Prop:=p.1=q.1/\p.2.1=q.2.1/\p.2.2=q.2.2
theorem ZMq (p q:Int×Int×Int):(p.1==q.1&& (p.2.1==q.2.1&& p.2.2==q.2.2))=dec (eq3 p q):=by
 by_cases h1:p.1=q.1<;>by_cases h2:p.2.1=q.2.1<;>by_cases h3:p.2.2=q.2.2<;>first
  |(rw[dec_of ⟨h1,h2,h3⟩];simp[h1,h2,h3];done)
  |(rw[ZD fun h=>h1 h.1];simp[h1];done)
  |(rw[ZD fun h=>h2 h.2.1];simp[h2];done)
  |(rw[ZD fun h=>h3 h.2.2];simp[h3];done)
def ZBT :List AV->Option (Int×Int×Int)
 | [.lit (.int .i64 a),.lit (.int .i64 b),.lit (.int .i64 c)]=>some (a,b,c)
 |_=>none
@[simp] theorem ZLM (a b c:Int):ZBT [.lit (.int .i64 a),.lit (.int .i64 b),.lit (.int .i64 c)]=some (a,b,c):=rfl
variable {xs:List AV}
theorem ZD8 {p:Int×Int×Int}(h:ZBT xs=some p):xs=[.lit (.int .i64 p.1),.lit (.int .i64 p.2.1),.lit (.int .i64 p.2.2)]:=by
 unfold ZBT at h
 split at h
 ·cases h;rfl
 ·cases h
def eq4 (p q:Int×Int×Int×Int):Prop:=p.1=q.1/\p.2.1=q.2.1/\p.2.2.1=q.2.2.1/\p.2.2.2=q.2.2.2
theorem ZMp (p q:Int×Int×Int×Int):(p.1==q.1&& (p.2.1==q.2.1&& (p.2.2.1==q.2.2.1&& p.2.2.2==q.2.2.2)))=dec (eq4 p q):=by
 by_cases h1:p.1=q.1<;>by_cases h2:p.2.1=q.2.1<;>by_cases h3:p.2.2.1=q.2.2.1<;>by_cases h4:p.2.2.2=q.2.2.2<;>first
  |(rw[dec_of ⟨h1,h2,h3,h4⟩];simp[h1,h2,h3,h4];done)
  |(rw[ZD fun h=>h1 h.1];simp[h1];done)
  |(rw[ZD fun h=>h2 h.2.1];simp[h2];done)
  |(rw[ZD fun h=>h3 h.2.2.1];simp[h3];done)
  |(rw[ZD fun h=>h4 h.2.2.2];simp[h4];done)
def ZCH :List AV->Option (Int×Int×Int×Int)
 | [.lit (.int .i64 a),.lit (.int .i64 b),.lit (.int .i64 c),.lit (.int .i64 d)]=>some (a,b,c,d)
 |_=>none
@[simp] theorem ZLq (a b c d:Int):ZCH [.lit (.int .i64 a),.lit (.int .i64 b),.lit (.int .i64 c),.lit (.int .i64 d)]=some (a,b,c,d):=rfl
@[simp] theorem ZLf (a b c d:AV):ZBT [a,b,c,d]=none:=by unfold ZBT;split<;>simp_all
theorem ZEC {p:Int×Int×Int×Int}(h:ZCH xs=some p):xs=[.lit (.int .i64 p.1),.lit (.int .i64 p.2.1),.lit (.int .i64 p.2.2.1),.lit (.int .i64 p.2.2.2)]:=by
 unfold ZCH at h
 split at h
 ·cases h;rfl
 ·cases h
def ZA6 :List AV->Option (Int×Int)
 | [.lit (.int .i64 a),.lit (.int .i64 b)]=>some (a,b)
 |_=>none
@[simp] theorem ZL5 (a b c d:AV):ZA6 [a,b,c,d]=none:=by unfold ZA6;split<;>simp_all
@[simp] theorem ZLP (a b c:AV):ZA6 [a,b,c]=none:=by unfold ZA6;split<;>simp_all
@[simp] theorem ZNA (a b:Int):ZA6 [.lit (.int .i64 a),.lit (.int .i64 b)]=some (a,b):=rfl
theorem ZEF {p:Int×Int}(h:ZA6 xs=some p):xs=[.lit (.int .i64 p.1),.lit (.int .i64 p.2)]:=by
 unfold ZA6 at h
 split at h
 ·cases h;rfl
 ·cases h
def ZE3 (P:Program)(t:TypeId):Bool:=match P.underlying t with
 |some (.slice _)=>true
 |_=>false
def ZM6 (P:Program)(op:BinOp)(t:TypeId)(x y:AV)(K:AV->Prop):Prop:=
 match x,y with
 | .lit (.int k a),.lit (.int k' b)=>k=k'/\match op with
  | .add=>K (.lit (.int k (k.wrap (a+b))))
  | .sub=>K (.lit (.int k (k.wrap (a-b))))
  | .mul=>K (.lit (.int k (k.wrap (a*b))))
  | .quo=>b≠0/\K (.lit (.int k (k.wrap (a.tdiv b))))
  | .rem=>b≠0/\K (.lit (.int k (a.tmod b)))
  | .eql=>K (.lit (.bool (a==b)))
  | .neq=>K (.lit (.bool (a !=b)))
  | .lss=>K (.lit (.bool (a<b)))
  | .leq=>K (.lit (.bool (a<=b)))
  | .gtr=>K (.lit (.bool (a>b)))
  | .geq=>K (.lit (.bool (a≥b)))
  | .xor=>K (.lit (.int k (ZPu k a b)))
  |_=>False
 | .lit (.string a),.lit (.string b)=>match op with
  | .add=>(a.size+b.size:Nat)<=9223372036854775807/\K (.lit (.string (a++b)))
  | .eql=>K (.lit (.bool (a.toList==b.toList)))
  | .neq=>K (.lit (.bool (!(a.toList==b.toList))))
  |_=>False
 | .lit (.bool a),.lit (.bool b)=>P.underlying t=some .bool/\match op with
  | .eql=>K (.lit (.bool (a==b)))
  | .neq=>K (.lit (.bool (!(a==b))))
  |_=>False
 | .agg xs,.agg ys=>match ZA6 xs,ZA6 ys with
  |some p,some q=>ZBu P t=true/\match op with
   | .eql=>K (.lit (.bool (dec (eq2 p q))))
   | .neq=>K (.lit (.bool (!dec (eq2 p q))))
   |_=>False
  |_,_=>match ZBT xs,ZBT ys with
   |some p,some q=>ZDH P t=true/\match op with
    | .eql=>K (.lit (.bool (dec (eq3 p q))))
    | .neq=>K (.lit (.bool (!dec (eq3 p q))))
    |_=>False
   |_,_=>match ZCH xs,ZCH ys with
    |some p,some q=>ZED P t=true/\match op with
     | .eql=>K (.lit (.bool (dec (eq4 p q))))
     | .neq=>K (.lit (.bool (!dec (eq4 p q))))
     |_=>False
    |_,_=>False
 | .arr es,.lit (.slice none 0 0)=>ZE3 P t=true/\es≠[]/\match op with
  | .eql=>K (.lit (.bool false))
  | .neq=>K (.lit (.bool true))
  |_=>False
 | .lit (.slice a n c),.lit (.slice none 0 0)=>ZE3 P t=true/\match op with
  | .eql=>K (.lit (.bool a.isNone))
  | .neq=>K (.lit (.bool (!a.isNone)))
  |_=>False
 |_,_=>False
def aUn (op:UnOp)(x:AV)(K:AV->Prop):Prop:=
 match op,x with
 | .not,.lit (.bool b)=>K (.lit (.bool (!b)))
 | .neg,.lit (.int k n)=>K (.lit (.int k (k.wrap (0-n))))
 |_,_=>False
def ZOu :List AV->Option Int
 | [.lit (.int .u8 v)]=>some v
 |_=>none
def u8s :List (List AV)->Option (List Int)
 | []=>some []
 |e::r=>match ZOu e,u8s r with
  |some v,some vs=>some (v::vs)
  |_,_=>none
def ZHC (ns:List Int):ByteArray:=ns.foldl (fun r n=>r.push (UInt8.ofNat n.toNat)) ByteArray.empty
def ZBM (P:Program)(t:Option TypeDesc):Bool:=match t with
 |some (.slice e)=>(match P.underlying e with|some (.int .u8)=>true|_=>false)
 |_=>false
def ZD5 (P:Program)(src dst:TypeId)(σ:ZE)(x:AV)(K:AV->Prop):Prop:=
 match P.underlying src,P.underlying dst,x with
 |some (.int _),some (.int k),.lit (.int _ n)=>K (.lit (.int k (k.wrap n)))
 |some (.slice e),some .string,.arr es=>ZBM P (some (.slice e))=true/\match u8s es with
  |some ns=>K (.lit (.string (ZHC ns)))
  |none=>False
 |some (.slice e),some .string,.own l n=>ZBM P (some (.slice e))=true/\match σ[l]? with
  |some (.elems _ es)=>es.length=n/\match u8s es with
   |some ns=>K (.lit (.string (ZHC ns)))
   |none=>False
  |_=>False
 |_,_,_=>False
def frz (σ:ZE):List AV->(List AV->ZE->Prop)->Prop
 | [],K=>K [] σ
 | .own l n::r,K=>match σ[l]? with
  |some (.elems _ es)=>es.length=n/\(∀e,e∈es->AV.pure.pures e)/\frz (σ.set l .dead) r (fun r' σ'=>K (.arr es::r') σ')
  |_=>False
 |x::r,K=>frz σ r (fun r' σ'=>K (x::r') σ')
def isM :Blk->Bool
 | .elems 0 _=>true
 | .pack _ _=>true
 |_=>false
def bfrz (σ:ZE)(cs:List AV)(K:List AV->ZE->Prop):Prop:=if σ.any isM then K cs σ else frz σ cs K
def ZBg (place:Nat->Option (Nat×Nat))(σ:ZE):List AV->List (Nat×AV)->(List AV->Prop)->Prop
 |cs,[],K=>K cs
 |cs,(i,x)::rest,K=>match place i with
  |some (off,size)=>x.cellsK σ fun new=>new.length=size/\wrE cs off new fun cs'=>ZBg place σ cs' rest K
  |none=>False
def ZBz (P:Program)(t:TypeId)(σ:ZE)(parts:List (Nat×AV))(K:AV->ZE->Prop):Prop:=
 match Zs P t with
 |some ⟨.struct offs,_,z⟩=>(∀p,p∈offs->p.2≠0)/\z≠[]/\ZBg (fun i=>offs[i]?) σ (z.map .lit) parts fun cs=>bfrz σ cs fun cs' σ'=>K (.agg cs') σ'
 |some ⟨.array _ (_+1),_,z⟩=>parts=[]/\z≠[]/\K (.agg (z.map .lit)) σ
 |_=>False
def ZBy (σ:ZE)(sz:Nat):Nat->List (Nat×AV)->(List (List AV)->Prop)->Prop
 |_,[],K=>K []
 |j,(i,x)::rest,K=>i=j/\x.cellsK σ fun e=>e.length=sz/\ZBy σ sz (j+1) rest fun es=>K (e.map (nzs σ)::es)
def ZKt (σ:ZE):List (List AV)->(List (List AV)->ZE->Prop)->Prop
 | [],K=>K [] σ
 |e::r,K=>frz σ e fun e' σ'=>ZKt σ' r fun r' σ''=>K (e'::r') σ''
def isK :Blk->Bool
 | .elems 0 _=>true
 |_=>false
def isP :Blk->Bool
 | .pack _ _=>true
 |_=>false
def bfrzs (σ:ZE)(es:List (List AV))(K:List (List AV)->ZE->Prop):Prop:=if σ.any isK=true/\σ.any isP=true then K es σ else ZKt σ es K
def ZAG (P:Program)(B:Nat)(t:TypeId)(σ:ZE)(len:Nat)(parts:List (Nat×AV))(K:AV->ZE->Prop):Prop:=
 match Zs P t with
 |some ⟨.slice sz _ z,_,_⟩=>parts.length=len/\len*sz<=16777216/\len<=bd B/\z.length=sz/\sz≠0/\
   ZBy σ sz 0 parts fun es=>bfrzs σ es fun es' σ'=>K (.own σ'.length len) (σ'++[.elems sz es'])
 |_=>False
def ZAT (P:Program)(B:Nat)(t:TypeId)(σ:ZE)(l c:AV)(K:AV->ZE->Prop):Prop:=
 match Zs P t,l,c with
 |some ⟨.slice sz bytes z,_,_⟩,.lit (.int _ n),.lit (.int _ n')=>n=n'/\0<=n/\n<=9223372036854775807/\bytes*n<=281474976710656/\n.toNat<=bd B/\
   z.length=sz/\sz≠0/\K (.own σ.length n.toNat) (σ++[.elems sz (List.replicate n.toNat ((z.map .lit).map (nzs σ)))])
 |_,_,_=>False
def ZAm (x:Option AV)(d:Nat)(K:Nat->Prop):Prop:=
 match x with
 |none=>K d
 |some (.lit (.int _ n))=>0<=n/\K n.toNat
 |_=>False
def ZBx (P:Program)(t:TypeId)(σ:ZE)(x:AV)(lo hi mx:Option AV)(K:AV->ZE->Prop):Prop:=
 match x,mx with
 | .lit (.string s),none=>P.underlying t=some .string/\
  ZAm lo 0 fun l=>ZAm hi s.size fun h=>l<=h/\h<=s.size/\K (.lit (.string (s.extract l h))) σ
 | .arr es,none=>match Zs P t with
  |some ⟨.slice sz _ _,_,_⟩=>(∀e,e∈es->e.length=sz)/\
   ZAm lo 0 fun l=>ZAm hi es.length fun h=>l<=h/\h<=es.length/\K (.arr ((es.drop l).take (h-l))) σ
  |_=>False
 | .own l n,none=>match lo,Zs P t with
  |none,some ⟨.slice _ _ _,_,_⟩=>ZAm hi n fun h=>h<=n/\K (.pre l n h) σ
  |_,_=>False
 |_,_=>False
def ZAx (P:Program)(B:Nat)(b:Builtin)(ts:Array TypeId)(σ:ZE)(args:List AV)(K:AV->ZE->Prop):Prop:=
 match b,args with
 | .len,[x]=>match ts[0]? with
  |some t=>ZLH P t σ x fun r=>K r σ
  |none=>False
 | .append,[s,x]=>match ts[0]?,ts[1]? with
  |some t,some t2=>ZCC P B t t2 σ s x K
  |_,_=>False
 | .min,[.lit (.int k a),.lit (.int _ b)]=>K (.lit (.int k (if b<a then b else a))) σ
 | .max,[.lit (.int k a),.lit (.int _ b)]=>K (.lit (.int k (if b>a then b else a))) σ
 |_,_=>False
def ZBe (t:TypeId):List Value->Blk
 | [.pointer none,.slice none 0 0]=>.tcells (some t) [.junk,.lit (.slice none 0 0)]
 |z=>.cells (z.map .lit)
def aef (P:Program)(B:Nat)(op:Op)(ρ:Operand->AV)(σ:ZE)(K:AV->ZE->Prop):Prop:=
 match op with
 | .move x| .assign x=>K (ρ x) σ
 | .pick c a b=>match ρ c with
  | .lit (.bool v)=>K (if v then ρ a else ρ b) σ
  |_=>False
 | .alloc t=>match Zs P t with
  |some i=>i.zero≠[]/\K (.ptr σ.length 0) (σ++[ZBe t i.zero])
  |none=>False
 | .box _ x=>(ρ x).cellsK σ fun cs=>K (.ptr σ.length 0) (σ++[.cells cs])
 | .build t parts=>ZBz P t σ (parts.toList.map fun p=>(p.1,ρ p.2)) K
 | .buildSlice t len parts=>ZAG P B t σ len (parts.toList.map fun p=>(p.1,ρ p.2)) K
 | .load t x=>ZCs P t σ (ρ x) fun r=>K r σ
 | .store t a x=>ZDo P t σ (ρ a) (ρ x) fun σ'=>K (.lit undef) σ'
 | .nilCheck x=>ZB5 σ (ρ x)/\K (ρ x) σ
 | .binOp op t x y _=>ZM6 P op t (ρ x) (ρ y) fun r=>K r σ
 | .unOp op _ x=>aUn op (ρ x) fun r=>K r σ
 | .convert s d x=>ZD5 P s d σ (ρ x) fun r=>K r σ
 | .makeFunc fn first cap=>K (.fn fn (first.toList.map ρ) (cap.toList.map ρ)) σ
 | .makeSlice t l c=>ZAT P B t σ (ρ l) (ρ c) K
 | .slice t x lo hi mx=>ZBx P t σ (ρ x) (lo.map ρ) (hi.map ρ) (mx.map ρ) K
 | .fieldAddr t x f=>ZAJ P t σ (ρ x) f fun r=>K r σ
 | .indexAddr t x i=>Zk P t σ (ρ x) (ρ i) fun r=>K r σ
 | .index t x i=>ZC2 P t (ρ x) (ρ i) fun r=>K r σ
 | .field t x f=>ZDs P t (ρ x) f fun r=>K r σ
 | .extract x i=>match ρ x with
  | .tup vs=>i<vs.length/\K (vs.getD i .junk) σ
  |_=>False
 | .call {callee:=.builtin b,args,argTypes}=>ZAx P B b argTypes σ (args.toList.map ρ) K
 |_=>False
end Go.Vl
