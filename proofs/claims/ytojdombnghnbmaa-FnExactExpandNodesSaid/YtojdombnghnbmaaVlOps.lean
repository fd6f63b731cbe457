/- The value-level layer, part 2: what an operation does to abstract values. -/
import Derived.Test.YtojdombnghnbmaaVlCore
set_option linter.unusedSimpArgs false
set_option linter.unusedVariables false
namespace Go.Vl
open Go
inductive Sh where
 |word
 |agg
 |slice (sz bytes:Nat) (zero:List Value)
 |struct (offs:List (Nat×Nat))
 |array (len sz:Nat)
structure TI where
 sh:Sh
 size:Nat
 zero:List Value
def zcells (i:TypeInfo):List Value:=match i.zero with
 |some z=>z.cells.toList
 |none=>[]
def shOf (P:Program):TypeDesc→Sh
 | .slice e=>match P.info? e with
  |some i=>.slice i.size i.bytes (zcells i)
  |none=>.agg
 | .struct fs=>.struct (fs.toList.map fun f=>(f.offset,P.cellsOf f.type))
 | .array n e=>.array n (P.cellsOf e)
 |_=>.word
def tiOf (P:Program)(t:TypeId):Option TI:=
 match P.underlying t,P.info? t with
 |some d,some i=>some ⟨shOf P d,i.size,zcells i⟩
 |_,_=>none
def Sh.isAgg :Sh→Bool
 | .struct _| .array _ _=>true
 |_=>false
def oneV :Value→Prop
 | .agg _| .tuple _=>False
 |_=>True
def ok1 (σ:Store):AV→Prop
 | .lit v=>oneV v
 | .arr _| .rptr _ _| .fn _ _ _=>True
 | .own l n=>match σ[l]? with
  |some (.elems _ es)=>es.length=n
  |_=>False
 | .ptr l _=>match σ[l]? with
  |some (.cells _)=>True
  |_=>False
 | .eptr l n _ _=>match σ[l]? with
  |some (.elems _ es)=>es.length=n∧es≠[]
  |_=>False
 |_=>False
def allOk1 (σ:Store):List AV→Prop
 | []=>True
 |x::r=>ok1 σ x∧allOk1 σ r
def AV.cellsK (σ:Store)(x:AV)(K:List AV→Prop):Prop:=
 match x with
 | .agg cs=>K cs
 |x=>ok1 σ x∧K [x]
def rdE (e:List AV)(off n:Nat)(K:List AV→Prop):Prop:=
 if off=0∧n=e.length then K e else off+n≤e.length∧K ((e.drop off).take n)
def rdN (σ:Store)(p:AV)(n:Nat)(K:List AV→Prop):Prop:=
 match p with
 | .rptr e off=>rdE e off n K
 | .ptr l off=>match σ[l]? with
  |some (.cells cs)=>rdE cs off n K
  |_=>False
 | .eptr l k i off=>match σ[l]? with
  |some (.elems _ es)=>es.length=k∧i<es.length∧rdE (es.getD i []) off n K
  |_=>False
 |_=>False
def rd1 (σ:Store)(p:AV)(K:AV→Prop):Prop:=
 match p with
 | .rptr e off=>off<e.length∧K (e.getD off .junk)
 | .ptr l off=>match σ[l]? with
  |some (.cells cs)=>off<cs.length∧K (cs.getD off .junk)
  |_=>False
 | .eptr l k i off=>match σ[l]? with
  |some (.elems _ es)=>es.length=k∧i<es.length∧off<(es.getD i []).length∧K ((es.getD i []).getD off .junk)
  |_=>False
 |_=>False
def aLoad (P:Program)(t:TypeId)(σ:Store)(p:AV)(K:AV→Prop):Prop:=
 match tiOf P t with
 |some i=>if i.sh.isAgg then rdN σ p i.size (fun cs=>K (.agg cs))else rd1 σ p K
 |none=>False
def nz :AV→AV
 | .lit (.slice none 0 0)=>.arr []
 |x=>x
def isPk :Blk→Bool
 | .pack _ _=>true
 |_=>false
def nzs (σ:Store)(x:AV):AV:=if σ.any isPk=true then x else nz x
def wrE (e:List AV)(off:Nat)(cs:List AV)(K:List AV→Prop):Prop:=
 if off=0∧cs.length=e.length then K cs
 else off+cs.length≤e.length∧K (e.take off++cs++e.drop (off+cs.length))
def wrN (σ:Store)(p:AV)(cs:List AV)(K:Store→Prop):Prop:=
 match p with
 | .ptr l off=>match σ[l]? with
  |some (.cells old)=>wrE old off cs (fun new=>K (σ.set l (.cells new)))
  |_=>False
 | .eptr l k i off=>match σ[l]? with
  |some (.elems sz es)=>es.length=k∧i<es.length∧wrE (es.getD i []) off cs (fun new=>K (σ.set l (.elems sz (es.set i (new.map (nzs σ))))))
  |_=>False
 |_=>False
def aStore (P:Program)(t:TypeId)(σ:Store)(p v:AV)(K:Store→Prop):Prop:=
 match tiOf P t with
 |some i=>v.cellsK σ (fun cs=>cs.length=i.size∧allOk1 σ cs∧wrN σ p cs K)
 |none=>False
def liveP (σ:Store):AV→Prop
 | .rptr _ _=>True
 | .ptr l _=>match σ[l]? with
  |some (.cells _)=>True
  |_=>False
 | .eptr l k _ _=>match σ[l]? with
  |some (.elems _ es)=>es.length=k∧es≠[]
  |_=>False
 |_=>False
def AV.adv (n:Nat):AV→AV
 | .rptr e off=>.rptr e (off+n)
 | .ptr l off=>.ptr l (off+n)
 | .eptr l k i off=>.eptr l k i (off+n)
 |x=>x
def aFieldAddr (P:Program)(t:TypeId)(σ:Store)(p:AV)(f:Nat)(K:AV→Prop):Prop:=
 match tiOf P t with
 |some ⟨.struct offs,_,_⟩=>match offs[f]? with
  |some (o,s+1)=>liveP σ p∧K (p.adv o)
  |_=>False
 |_=>False
def aIndexAddr (P:Program)(t:TypeId)(σ:Store)(x i:AV)(K:AV→Prop):Prop:=
 match i,tiOf P t with
 | .lit (.int _ n),some ⟨.slice sz _ _,_,_⟩=>match x with
  | .arr es=>0≤n∧n.toNat<es.length∧(es.getD n.toNat []).length=sz∧K (.rptr (es.getD n.toNat []) 0)
  | .own l k=>match σ[l]? with
   |some (.elems sz' es)=>es.length=k∧sz'=sz∧0≤n∧n.toNat<k∧K (.eptr l k n.toNat 0)
   |_=>False
  |_=>False
 | .lit (.int _ n),some ⟨.array len (sz+1),_,_⟩=>0≤n∧n.toNat<len∧liveP σ x∧K (x.adv (n.toNat*(sz+1)))
 |_,_=>False
def byteAt (s:ByteArray)(i:Nat):Nat:=(s.data.toList.getD i 0).toNat
def aIndex (P:Program)(t:TypeId)(x i:AV)(K:AV→Prop):Prop:=
 match x,i with
 | .lit (.string s),.lit (.int _ n)=>P.underlying t=some .string∧0≤n∧n.toNat<s.size∧K (.lit (.int .u8 (byteAt s n.toNat)))
 | .agg cs,.lit (.int _ n)=>match P.underlying t with
  |some (.array len e)=>match tiOf P e with
   |some j=>j.sh.isAgg=false∧j.size=1∧len=cs.length∧0≤n∧n.toNat<len∧K (cs.getD n.toNat .junk)
   |none=>False
  |_=>False
 |_,_=>False
def aLen (P:Program)(t:TypeId)(σ:Store)(x:AV)(K:AV→Prop):Prop:=
 match P.underlying t with
 |some (.slice _)=>match x with
  | .arr es=>K (.lit (.int .i64 es.length))
  | .lit (.slice none 0 0)=>K (.lit (.int .i64 0))
  | .own l k=>K (.lit (.int .i64 k))
  |_=>False
 |some .string=>match x with
  | .lit (.string s)=>K (.lit (.int .i64 s.size))
  |_=>False
 |some (.array n _)=>K (.lit (.int .i64 n))
 |_=>False
def elemsK (σ:Store)(x:AV)(K:List (List AV)→Prop):Prop:=
 match x with
 | .arr es=>K es
 | .lit (.slice none 0 0)=>K []
 | .lit (.slice (some _) 0 _)=>K []
 | .own l k=>match σ[l]? with
  |some (.elems _ es)=>es.length=k∧K es
  |_=>False
 |_=>False
def AV.pure :AV→Prop
 | .lit _| .junk| .arr _| .rptr _ _=>True
 | .agg cs=>pures cs
 | .tup cs=>pures cs
 | .fn _ xs ys=>pures xs∧pures ys
 |_=>False
where pures:List AV→Prop
 | []=>True
 |x::r=>x.pure∧pures r
def aAppend (P:Program)(B:Nat)(t t2:TypeId)(σ:Store)(s x:AV)(K:AV→Store→Prop):Prop:=
 match tiOf P t,P.underlying t2 with
 |some ⟨.slice sz bytes zs,_,_⟩,some (.slice _)=>
  zs.length=sz∧sz≠0∧bytes≠0∧elemsK σ x fun new=>(∀e,e∈new→e.length=sz)∧(∀e,e∈new→allOk1 σ e)∧
   match s with
   | .lit (.slice none 0 0)=>new.length≤bd B∧(2*new.length+1024)*bytes≤281474976710656∧
     K (.own σ.length new.length) (σ++[.elems sz new])
   | .own l n=>match σ[l]? with
    |some (.elems sz' es)=>es.length=n∧sz'=sz∧n+new.length≤bd B∧(2*(n+new.length)+1024)*bytes≤281474976710656∧
      K (.own l (n+new.length)) (σ.set l (.elems sz (es++new)))
    |_=>False
   |_=>False
 |_,_=>False
end Go.Vl
