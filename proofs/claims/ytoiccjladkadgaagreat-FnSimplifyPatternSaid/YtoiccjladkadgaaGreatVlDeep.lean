/- A part of the proof. -/
import Derived.Test.YtoiccjladkadgaaGreatVlSplit
set_option linter.all false
namespace Go.Vl
open Go Go.RowKit
section
variable {P : Program} {B nb N : Nat} {w : World}
inductive DTs (B:Nat)(w:World):List AV->List Value->List Nat->Prop
 |nil:DTs B w [] [] []
 |cell {x:AV} {v:Value} {xs:List AV} {vs:List Value} {F G:List Nat} (h:DVs B w [x] [v] F) (h':DTs B w xs vs G):DTs B w (x::xs) (v::vs) (F++G)
 |agg {cs:List AV} {us:Array Value} {xs:List AV} {vs:List Value} {F G:List Nat} (h:DVs B w cs us.toList F) (h':DTs B w xs vs G):DTs B w (.agg cs::xs) (.agg us::vs) (F++G)
def DA (B:Nat)(w:World)(r:AV)(u:Value)(F:List Nat):Prop:=
 match r with
 | .tup xs=>∃us:Array Value,u=.tuple us/\DTs B w xs us.toList F
 |r=>DTs B w [r] [u] F
def ZDI :List AV->List (List (List AV))
 | []=>[]
 | .agg cs::r=>ZAX cs++ZDI r
 |x::r=>ZAX [x]++ZDI r
def ZJe :List AV->List Value->List AV
 | [],_=>[]
 | .agg cs::r,hs=>.agg (ZFa cs (hs.take (ZAX cs).length))::ZJe r (hs.drop (ZAX cs).length)
 |x::r,hs=>ZFa [x] (hs.take (ZAX [x]).length)++ZJe r (hs.drop (ZAX [x]).length)
def ZMC :AV->List (List (List AV))
 | .tup xs=>ZDI xs
 |r=>ZDI [r]
def ZPy (r:AV)(hs:List Value):AV:=
 match r with
 | .tup xs=>.tup (ZJe xs hs)
 |r=>(ZJe [r] hs).headD .junk
def ZJf :List AV->List Value->Prop
 | [],[]=>True
 | .lit v::r,u::us=>v=u/\ZJf r us
 | .agg cs::r,.agg as::us=>cs=as.toList.map .lit/\ZJf r us
 |_,_=>False
def ZQq (P:Program)(B:Nat)(f:FuncId)(args:List AV)(r:AV):Prop:=
 Ent P f/\∀(av:Nat->Prop) w vs,(∀b,av b->b<w.heap.size)->ZHl B av M0 w args vs->
  Calls P f vs w fun e w'=>∃u F,e=.returned u/\DA B w' r u F/\F.Nodup/\(∀b,b∈F->w.heap.size<=b)/\Below w.heap.size w w'
inductive CP (σ:ZA):List AV->List Value->List Nat->Prop
 |nil:CP σ [] [] []
 |lit (v:Value) {ys:List AV} {vs:List Value} {ids:List Nat} (h:CP σ ys vs ids):CP σ (.lit v::ys) (v::vs) ids
 |nilS (a:Option Addr) (cap:Nat) {ys:List AV} {vs:List Value} {ids:List Nat} (h:CP σ ys vs ids):CP σ (.arr []::ys) (.slice a 0 cap::vs) ids
 |pk (l:Nat) {es:List (List AV)} {v:Value} {ys:List AV} {vs:List Value} {ids:List Nat} (h1:σ[l]? =some (.pack [.arr es] [v])) (h:CP σ ys vs ids):CP σ (.arr es::ys) (v::vs) (l::ids)
 |blk (l:Nat) {xs:List AV} {us:List Value} {ys:List AV} {vs:List Value} {ids:List Nat} (h1:σ[l]? =some (.pack xs us)) (h:CP σ ys vs ids):CP σ (xs++ys) (us++vs) (l::ids)
inductive CD (σ:ZA):List AV->List AV->List Nat->Prop
 |nil:CD σ [] [] []
 |lit (v:Value) {xs ys:List AV} {ids:List Nat} (h:CD σ xs ys ids):CD σ (.lit v::xs) (.lit v::ys) ids
 |nilS (a:Option Addr) (cap:Nat) {xs ys:List AV} {ids:List Nat} (h:CD σ xs ys ids):CD σ (.lit (.slice a 0 cap)::xs) (.arr []::ys) ids
 |own (l l2 n sz:Nat) {es rows:List (List AV)} {zs:List AV} {us:List Value} {xs ys:List AV} {ids:List Nat} (h1:σ[l]? =some (.elems sz rows)) (h2:σ[l2]? =some (.pack zs us)) (h3:zs=es.flatten) (h4:rows.flatten=us.map .lit)
   (h5:rows.length=n) (h6:es.length=n) (h7:∀e,e∈es->e.length=sz) (h:CD σ xs ys ids):CD σ (.own l n::xs) (.arr es::ys) (l::l2::ids)
 |ownL (l n sz:Nat) {es:List (List AV)} {us:List Value} {xs ys:List AV} {ids:List Nat} (h1:σ[l]? =some (.elems sz es)) (h4:es.flatten=us.map .lit) (h5:es.length=n) (h:CD σ xs ys ids):CD σ (.own l n::xs) (.arr es::ys) (l::ids)
 |pk (l:Nat) {es:List (List AV)} {v:Value} {xs ys:List AV} {ids:List Nat} (h1:σ[l]? =some (.pack [.arr es] [v])) (h:CD σ xs ys ids):CD σ (.lit v::xs) (.arr es::ys) (l::ids)
 |ZCb (l n sz:Nat) {es rows:List (List AV)} {us:List Value} {L:List Nat} {xs ys:List AV} {ids:List Nat} (h1:σ[l]? =some (.elems sz rows)) {zs:List AV} (hx:es.flatten=zs) (h2:CP σ zs us L) (h4:rows.flatten=us.map .lit)
   (h5:rows.length=n) (h6:es.length=n) (h7:∀e,e∈es->e.length=sz) (h:CD σ xs ys ids):CD σ (.own l n::xs) (.arr es::ys) (l::L++ids)
inductive CT (σ:ZA):List AV->List AV->List Nat->Prop
 |nil:CT σ [] [] []
 |cell {x y:AV} {xs ys:List AV} {L ids:List Nat} (h:CD σ [x] [y] L) (h':CT σ xs ys ids):CT σ (x::xs) (y::ys) (L++ids)
 |agg {cs ds:List AV} {xs ys:List AV} {L ids:List Nat} (h:CD σ cs ds L) (h':CT σ xs ys ids):CT σ (.agg cs::xs) (.agg ds::ys) (L++ids)
def FD (σ:ZA)(x r:AV):Prop:=
 ∃ids:List Nat,ids.Nodup/\match x,r with
 | .tup xs,.tup ys=>CT σ xs ys ids
 | .tup _,_=>False
 |_,.tup _=>False
 |x,r=>CT σ [x] [r] ids
def ZPH (P:Program)(fn:Func)(r:AV)(e:Exit)(st:ASt):Prop:=
 match e with
 | .normal| .ret=>ZBz P st.σ st.fr fn.results.toList (hold (fun xs=>FD st.σ (pack xs) r) .mk)
 |_=>False
theorem ZOB {fn:Func}{r:AV}{st:ASt}:ZPH P fn r .ret st=(ZBz P st.σ st.fr fn.results.toList (hold (fun xs=>FD st.σ (pack xs) r) .mk)):=rfl
theorem ZJK {fn:Func}{r:AV}{st:ASt}:ZPH P fn r .normal st=(ZBz P st.σ st.fr fn.results.toList (hold (fun xs=>FD st.σ (pack xs) r) .mk)):=rfl
def drp (σ:ZA):List Nat->ZA
 | []=>σ
 |l::r=>(drp σ r).set l .dead
def RW (sz n:Nat)(rows:List (List AV))(us:List Value):Prop:=rows.length=n/\(∀e,e∈rows->e.length=sz)/\rows.flatten=us.map .lit
def ZQ8 (sz i:Nat)(us vs:List Value):List Value:=us.take (i*sz)++(vs++us.drop (i*sz+sz))
inductive ZC :List AV->List Value->Prop
 |nil:ZC [] []
 |lit (v:Value) {xs:List AV} {vs:List Value} (h:ZC xs vs):ZC (.lit v::xs) (v::vs)
 |emp (a:Option Addr) (cap:Nat) {xs:List AV} {vs:List Value} (h:ZC xs vs):ZC (.arr []::xs) (.slice a 0 cap::vs)
def ZQp (P:Program)(B:Nat)(f:FuncId)(es:List (List AV))(ks:List Value)(es':List (List AV))(r:Value):Prop:=
 Ent P f/\∀w v F,DVs B w [.arr es] [v] F->F.Nodup->Calls P f (#[v]++ks.toArray) w fun e w'=>e=.returned r/\
  ∃F',DVs B w' [.arr es'] [v] F'/\F'.Nodup/\(∀b,b∈F'->b∈F∨w.heap.size<=b)/\
   w.heap.size<=w'.heap.size/\(∀b,b<w.heap.size->b∉F->w'.heap[b]? =w.heap[b]?)/\
   (∀b ccs ty,b∈F->w.heap[b]? =some (.cells ccs ty (0,0))->∃ccs',w'.heap[b]? =some (.cells ccs' ty (0,0))/\ccs'.size=ccs.size)/\
   w'.tape=w.tape/\w'.os=w.os/\w'.output=w.output
def ZQJ (σ:ZA)(sz:Nat)(es':List (List AV))(r:Value)(xs:List AV):Prop:=
 xs=[.lit r]/\∃rows us,σ[0]? =some (.elems sz rows)/\(∃l2:Nat,σ[l2]? =some (.pack es'.flatten us))/\rows.flatten=us.map .lit/\rows.length=es'.length/\∀e,e∈es'->e.length=sz
def ZPI (P:Program)(fn:Func)(sz:Nat)(es':List (List AV))(r:Value)(e:Exit)(st:ASt):Prop:=
 match e with
 | .normal| .ret=>ZBz P st.σ st.fr fn.results.toList (hold (ZQJ st.σ sz es' r) .mk)
 |_=>False
theorem ZOC {fn:Func}{sz:Nat}{es':List (List AV)}{r:Value}{st:ASt}:ZPI P fn sz es' r .ret st=(ZBz P st.σ st.fr fn.results.toList (hold (ZQJ st.σ sz es' r) .mk)):=rfl
theorem ZJQ {fn:Func}{sz:Nat}{es':List (List AV)}{r:Value}{st:ASt}:ZPI P fn sz es' r .normal st=(ZBz P st.σ st.fr fn.results.toList (hold (ZQJ st.σ sz es' r) .mk)):=rfl
def ZL5 (P:Program)(fn:Func)(r:Value)(e:Exit)(st:ASt):Prop:=
 match e with
 | .normal| .ret=>ZBz P st.σ st.fr fn.results.toList (hold (fun xs=>xs=[.lit r]) .mk)
 |_=>False
theorem ZMZ {fn:Func}{r:Value}{st:ASt}:ZL5 P fn r .ret st=(ZBz P st.σ st.fr fn.results.toList (hold (fun xs=>xs=[.lit r]) .mk)):=rfl
theorem ZH6 {fn:Func}{r:Value}{st:ASt}:ZL5 P fn r .normal st=(ZBz P st.σ st.fr fn.results.toList (hold (fun xs=>xs=[.lit r]) .mk)):=rfl
def ZNr (sz:Nat):Nat->List Value->List (List AV)
 |0,_=>[]
 |n+1,us=>(us.take sz).map .lit::ZNr sz n (us.drop sz)
theorem ZNg {α:Type}{l:List α}(h:l.length=1):∃a,l=[a]:=by match l,h with| [a],_=>exact⟨a,rfl⟩
theorem ZPS {α:Type}{l:List α}(h:l.length=2):∃a b,l=[a,b]:=by match l,h with| [a,b],_=>exact⟨a,b,rfl⟩
end
attribute [simp] ZOB ZJK ZOC ZJQ ZMZ ZH6 drp ZAX ZDI ZMC ZFa ZJe ZPy ZJR
end Go.Vl
