/- A part of the proof. -/
import Derived.Test.YtnmbhmbljbhonaaGreatVlSplit
set_option linter.all false
namespace Go.Vl
open Go Go.RowKit
section
variable {P : Program} {B nb N : Nat} {w : World}
inductive DTs (B:Nat)(w:World):List AV->List Value->List Nat->Prop
 |nil:DTs B w [] [] []
 |cell {x:AV} {v:Value} {xs:List AV} {vs:List Value} {F G:List Nat} (h:DVs B w [x] [v] F) (h':DTs B w xs vs G):DTs B w (x::xs) (v::vs) (F++G)
 |agg {cs:List AV} {us:Array Value} {xs:List AV} {vs:List Value} {F G:List Nat} (h:DVs B w cs us.toList F) (h':DTs B w xs vs G):DTs B w (.agg cs::xs) (.agg us::vs) (F++G)
def DA (B:Nat)(w:World)(r:AV)(u:Value)(F:List Nat):Prop:=
 match r with
 | .tup xs=>∃us:Array Value,u=.tuple us/\DTs B w xs us.toList F
 |r=>DTs B w [r] [u] F
def ZC3 :List AV->List (List (List AV))
 | []=>[]
 | .agg cs::r=>ZAZ cs++ZC3 r
 |x::r=>ZAZ [x]++ZC3 r
def ZI5 :List AV->List Value->List AV
 | [],_=>[]
 | .agg cs::r,hs=>.agg (ZE2 cs (hs.take (ZAZ cs).length))::ZI5 r (hs.drop (ZAZ cs).length)
 |x::r,hs=>ZE2 [x] (hs.take (ZAZ [x]).length)++ZI5 r (hs.drop (ZAZ [x]).length)
def ZLP :AV->List (List (List AV))
 | .tup xs=>ZC3 xs
 |r=>ZC3 [r]
def ZOV (r:AV)(hs:List Value):AV:=
 match r with
 | .tup xs=>.tup (ZI5 xs hs)
 |r=>(ZI5 [r] hs).headD .junk
def ZI6 :List AV->List Value->Prop
 | [],[]=>True
 | .lit v::r,u::us=>v=u/\ZI6 r us
 | .agg cs::r,.agg as::us=>cs=as.toList.map .lit/\ZI6 r us
 |_,_=>False
def ZPY (P:Program)(B:Nat)(f:FuncId)(args:List AV)(r:AV):Prop:=
 Ent P f/\∀(av:Nat->Prop) w vs,(∀b,av b->b<w.heap.size)->ZHB B av M0 w args vs->
  Calls P f vs w fun e w'=>∃u F,e=.returned u/\DA B w' r u F/\F.Nodup/\(∀b,b∈F->w.heap.size<=b)/\Below w.heap.size w w'
inductive CP (σ:ZF):List AV->List Value->List Nat->Prop
 |nil:CP σ [] [] []
 |lit (v:Value) {ys:List AV} {vs:List Value} {ids:List Nat} (h:CP σ ys vs ids):CP σ (.lit v::ys) (v::vs) ids
 |nilS (a:Option Addr) (cap:Nat) {ys:List AV} {vs:List Value} {ids:List Nat} (h:CP σ ys vs ids):CP σ (.arr []::ys) (.slice a 0 cap::vs) ids
 |pk (l:Nat) {es:List (List AV)} {v:Value} {ys:List AV} {vs:List Value} {ids:List Nat} (h1:σ[l]? =some (.pack [.arr es] [v])) (h:CP σ ys vs ids):CP σ (.arr es::ys) (v::vs) (l::ids)
 |blk (l:Nat) {xs:List AV} {us:List Value} {ys:List AV} {vs:List Value} {ids:List Nat} (h1:σ[l]? =some (.pack xs us)) (h:CP σ ys vs ids):CP σ (xs++ys) (us++vs) (l::ids)
inductive CD (σ:ZF):List AV->List AV->List Nat->Prop
 |nil:CD σ [] [] []
 |lit (v:Value) {xs ys:List AV} {ids:List Nat} (h:CD σ xs ys ids):CD σ (.lit v::xs) (.lit v::ys) ids
 |nilS (a:Option Addr) (cap:Nat) {xs ys:List AV} {ids:List Nat} (h:CD σ xs ys ids):CD σ (.lit (.slice a 0 cap)::xs) (.arr []::ys) ids
 |own (l l2 n sz:Nat) {es rows:List (List AV)} {zs:List AV} {us:List Value} {xs ys:List AV} {ids:List Nat} (h1:σ[l]? =some (.elems sz rows)) (h2:σ[l2]? =some (.pack zs us)) (h3:zs=es.flatten) (h4:rows.flatten=us.map .lit)
   (h5:rows.length=n) (h6:es.length=n) (h7:∀e,e∈es->e.length=sz) (h:CD σ xs ys ids):CD σ (.own l n::xs) (.arr es::ys) (l::l2::ids)
 |ownL (l n sz:Nat) {es:List (List AV)} {us:List Value} {xs ys:List AV} {ids:List Nat} (h1:σ[l]? =some (.elems sz es)) (h4:es.flatten=us.map .lit) (h5:es.length=n) (h:CD σ xs ys ids):CD σ (.own l n::xs) (.arr es::ys) (l::ids)
 |pk (l:Nat) {es:List (List AV)} {v:Value} {xs ys:List AV} {ids:List Nat} (h1:σ[l]? =some (.pack [.arr es] [v])) (h:CD σ xs ys ids):CD σ (.lit v::xs) (.arr es::ys) (l::ids)
 |ZCj (l n sz:Nat) {es rows:List (List AV)} {us:List Value} {L:List Nat} {xs ys:List AV} {ids:List Nat} (h1:σ[l]? =some (.elems sz rows)) {zs:List AV} (hx:es.flatten=zs) (h2:CP σ zs us L) (h4:rows.flatten=us.map .lit)
   (h5:rows.length=n) (h6:es.length=n) (h7:∀e,e∈es->e.length=sz) (h:CD σ xs ys ids):CD σ (.own l n::xs) (.arr es::ys) (l::L++ids)
inductive CT (σ:ZF):List AV->List AV->List Nat->Prop
 |nil:CT σ [] [] []
 |cell {x y:AV} {xs ys:List AV} {L ids:List Nat} (h:CD σ [x] [y] L) (h':CT σ xs ys ids):CT σ (x::xs) (y::ys) (L++ids)
 |agg {cs ds:List AV} {xs ys:List AV} {L ids:List Nat} (h:CD σ cs ds L) (h':CT σ xs ys ids):CT σ (.agg cs::xs) (.agg ds::ys) (L++ids)
def FD (σ:ZF)(x r:AV):Prop:=
 ∃ids:List Nat,ids.Nodup/\match x,r with
 | .tup xs,.tup ys=>CT σ xs ys ids
 | .tup _,_=>False
 |_,.tup _=>False
 |x,r=>CT σ [x] [r] ids
def ZN4 (P:Program)(fn:Func)(r:AV)(e:Exit)(st:ASt):Prop:=
 match e with
 | .normal| .ret=>ZBs P st.σ st.fr fn.results.toList (hold (fun xs=>FD st.σ (pack xs) r) .mk)
 |_=>False
theorem ZNA {fn:Func}{r:AV}{st:ASt}:ZN4 P fn r .ret st=(ZBs P st.σ st.fr fn.results.toList (hold (fun xs=>FD st.σ (pack xs) r) .mk)):=rfl
theorem ZIp {fn:Func}{r:AV}{st:ASt}:ZN4 P fn r .normal st=(ZBs P st.σ st.fr fn.results.toList (hold (fun xs=>FD st.σ (pack xs) r) .mk)):=rfl
def drp (σ:ZF):List Nat->ZF
 | []=>σ
 |l::r=>(drp σ r).set l .dead
def RW (sz n:Nat)(rows:List (List AV))(us:List Value):Prop:=rows.length=n/\(∀e,e∈rows->e.length=sz)/\rows.flatten=us.map .lit
def ZP4 (sz i:Nat)(us vs:List Value):List Value:=us.take (i*sz)++(vs++us.drop (i*sz+sz))
inductive ZC :List AV->List Value->Prop
 |nil:ZC [] []
 |lit (v:Value) {xs:List AV} {vs:List Value} (h:ZC xs vs):ZC (.lit v::xs) (v::vs)
 |emp (a:Option Addr) (cap:Nat) {xs:List AV} {vs:List Value} (h:ZC xs vs):ZC (.arr []::xs) (.slice a 0 cap::vs)
def ZPX (P:Program)(B:Nat)(f:FuncId)(es:List (List AV))(ks:List Value)(es':List (List AV))(r:Value):Prop:=
 Ent P f/\∀w v F,DVs B w [.arr es] [v] F->F.Nodup->Calls P f (#[v]++ks.toArray) w fun e w'=>e=.returned r/\
  ∃F',DVs B w' [.arr es'] [v] F'/\F'.Nodup/\(∀b,b∈F'->b∈F∨w.heap.size<=b)/\
   w.heap.size<=w'.heap.size/\(∀b,b<w.heap.size->b∉F->w'.heap[b]? =w.heap[b]?)/\
   (∀b ccs ty,b∈F->w.heap[b]? =some (.cells ccs ty (0,0))->∃ccs',w'.heap[b]? =some (.cells ccs' ty (0,0))/\ccs'.size=ccs.size)/\
   w'.tape=w.tape/\w'.os=w.os/\w'.output=w.output
def ZOp (σ:ZF)(sz:Nat)(es':List (List AV))(r:Value)(xs:List AV):Prop:=
 xs=[.lit r]/\∃rows us,σ[0]? =some (.elems sz rows)/\(∃l2:Nat,σ[l2]? =some (.pack es'.flatten us))/\rows.flatten=us.map .lit/\rows.length=es'.length/\∀e,e∈es'->e.length=sz
def ZN5 (P:Program)(fn:Func)(sz:Nat)(es':List (List AV))(r:Value)(e:Exit)(st:ASt):Prop:=
 match e with
 | .normal| .ret=>ZBs P st.σ st.fr fn.results.toList (hold (ZOp st.σ sz es' r) .mk)
 |_=>False
theorem ZNB {fn:Func}{sz:Nat}{es':List (List AV)}{r:Value}{st:ASt}:ZN5 P fn sz es' r .ret st=(ZBs P st.σ st.fr fn.results.toList (hold (ZOp st.σ sz es' r) .mk)):=rfl
theorem ZIt {fn:Func}{sz:Nat}{es':List (List AV)}{r:Value}{st:ASt}:ZN5 P fn sz es' r .normal st=(ZBs P st.σ st.fr fn.results.toList (hold (ZOp st.σ sz es' r) .mk)):=rfl
def ZLH (P:Program)(fn:Func)(r:Value)(e:Exit)(st:ASt):Prop:=
 match e with
 | .normal| .ret=>ZBs P st.σ st.fr fn.results.toList (hold (fun xs=>xs=[.lit r]) .mk)
 |_=>False
theorem ZLl {fn:Func}{r:Value}{st:ASt}:ZLH P fn r .ret st=(ZBs P st.σ st.fr fn.results.toList (hold (fun xs=>xs=[.lit r]) .mk)):=rfl
theorem ZHV {fn:Func}{r:Value}{st:ASt}:ZLH P fn r .normal st=(ZBs P st.σ st.fr fn.results.toList (hold (fun xs=>xs=[.lit r]) .mk)):=rfl
def ZMs (sz:Nat):Nat->List Value->List (List AV)
 |0,_=>[]
 |n+1,us=>(us.take sz).map .lit::ZMs sz n (us.drop sz)
theorem ZMd {α:Type}{l:List α}(h:l.length=1):∃a,l=[a]:=by match l,h with| [a],_=>exact⟨a,rfl⟩
end
attribute [simp] ZNA ZIp ZNB ZIt ZLl ZHV drp ZAZ ZC3 ZLP ZE2 ZI5 ZOV ZIu
end Go.Vl
