/- A part of the proof. -/
import Derived.Test.YtnmbhmbljbhonaaGreatVlMut
import Derived.MapKept
set_option linter.all false
namespace Go.Vl
open Go Go.RowKit
abbrev Ms :=List (Nat×List ByteArray)
def ZOt (P:Program)(t:TypeId):Bool:=match P.underlying t with
 |some (.map k e)=>(match P.underlying k with|some .string=>true|_=>false)&& (match P.info? e with|some ti=>(match ti.zero with|some (.bool false)=>true|_=>false)|none=>false)
 |_=>false
def ZNn (es:List MapEntry)(ks:List ByteArray):Prop:=es.map (fun e=>(e.key,e.val))=ks.map fun k=>(Value.string k,Value.bool true)
def MOk (w00:World)(ms:Ms)(m:Map)(w:World):Prop:=
 (∀p,p∈ms->w00.heap.size<=p.1/\p.1<w.heap.size/\m.av p.1/\∃es clock,w.heap[p.1]? =some (.map es clock)/\ZNn es.toList p.2)/\(ms.map (·.1)).Nodup
structure MSim (B N:Nat)(w00:World)(ms:Ms)(st:ASt)(m:Map)(a:Act)(w:World):Prop where
 sim:Sim B m st.σ w
 fr:FrSim B m w N st.fr a.tmps
 df:a.defers=[]
 below:Below w00.heap.size w00 w
 young:∀b,Wr m b->w00.heap.size<=b
 mok:MOk w00 ms m w
section
variable {P : Program} {B N : Nat} {w00 : World}
def ZEz (ms:Ms)(b:Nat):Option (List ByteArray):=match ms with
 | []=>none
 |(c,ks)::r=>if c=b then some ks else ZEz r b
def ZI3 (ms:Ms)(b:Nat)(k:List ByteArray):Ms:=match ms with
 | []=>[]
 |(c,ks)::r=>if c=b then(c,k)::r else(c,ks)::ZI3 r b k
noncomputable def ZL3 (ks:List ByteArray)(s:ByteArray):List ByteArray:=if dec (s∈ks)=true then ks else ks++[s]
def ZF5 :Op->Bool
 | .makeMap .. | .lookup .. | .mapUpdate .. =>true
 |_=>false
def ZOo (P:Program)(N:Nat)(o:Oper)(st:ASt)(ms:Ms)(K:ASt->Ms->Prop):Prop:=
 match o.op with
 | .makeMap _ none=>∀b,(∀p,p∈ms->p.1≠b)->ZAW N o.dst (.lit (.map (some b))) st.fr st.σ fun st'=>K st' (ms++[(b,[])])
 | .lookup t x k false=>ZOt P t=true/\match ev st.fr x,ev st.fr k with
  | .lit (.map (some b)),.lit (.string s)=>match ZEz ms b with
   |some ks=>ZAW N o.dst (.lit (.bool (dec (s∈ks)))) st.fr st.σ fun st'=>K st' ms
   |none=>False
  |_,_=>False
 | .mapUpdate t x k v=>ZOt P t=true/\match ev st.fr x,ev st.fr k,ev st.fr v with
  | .lit (.map (some b)),.lit (.string s),.lit (.bool true)=>match ZEz ms b with
   |some ks=>ZAW N o.dst (.lit undef) st.fr st.σ fun st'=>K st' (ZI3 ms b (ZL3 ks s))
   |none=>False
  |_,_,_=>False
 |_=>False
def ZCA (P:Program)(B N:Nat)(ops:Array Oper):List Oper->ASt->Ms->(ASt->Ms->Prop)->Prop
 | [],st,ms,K=>K st ms
 | o :: rest, st, ms, K => if ZF5 o.op = true then ZAj ops st.fr o.guard (ZOo P N o st ms fun st' ms' => ZCA P B N ops rest st' ms' K)
    (ZAW N o.dst (.lit undef) st.fr st.σ fun st'=>ZCA P B N ops rest st' ms K)
   else ZAj ops st.fr o.guard (aop P B N o st fun st'=>ZCA P B N ops rest st' ms K)
    (ZAW N o.dst (.lit undef) st.fr st.σ fun st'=>ZCA P B N ops rest st' ms K)
def ZIF (P:Program)(B N:Nat)(c:Code)(st:ASt)(ms:Ms)(Q:Exit->ASt->Ms->Prop):Prop:=
 ∀w00 m a w,MSim B N w00 ms st m a w->ZNW P c (fun e a' w'=>∃st' ms' m',Q e st' ms'/\MSim B N w00 ms' st' m' a' w') a w
def ZG3 (P:Program)(B N:Nat):Code->ASt->Ms->(Exit->ASt->Ms->Prop)->Prop
 | .skip,st,ms,Q=>Q .normal st ms
 | .region _ ops draw,st,ms,Q=>if draw=true then ADraw P B st.σ.length N ops st (fun st'=>Q .normal st' ms)else ZCA P B N ops ops.toList st ms (Q .normal)
 | .seq a b,st,ms,Q=>ZG3 P B N a st ms fun e st' ms'=>match e with
  | .normal=>ZG3 P B N b st' ms' Q
  |e=>Q e st' ms'
 | .cond c a b,st,ms,Q=>match ev st.fr c with
  | .lit (.bool v)=>if v=true then ZG3 P B N a st ms Q else ZG3 P B N b st ms Q
  |_=>False
 | .block id c,st,ms,Q=>ZG3 P B N c st ms fun e st' ms'=>match e with
  | .exit id'=>if id'=id then Q .normal st' ms' else Q (.exit id') st' ms'
  |e=>Q e st' ms'
 | .loop c,st,ms,Q=>ZIF P B N c st ms Q
 | .exit id,st,ms,Q=>Q (.exit id) st ms
 | .ret,st,ms,Q=>Q .ret st ms
 |_,_,_,_=>False
def ZFS (P:Program)(B N:Nat)(c:Code)(Q:Exit->ASt->Ms->Prop)(st':ASt)(ms:Ms):Prop:=∃st2,Gh B 0 N st' st2/\ZIF P B N c st2 ms Q
def ZD5 (B N:Nat)(Q:Exit->ASt->Ms->Prop)(e:Exit)(st':ASt)(ms:Ms):Prop:=∃st2,Gh B 0 N st' st2/\Q e st2 ms
def ZIU (P:Program)(B N:Nat)(c:Code)(Q:Exit->ASt->Ms->Prop)(e:Exit)(st':ASt)(ms:Ms):Prop:=
 match e with
 | .normal=>ZFS P B N c Q st' ms
 |e=>ZD5 B N Q e st' ms
end
end Go.Vl
