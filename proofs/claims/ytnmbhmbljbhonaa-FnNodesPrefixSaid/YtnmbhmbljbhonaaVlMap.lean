/- A part of the proof. -/
import Derived.Test.YtnmbhmbljbhonaaVlMut
import Derived.MapKept
set_option linter.all false
namespace Go.Vl
open Go Go.RowKit
abbrev Ms :=List (Nat×List ByteArray)
def ZOl (P:Program)(t:TypeId):Bool:=match P.underlying t with
 |some (.map k e)=>(match P.underlying k with|some .string=>true|_=>false)&& (match P.info? e with|some ti=>(match ti.zero with|some (.bool false)=>true|_=>false)|none=>false)
 |_=>false
def ZNf (es:List MapEntry)(ks:List ByteArray):Prop:=es.map (fun e=>(e.key,e.val))=ks.map fun k=>(Value.string k,Value.bool true)
def MOk (w00:World)(ms:Ms)(m:Map)(w:World):Prop:=
 (∀p,p∈ms->w00.heap.size<=p.1/\p.1<w.heap.size/\m.av p.1/\∃es clock,w.heap[p.1]? =some (.map es clock)/\ZNf es.toList p.2)/\(ms.map (·.1)).Nodup
structure MSim (B N:Nat)(w00:World)(ms:Ms)(st:ASt)(m:Map)(a:Act)(w:World):Prop where
 sim:Sim B m st.σ w
 fr:FrSim B m w N st.fr a.tmps
 df:a.defers=[]
 below:Below w00.heap.size w00 w
 young:∀b,Wr m b->w00.heap.size<=b
 mok:MOk w00 ms m w
section
variable {P : Program} {B N : Nat} {w00 : World}
def ZEs (ms:Ms)(b:Nat):Option (List ByteArray):=match ms with
 | []=>none
 |(c,ks)::r=>if c=b then some ks else ZEs r b
def ZIv (ms:Ms)(b:Nat)(k:List ByteArray):Ms:=match ms with
 | []=>[]
 |(c,ks)::r=>if c=b then(c,k)::r else(c,ks)::ZIv r b k
noncomputable def ZLx (ks:List ByteArray)(s:ByteArray):List ByteArray:=if dec (s∈ks)=true then ks else ks++[s]
def ZF1 :Op->Bool
 | .makeMap .. | .lookup .. | .mapUpdate .. =>true
 |_=>false
def ZOh (P:Program)(N:Nat)(o:Oper)(st:ASt)(ms:Ms)(K:ASt->Ms->Prop):Prop:=
 match o.op with
 | .makeMap _ none=>∀b,(∀p,p∈ms->p.1≠b)->ZAQ N o.dst (.lit (.map (some b))) st.fr st.σ fun st'=>K st' (ms++[(b,[])])
 | .lookup t x k false=>ZOl P t=true/\match ev st.fr x,ev st.fr k with
  | .lit (.map (some b)),.lit (.string s)=>match ZEs ms b with
   |some ks=>ZAQ N o.dst (.lit (.bool (dec (s∈ks)))) st.fr st.σ fun st'=>K st' ms
   |none=>False
  |_,_=>False
 | .mapUpdate t x k v=>ZOl P t=true/\match ev st.fr x,ev st.fr k,ev st.fr v with
  | .lit (.map (some b)),.lit (.string s),.lit (.bool true)=>match ZEs ms b with
   |some ks=>ZAQ N o.dst (.lit undef) st.fr st.σ fun st'=>K st' (ZIv ms b (ZLx ks s))
   |none=>False
  |_,_,_=>False
 |_=>False
def ZB7 (P:Program)(B N:Nat)(ops:Array Oper):List Oper->ASt->Ms->(ASt->Ms->Prop)->Prop
 | [],st,ms,K=>K st ms
 | o :: rest, st, ms, K => if ZF1 o.op = true then ZAd ops st.fr o.guard (ZOh P N o st ms fun st' ms' => ZB7 P B N ops rest st' ms' K)
    (ZAQ N o.dst (.lit undef) st.fr st.σ fun st'=>ZB7 P B N ops rest st' ms K)
   else ZAd ops st.fr o.guard (aop P B N o st fun st'=>ZB7 P B N ops rest st' ms K)
    (ZAQ N o.dst (.lit undef) st.fr st.σ fun st'=>ZB7 P B N ops rest st' ms K)
def ZH7 (P:Program)(B N:Nat)(c:Code)(st:ASt)(ms:Ms)(Q:Exit->ASt->Ms->Prop):Prop:=
 ∀w00 m a w,MSim B N w00 ms st m a w->ZNO P c (fun e a' w'=>∃st' ms' m',Q e st' ms'/\MSim B N w00 ms' st' m' a' w') a w
def ZGx (P:Program)(B N:Nat):Code->ASt->Ms->(Exit->ASt->Ms->Prop)->Prop
 | .skip,st,ms,Q=>Q .normal st ms
 | .region _ ops draw,st,ms,Q=>if draw=true then ADraw P B st.σ.length N ops st (fun st'=>Q .normal st' ms)else ZB7 P B N ops ops.toList st ms (Q .normal)
 | .seq a b,st,ms,Q=>ZGx P B N a st ms fun e st' ms'=>match e with
  | .normal=>ZGx P B N b st' ms' Q
  |e=>Q e st' ms'
 | .cond c a b,st,ms,Q=>match ev st.fr c with
  | .lit (.bool v)=>if v=true then ZGx P B N a st ms Q else ZGx P B N b st ms Q
  |_=>False
 | .block id c,st,ms,Q=>ZGx P B N c st ms fun e st' ms'=>match e with
  | .exit id'=>if id'=id then Q .normal st' ms' else Q (.exit id') st' ms'
  |e=>Q e st' ms'
 | .loop c,st,ms,Q=>ZH7 P B N c st ms Q
 | .exit id,st,ms,Q=>Q (.exit id) st ms
 | .ret,st,ms,Q=>Q .ret st ms
 |_,_,_,_=>False
def ZFN (P:Program)(B N:Nat)(c:Code)(Q:Exit->ASt->Ms->Prop)(st':ASt)(ms:Ms):Prop:=∃st2,Gh B 0 N st' st2/\ZH7 P B N c st2 ms Q
def ZD3 (B N:Nat)(Q:Exit->ASt->Ms->Prop)(e:Exit)(st':ASt)(ms:Ms):Prop:=∃st2,Gh B 0 N st' st2/\Q e st2 ms
def ZIM (P:Program)(B N:Nat)(c:Code)(Q:Exit->ASt->Ms->Prop)(e:Exit)(st':ASt)(ms:Ms):Prop:=
 match e with
 | .normal=>ZFN P B N c Q st' ms
 |e=>ZD3 B N Q e st' ms
end
end Go.Vl
