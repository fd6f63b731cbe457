/- A part of the proof. -/
import Derived.Test.YtinfmpljhapfgaaGreatDoorVlLaw
set_option linter.all false
namespace Go.Vl
open Go Go.RowKit
inductive Fits (p:List (List AV)->Prop):AV->Prop
 |lit (v:Value):Fits p (.lit v)
 |junk:Fits p .junk
 |arr (es:List (List AV)) (h:p es) (hx:∀e,e∈es->∀x,x∈e->Fits p x):Fits p (.arr es)
 |rptr (e:List AV) (off:Nat) (hx:∀x,x∈e->Fits p x):Fits p (.rptr e off)
 |agg (cs:List AV) (hx:∀x,x∈cs->Fits p x):Fits p (.agg cs)
 |tup (cs:List AV) (hx:∀x,x∈cs->Fits p x):Fits p (.tup cs)
def ZHp (B:Nat)(es:List (List AV)):Prop:=es.length<=B
def rem (l:Int)(n:Nat):Int:=if n<=l then l-n else -1
def ZQQ {α:Type}(xs:List α)(k:Nat)(z:α):List α:=xs.take k++List.replicate (xs.length-k) z
end Go.Vl
