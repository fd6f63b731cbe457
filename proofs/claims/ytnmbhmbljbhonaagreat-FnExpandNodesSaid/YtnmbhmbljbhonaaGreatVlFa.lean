/- A part of the proof. -/
import Derived.Test.YtnmbhmbljbhonaaGreatVlQ
set_option linter.all false
namespace Go.Vl
open Go Go.RowKit
def ZPZ {α:Type}(s:Nat->α)(i:Nat)(v:α):Nat->α:=fun k=>if k=i then v else s k
def fcB (n:Nat)(s:Nat->Bool):List AV:=(List.range n).map fun k=>.lit (.bool (s k))
def fcI (n:Nat)(s:Nat->Int):List AV:=(List.range n).map fun k=>.lit (.int .i64 (s k))
theorem ZOI {a:AV}:List.replicate 4 a=[a,a,a,a]:=rfl
theorem ZOH {a:AV}:List.replicate 6 a=[a,a,a,a,a,a]:=rfl
theorem ZOG {a:AV}:List.replicate 8 a=[a,a,a,a,a,a,a,a]:=rfl
attribute [simp] ZOI ZOH ZOG
end Go.Vl
