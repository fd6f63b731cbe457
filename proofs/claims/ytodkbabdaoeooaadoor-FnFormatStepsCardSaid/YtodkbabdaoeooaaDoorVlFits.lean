/- A part of the proof. -/
import Derived.Test.YtodkbabdaoeooaaDoorVlLaw
set_option linter.all false
namespace Go.Vl
open Go Go.RowKit
def rem (l:Int)(n:Nat):Int:=if n<=l then l-n else -1
def ZS6 {α:Type}(xs:List α)(k:Nat)(z:α):List α:=xs.take k++List.replicate (xs.length-k) z
end Go.Vl
