/- The value-level layer, part 23: bounds on what a value holds. -/
import Derived.Test.YtbibfeagkocjlaaVlLaw
set_option linter.all false
namespace Go.Vl
open Go Go.RowKit
def rem (l:Int)(n:Nat):Int:=if n≤l then l-n else -1
theorem ZKz {l:Int}{n:Nat}(h:(n:Int)≤l):rem l n=l-n:=by simp[rem,h]
def ZO7 {α:Type}(xs:List α)(k:Nat)(z:α):List α:=xs.take k++List.replicate (xs.length-k) z
end Go.Vl
