/- The value-level layer, part 29: plain loops. -/
import Derived.Test.YtnbcpgpmeeminaaDoorVlP
set_option linter.all false
namespace Go.Vl
open Go Go.RowKit
theorem rem_small {l:Int}{n:Nat}(h:¬rem l n<0):(n:Int)≤l:=by simp only[rem]at h;split at h<;>omega
end Go.Vl
