/- A part of the proof. -/
import Derived.Test.YtnmbhmbljbhonaaGreatVlDrawN
set_option linter.all false
namespace Go.Vl
open Go Go.RowKit
section
variable {P : Program} {B nb N : Nat} {fs : List FuncId} {ops : Array Oper}
end
end Go.Vl
