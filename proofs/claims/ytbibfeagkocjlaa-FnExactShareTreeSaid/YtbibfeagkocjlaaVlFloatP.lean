/- The value-level layer: a new cell that may come at any place, behind edges and in another order of the text. -/
import Derived.Test.YtbibfeagkocjlaaVlFloat
set_option linter.all false
namespace Go.Vl
open Go Go.RowKit
section
variable {P : Program} {B nb N : Nat}
end
end Go.Vl
