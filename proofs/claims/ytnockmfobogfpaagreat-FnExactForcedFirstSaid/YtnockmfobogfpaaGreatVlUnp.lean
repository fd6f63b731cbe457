/- Part. -/
import Derived.Test.YtnockmfobogfpaaGreatVlDeep
set_option linter.all false
namespace Go.Vl
open Go Go.RowKit
section
variable {P : Program} {B nb N : Nat}
end
end Go.Vl
