/- Part. -/
import Derived.Test.YtnockmfobogfpaaGreatTestedPartsF
set_option linter.all false
namespace Go.Vl
open Go Go.RowKit
end Go.Vl
