/- The plain lemmas of the counting, copying and comparing functions (printed by gen_p.py). -/
import Derived.Test.YtemnnldmdlgfpaaCallsOfF
import Derived.Test.YtemnnldmdlgfpaaVlP
set_option linter.unusedSimpArgs false
set_option linter.unusedVariables false
namespace Go.Vl
open Go Go.RowKit
end Go.Vl
