/- The plain lemmas of the counting, copying and comparing functions (printed by gen_p.py). -/
import Derived.Test.YtkgcopogpmckdaaGreatGuardFreeF
import Derived.Test.YtkgcopogpmckdaaGreatVlP
set_option linter.all false
namespace Go.Vl
open Go Go.RowKit
end Go.Vl
