/- Part. -/
import Derived.Test.YtodkbabdaoeooaaGreatDoorVlText
import Derived.Shelf.Strings.OnBuilder
import Derived.Shelf.Strconv.Itoa3
set_option linter.unusedVariables false
set_option linter.unusedSimpArgs false
set_option linter.unusedVariables false
namespace Go.Vl
open Go Go.Proofs Go.Shelf Go.RowKit
variable {P : Program} {B : Nat} {ρ : Ren}
end Go.Vl
