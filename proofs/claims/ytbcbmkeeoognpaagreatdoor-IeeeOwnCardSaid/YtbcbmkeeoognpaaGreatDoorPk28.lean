/- Contracts of functions, and plain facts, part 28. -/
import Derived.Test.YtbcbmkeeoognpaaGreatDoorPk23
import Derived.Test.YtbcbmkeeoognpaaGreatDoorPk27
set_option linter.unusedVariables false
set_option linter.unusedSimpArgs false
/- R2divF. (Printed by flowfn.py.) -/
namespace Go.Proofs.YtbcbmkeeoognpaaGreatDoor
open Go Go.RowKit

end Go.Proofs.YtbcbmkeeoognpaaGreatDoor

