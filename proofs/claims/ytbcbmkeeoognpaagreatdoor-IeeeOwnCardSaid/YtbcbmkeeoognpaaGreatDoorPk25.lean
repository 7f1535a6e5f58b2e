/- Contracts of functions, and plain facts, part 25. -/
import Derived.Test.YtbcbmkeeoognpaaGreatDoorPk20
import Derived.Test.YtbcbmkeeoognpaaGreatDoorPk24
set_option linter.unusedVariables false
set_option linter.unusedSimpArgs false
/- R2fits. (Printed by flowfn.py.) -/
namespace Go.Proofs.YtbcbmkeeoognpaaGreatDoor
open Go Go.RowKit

/-- The lower i limbs. -/
def low (xs : List Int) (i : Nat) : Int := val 4294967296 (xs.take i)
end Go.Proofs.YtbcbmkeeoognpaaGreatDoor

