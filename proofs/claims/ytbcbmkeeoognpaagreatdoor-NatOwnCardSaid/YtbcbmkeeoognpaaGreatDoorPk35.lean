/- Contracts of functions, and plain facts, part 35. -/
import Derived.Deep.DeepCutAuto
import Derived.IntWalk
import Derived.Test.YtbcbmkeeoognpaaGreatDoorPk13
import Derived.Test.YtbcbmkeeoognpaaGreatDoorPk32
import Derived.Test.YtbcbmkeeoognpaaGreatDoorPk33
set_option linter.unusedVariables false
set_option linter.unusedSimpArgs false

