/- Contracts of functions, and plain facts, part 34. -/
import Derived.Deep.DeepCutAuto
import Derived.IntWalk
import Derived.Test.YtbcbmkeeoognpaaGreatDoorPk33
set_option linter.unusedVariables false
set_option linter.unusedSimpArgs false


