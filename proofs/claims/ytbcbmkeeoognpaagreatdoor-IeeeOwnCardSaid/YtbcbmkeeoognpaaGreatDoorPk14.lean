/- Contracts of functions, and plain facts, part 14. -/
import Derived.Deep.LoopGhost
import Derived.Deep.DeepCutAuto
import Derived.Deep.CutBlock
import Derived.Test.YtbcbmkeeoognpaaGreatDoorPk4
import Derived.Test.YtbcbmkeeoognpaaGreatDoorPk5
import Derived.Test.YtbcbmkeeoognpaaGreatDoorPk6
import Derived.Test.YtbcbmkeeoognpaaGreatDoorPk7
import Derived.Test.YtbcbmkeeoognpaaGreatDoorPk9
import Derived.Test.YtbcbmkeeoognpaaGreatDoorPk10
import Derived.Test.YtbcbmkeeoognpaaGreatDoorPk11
import Derived.Test.YtbcbmkeeoognpaaGreatDoorPk12
import Derived.Test.YtbcbmkeeoognpaaGreatDoorPk13
set_option linter.unusedVariables false
set_option linter.unusedSimpArgs false
/- Long division: how it begins and what it ends in, plain. -/
namespace Go.Proofs.YtbcbmkeeoognpaaGreatDoor

variable {b P high next ylow x0 x1 x2 wlow Y W : Int}
/-- What was taken off was not too much. -/
theorem Win.kept (h : Win b P high next ylow x0 x1 x2 wlow Y W) (g X R : Int) (h1 : W / Y ≤ g) (h2 : g ≤ W / Y + 1) (hX : 0 ≤ X) (e : X + Y * g = W + (if false = true then 1 else 0) * R) : g = W / Y ∧ X = W % Y := by
  rw [if_neg (by simp), Int.zero_mul, Int.add_zero] at e
  have hm := Int.mul_comm Y g
  obtain ⟨k1, k2⟩ := (h.digit g h1 h2).1 (by omega)
  exact ⟨k1, by omega⟩
/-- It was: the divisor is put on again. -/
theorem Win.mended (h : Win b P high next ylow x0 x1 x2 wlow Y W) (g X R X2 o : Int) (h1 : W / Y ≤ g) (h2 : g ≤ W / Y + 1) (hX : 0 ≤ X ∧ X < R) (e : X + Y * g = W + (if true = true then 1 else 0) * R)
    (hY : Y < R) (hX2 : 0 ≤ X2 ∧ X2 < R) (e2 : X2 + o * R = X + Y) : g - 1 = W / Y ∧ X2 = W % Y := by
  rw [if_pos rfl, Int.one_mul] at e
  have hm := Int.mul_comm Y g
  obtain ⟨k1, k2⟩ := (h.digit g h1 h2).2 (by omega)
  obtain ⟨p1, p2, p3⟩ := h.pos
  have r1 := Int.emod_nonneg W (show Y ≠ 0 by omega)
  have r2 := Int.emod_lt_of_pos W p1
  refine ⟨k1, ?_⟩
  have e3 : X2 + o * R = W % Y + R := by omega
  rcases Int.lt_or_le o 1 with ho | ho
  · have : o * R ≤ 0 * R := Int.mul_le_mul_of_nonneg_right (by omega) (by omega)
    omega
  · rcases Int.lt_or_le 1 o with ho2 | ho2
    · have : 2 * R ≤ o * R := Int.mul_le_mul_of_nonneg_right (by omega) (by omega)
      omega
    · obtain rfl : o = 1 := by omega
      omega
end Go.Proofs.YtbcbmkeeoognpaaGreatDoor


/- quot.Digits's closure: the lowest nine digits of a variable's number, which is divided. -/
namespace Go.Proofs.YtbcbmkeeoognpaaGreatDoor
open Go.RowKit

end Go.Proofs.YtbcbmkeeoognpaaGreatDoor


/- quot.Read: the number that a text in decimal tells. -/
namespace Go.Proofs.YtbcbmkeeoognpaaGreatDoor
open Go.RowKit

end Go.Proofs.YtbcbmkeeoognpaaGreatDoor


/- Numbers as so many bytes in two's complement: plain. -/
namespace Go.Proofs.YtbcbmkeeoognpaaGreatDoor

end Go.Proofs.YtbcbmkeeoognpaaGreatDoor


/- RSub by worth alone. -/
namespace Go.Proofs.YtbcbmkeeoognpaaGreatDoor
open Go.RowKit

end Go.Proofs.YtbcbmkeeoognpaaGreatDoor


/- RShl by worth alone. -/
namespace Go.Proofs.YtbcbmkeeoognpaaGreatDoor
open Go.RowKit

end Go.Proofs.YtbcbmkeeoognpaaGreatDoor

