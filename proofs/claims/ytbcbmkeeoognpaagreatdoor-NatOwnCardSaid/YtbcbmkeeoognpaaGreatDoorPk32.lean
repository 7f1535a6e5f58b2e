/- Contracts of functions, and plain facts, part 32. -/
import Derived.Test.YtbcbmkeeoognpaaGreatDoorProg
import Derived.Laws.Bits64b
import Derived.WalkKit
import Derived.Deep.RegionHeld3
import Derived.Test.YtbcbmkeeoognpaaGreatDoorPk1
import Derived.Test.YtbcbmkeeoognpaaGreatDoorPk4
import Derived.Test.YtbcbmkeeoognpaaGreatDoorPk5
import Derived.Test.YtbcbmkeeoognpaaGreatDoorPk6
import Derived.Test.YtbcbmkeeoognpaaGreatDoorPk10
set_option linter.unusedVariables false
set_option linter.unusedSimpArgs false
/- Patterns of bits as numbers: plain facts, no program. -/
namespace Go.Proofs.YtbcbmkeeoognpaaGreatDoor

/-- The size z of a pattern as a number of least steps (F digits of fraction). -/
def numN (F z : Nat) : Nat := if z < 2 ^ F then z else (2 ^ F + z % 2 ^ F) * 2 ^ (z / 2 ^ F - 1)

/-- r is the size of the nearest pattern to X; U: the least step; I: the first size that is no finite one's. -/
def Nearest (F I U X r : Nat) : Prop :=
  ∃ low, low ≤ I ∧ numN F low * U ≤ X ∧ (low < I → X < numN F (low + 1) * U) ∧
    r = if low = I then I else if (numN F low + numN F (low + 1)) * U < 2 * X ∨ (2 * X = (numN F low + numN F (low + 1)) * U ∧ low % 2 = 1) then low + 1 else low

end Go.Proofs.YtbcbmkeeoognpaaGreatDoor



/- The shapes of the three widths, and what a pattern is: plain definitions. -/
namespace Go.Proofs.YtbcbmkeeoognpaaGreatDoor

/-- Of a width (16, 32; all others: 64): digits of the fraction, digits of the exponent, the least power. -/
def shF (W : Nat) : Nat := if W = 16 then 10 else if W = 32 then 23 else 52
def shE (W : Nat) : Nat := if W = 16 then 5 else if W = 32 then 8 else 11
def shL (W : Nat) : Int := if W = 16 then -24 else if W = 32 then -149 else -1074
end Go.Proofs.YtbcbmkeeoognpaaGreatDoor



/- Printed by ieee.py. -/
namespace Go.Proofs.YtbcbmkeeoognpaaGreatDoor
open Go.RowKit

/-- The table of shapes as its initialiser lays it. -/
structure Shapes (w : World) : Prop where
  c0 : w.cell? ⟨2, 0, none⟩ = some (.int .i64 10)
  c1 : w.cell? ⟨2, 1, none⟩ = some (.int .i64 (-24))
  c2 : w.cell? ⟨2, 2, none⟩ = some (.int .i64 5)
  c3 : w.cell? ⟨2, 3, none⟩ = some (.int .i64 23)
  c4 : w.cell? ⟨2, 4, none⟩ = some (.int .i64 (-149))
  c5 : w.cell? ⟨2, 5, none⟩ = some (.int .i64 8)
  c6 : w.cell? ⟨2, 6, none⟩ = some (.int .i64 52)
  c7 : w.cell? ⟨2, 7, none⟩ = some (.int .i64 (-1074))
  c8 : w.cell? ⟨2, 8, none⟩ = some (.int .i64 11)

theorem Shapes.below {w w1 : World} (h : Shapes w) {B : Nat} (hb : Below B w w1) (hB : w.heap.size ≤ B) : Shapes w1 :=
  ⟨below_cell hb hB h.c0, below_cell hb hB h.c1, below_cell hb hB h.c2, below_cell hb hB h.c3, below_cell hb hB h.c4, below_cell hb hB h.c5, below_cell hb hB h.c6, below_cell hb hB h.c7, below_cell hb hB h.c8⟩

end Go.Proofs.YtbcbmkeeoognpaaGreatDoor


/- The nearest pattern as a function, and what the ways of finding it find: plain facts. -/
namespace Go.Proofs.YtbcbmkeeoognpaaGreatDoor

theorem numN_zero (F : Nat) : numN F 0 = 0 := by
  unfold numN
  rw [if_pos (Nat.two_pow_pos F)]

theorem low_exists (F U X : Nat) : ∀ I, ∃ low, low ≤ I ∧ numN F low * U ≤ X ∧ (low < I → X < numN F (low + 1) * U)
  | 0 => ⟨0, Nat.le_refl _, by rw [numN_zero]; omega, fun h => absurd h (Nat.lt_irrefl _)⟩
  | I + 1 => by
    obtain ⟨low, h1, h2, h3⟩ := low_exists F U X I
    by_cases h : low < I
    · exact ⟨low, by omega, h2, fun _ => h3 h⟩
    · obtain rfl : low = I := by omega
      by_cases h4 : numN F (low + 1) * U ≤ X
      · exact ⟨low + 1, Nat.le_refl _, h4, fun h => absurd h (Nat.lt_irrefl _)⟩
      · exact ⟨low, by omega, h2, fun _ => by omega⟩

theorem nearest_exists (F I U X : Nat) : ∃ r, Nearest F I U X r := by
  obtain ⟨low, h1, h2, h3⟩ := low_exists F U X I
  exact ⟨_, low, h1, h2, h3, rfl⟩

/-- The size of the nearest pattern. -/
noncomputable def nearN (F I U X : Nat) : Nat := Classical.choose (nearest_exists F I U X)
theorem Nearest.le {F I U X r : Nat} (h : Nearest F I U X r) : r ≤ I := by
  obtain ⟨low, h1, h2, h3, rfl⟩ := h
  split
  · omega
  · split <;> omega

/-- M 2^e in least steps (of 2^L), or in parts of one. -/
def rU (L e : Int) : Nat := 2 ^ (L - e).toNat
def rX (L e : Int) (M : Nat) : Nat := M * 2 ^ (e - L).toNat
def infN (W : Nat) : Nat := (2 ^ shE W - 1) * 2 ^ shF W
noncomputable def nearE (W : Nat) (M : Nat) (e : Int) : Nat := nearN (shF W) (infN W) (rU (shL W) e) (rX (shL W) e M)
end Go.Proofs.YtbcbmkeeoognpaaGreatDoor






