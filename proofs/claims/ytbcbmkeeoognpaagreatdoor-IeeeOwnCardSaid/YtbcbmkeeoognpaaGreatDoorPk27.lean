/- Contracts of functions, and plain facts, part 27. -/
import Derived.Test.YtbcbmkeeoognpaaGreatDoorPk24
import Derived.Test.YtbcbmkeeoognpaaGreatDoorPk26
set_option linter.unusedVariables false
set_option linter.unusedSimpArgs false
/- Rows of one's own: cut, made empty, two at a time; the call of off. -/
namespace Go.Proofs.YtbcbmkeeoognpaaGreatDoor
open Go Go.RowKit

section
variable {P : Program} {need : List (Tmp × FD)} {d : Option Tmp} {ty : TypeId} {pos : String} {af : Array Edge} {g : Option (Nat × Bool)} {x y : Operand}
theorem App.take {B : Nat} {w : World} {e : TypeId} {k : IntKind} {ad : Option Addr} {n c : Nat} {xs : List Int} (h : App B w e k ad n c xs) (j : Nat) (hj : j ≤ n) : App B w e k ad j c (xs.take j) := by
  have hl := h.len
  refine ⟨by rw [nums_length, List.length_take, hl, Nat.mul_one]; omega, ?_⟩
  rcases h.2 with ⟨h1, h2⟩ | ⟨g, cap, cur, h1, h2, h3, h4, h5, h6, h7⟩
  · subst h2
    obtain rfl : j = 0 := by omega
    exact .inl ⟨h1, rfl⟩
  · injection h1 with h1 h1' h1''
    subst h1 h1''
    refine .inr ⟨g, c, cur, rfl, h2, h3, by omega, h5, h6, ?_⟩
    rw [Nat.mul_one] at h7 ⊢
    have e2 : nums k (xs.take j) = (nums k xs).take j := by unfold nums; rw [List.map_take]
    rw [e2, ← h7, List.take_take, Nat.min_eq_left hj]
end
section
variable {P : Program} {ops : Array Oper} {Q : Exit → Act → World → Prop} {N : Nat} {w0 : World} {B0 : Bx} {a : Act} {w : World} {B : Bx} {l : List (Tmp × FD)} {bxs : List Tmp}
end
end Go.Proofs.YtbcbmkeeoognpaaGreatDoor


/- The plain law of crucibleref02.Div: schoolbook division, limb by limb. -/
namespace Go.Proofs.YtbcbmkeeoognpaaGreatDoor
open Go Go.RowKit

end Go.Proofs.YtbcbmkeeoognpaaGreatDoor


/- R2div. (Printed by flowfn.py.) -/
namespace Go.Proofs.YtbcbmkeeoognpaaGreatDoor
open Go Go.RowKit

end Go.Proofs.YtbcbmkeeoognpaaGreatDoor

