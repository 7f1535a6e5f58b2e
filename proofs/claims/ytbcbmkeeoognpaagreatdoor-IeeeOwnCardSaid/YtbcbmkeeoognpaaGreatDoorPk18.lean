/- Contracts of functions, and plain facts, part 18. -/
import Derived.LoopN
import Derived.Deep.RegionHeld3
import Derived.Test.YtbcbmkeeoognpaaGreatDoorPk1
import Derived.Test.YtbcbmkeeoognpaaGreatDoorPk4
import Derived.Test.YtbcbmkeeoognpaaGreatDoorPk5
import Derived.Test.YtbcbmkeeoognpaaGreatDoorPk6
import Derived.Test.YtbcbmkeeoognpaaGreatDoorPk11
import Derived.Test.YtbcbmkeeoognpaaGreatDoorPk12
import Derived.Test.YtbcbmkeeoognpaaGreatDoorPk13
import Derived.Test.YtbcbmkeeoognpaaGreatDoorPk14
import Derived.Test.YtbcbmkeeoognpaaGreatDoorPk15
import Derived.Test.YtbcbmkeeoognpaaGreatDoorPk17
set_option linter.unusedVariables false
set_option linter.unusedSimpArgs false
/- quot.Bytes: a number as bytes, the highest first. -/
namespace Go.Proofs.YtbcbmkeeoognpaaGreatDoor
open Go.RowKit

end Go.Proofs.YtbcbmkeeoognpaaGreatDoor


/- whole: Cmp. (Printed by whole.py.) -/
namespace Go.Proofs.YtbcbmkeeoognpaaGreatDoor
open Go.RowKit

end Go.Proofs.YtbcbmkeeoognpaaGreatDoor


/- whole: Add. (Printed by whole.py.) -/
namespace Go.Proofs.YtbcbmkeeoognpaaGreatDoor
open Go.RowKit

end Go.Proofs.YtbcbmkeeoognpaaGreatDoor


/- whole: Sub. (Printed by whole.py.) -/
namespace Go.Proofs.YtbcbmkeeoognpaaGreatDoor
open Go.RowKit

end Go.Proofs.YtbcbmkeeoognpaaGreatDoor


/- whole: Mul. (Printed by whole.py.) -/
namespace Go.Proofs.YtbcbmkeeoognpaaGreatDoor
open Go.RowKit

end Go.Proofs.YtbcbmkeeoognpaaGreatDoor


/- A Book's functions where there is no list of their kind. (Printed by book.py.) -/
set_option maxRecDepth 50000
namespace Go.Proofs.YtbcbmkeeoognpaaGreatDoor
open Go Go.RowKit

theorem BookAt.nilc {B : Nat} {w : World} {b : Nat} {v : Value} {L : List Hd} (h : BookAt B w b v L) (k : Nat) (hk : (bookCells L.length v)[k]? = some (.slice none 0 0)) : w.cell? ⟨b, k, none⟩ = some (.slice none 0 0) := by
  have h1 := h.hd
  simp only [World.cell?, h1]
  exact hk
theorem none_fillValue (b : Nat) (w : World) (hc : w.cell? ⟨b, 2, none⟩ = some (.slice none 0 0)) : Calls Tryz.prog 65 #[.pointer (some ⟨b, 0, none⟩)] w (fun e w' => e = .returned (.tuple #[]) ∧ w = w') := by
  go_enter Tryz.func65, Tryz.ntmps65
  go_wp2
  refine wp_loop_rounds 1 ?_
  rw [rounds_succ]
  go_wp2
  go_end0
  exact ⟨rfl, rfl⟩
theorem none_growValue (b : Nat) (w : World) (hc : w.cell? ⟨b, 2, none⟩ = some (.slice none 0 0)) : Calls Tryz.prog 79 #[.pointer (some ⟨b, 0, none⟩)] w (fun e w' => e = .returned (.tuple #[]) ∧ w = w') := by
  go_enter Tryz.func79, Tryz.ntmps79
  go_wp2
  refine wp_loop_rounds 1 ?_
  rw [rounds_succ]
  go_wp2
  go_end0
  exact ⟨rfl, rfl⟩
theorem none_lookValue (b : Nat) (w : World) (hc : w.cell? ⟨b, 2, none⟩ = some (.slice none 0 0)) : Calls Tryz.prog 93 #[.pointer (some ⟨b, 0, none⟩)] w (fun e w' => e = .returned (.bool true) ∧ w = w') := by
  go_enter Tryz.func93, Tryz.ntmps93
  go_wp2
  refine wp_loop_rounds 1 ?_
  rw [rounds_succ]
  go_wp2
  go_ret
  exact ⟨rfl, rfl⟩
theorem none_fillText (b : Nat) (w : World) (hc : w.cell? ⟨b, 3, none⟩ = some (.slice none 0 0)) : Calls Tryz.prog 66 #[.pointer (some ⟨b, 0, none⟩)] w (fun e w' => e = .returned (.tuple #[]) ∧ w = w') := by
  go_enter Tryz.func66, Tryz.ntmps66
  go_wp2
  refine wp_loop_rounds 1 ?_
  rw [rounds_succ]
  go_wp2
  go_end0
  exact ⟨rfl, rfl⟩
theorem none_growText (b : Nat) (w : World) (hc : w.cell? ⟨b, 3, none⟩ = some (.slice none 0 0)) : Calls Tryz.prog 80 #[.pointer (some ⟨b, 0, none⟩)] w (fun e w' => e = .returned (.tuple #[]) ∧ w = w') := by
  go_enter Tryz.func80, Tryz.ntmps80
  go_wp2
  refine wp_loop_rounds 1 ?_
  rw [rounds_succ]
  go_wp2
  go_end0
  exact ⟨rfl, rfl⟩
theorem none_lookText (b : Nat) (w : World) (hc : w.cell? ⟨b, 3, none⟩ = some (.slice none 0 0)) : Calls Tryz.prog 94 #[.pointer (some ⟨b, 0, none⟩)] w (fun e w' => e = .returned (.bool true) ∧ w = w') := by
  go_enter Tryz.func94, Tryz.ntmps94
  go_wp2
  refine wp_loop_rounds 1 ?_
  rw [rounds_succ]
  go_wp2
  go_ret
  exact ⟨rfl, rfl⟩
theorem none_fillByte (b : Nat) (w : World) (hc : w.cell? ⟨b, 4, none⟩ = some (.slice none 0 0)) : Calls Tryz.prog 67 #[.pointer (some ⟨b, 0, none⟩)] w (fun e w' => e = .returned (.tuple #[]) ∧ w = w') := by
  go_enter Tryz.func67, Tryz.ntmps67
  go_wp2
  refine wp_loop_rounds 1 ?_
  rw [rounds_succ]
  go_wp2
  go_end0
  exact ⟨rfl, rfl⟩
theorem none_growByte (b : Nat) (w : World) (hc : w.cell? ⟨b, 4, none⟩ = some (.slice none 0 0)) : Calls Tryz.prog 81 #[.pointer (some ⟨b, 0, none⟩)] w (fun e w' => e = .returned (.tuple #[]) ∧ w = w') := by
  go_enter Tryz.func81, Tryz.ntmps81
  go_wp2
  refine wp_loop_rounds 1 ?_
  rw [rounds_succ]
  go_wp2
  go_end0
  exact ⟨rfl, rfl⟩
theorem none_lookByte (b : Nat) (w : World) (hc : w.cell? ⟨b, 4, none⟩ = some (.slice none 0 0)) : Calls Tryz.prog 95 #[.pointer (some ⟨b, 0, none⟩)] w (fun e w' => e = .returned (.bool true) ∧ w = w') := by
  go_enter Tryz.func95, Tryz.ntmps95
  go_wp2
  refine wp_loop_rounds 1 ?_
  rw [rounds_succ]
  go_wp2
  go_ret
  exact ⟨rfl, rfl⟩
theorem none_fillSum (b : Nat) (w : World) (hc : w.cell? ⟨b, 5, none⟩ = some (.slice none 0 0)) : Calls Tryz.prog 68 #[.pointer (some ⟨b, 0, none⟩)] w (fun e w' => e = .returned (.tuple #[]) ∧ w = w') := by
  go_enter Tryz.func68, Tryz.ntmps68
  go_wp2
  refine wp_loop_rounds 1 ?_
  rw [rounds_succ]
  go_wp2
  go_end0
  exact ⟨rfl, rfl⟩
theorem none_growSum (b : Nat) (w : World) (hc : w.cell? ⟨b, 5, none⟩ = some (.slice none 0 0)) : Calls Tryz.prog 82 #[.pointer (some ⟨b, 0, none⟩)] w (fun e w' => e = .returned (.tuple #[]) ∧ w = w') := by
  go_enter Tryz.func82, Tryz.ntmps82
  go_wp2
  refine wp_loop_rounds 1 ?_
  rw [rounds_succ]
  go_wp2
  go_end0
  exact ⟨rfl, rfl⟩
theorem none_lookSum (b : Nat) (w : World) (hc : w.cell? ⟨b, 5, none⟩ = some (.slice none 0 0)) : Calls Tryz.prog 96 #[.pointer (some ⟨b, 0, none⟩)] w (fun e w' => e = .returned (.bool true) ∧ w = w') := by
  go_enter Tryz.func96, Tryz.ntmps96
  go_wp2
  refine wp_loop_rounds 1 ?_
  rw [rounds_succ]
  go_wp2
  go_ret
  exact ⟨rfl, rfl⟩
theorem none_fillRune (b : Nat) (w : World) (hc : w.cell? ⟨b, 6, none⟩ = some (.slice none 0 0)) : Calls Tryz.prog 69 #[.pointer (some ⟨b, 0, none⟩)] w (fun e w' => e = .returned (.tuple #[]) ∧ w = w') := by
  go_enter Tryz.func69, Tryz.ntmps69
  go_wp2
  refine wp_loop_rounds 1 ?_
  rw [rounds_succ]
  go_wp2
  go_end0
  exact ⟨rfl, rfl⟩
theorem none_growRune (b : Nat) (w : World) (hc : w.cell? ⟨b, 6, none⟩ = some (.slice none 0 0)) : Calls Tryz.prog 83 #[.pointer (some ⟨b, 0, none⟩)] w (fun e w' => e = .returned (.tuple #[]) ∧ w = w') := by
  go_enter Tryz.func83, Tryz.ntmps83
  go_wp2
  refine wp_loop_rounds 1 ?_
  rw [rounds_succ]
  go_wp2
  go_end0
  exact ⟨rfl, rfl⟩
theorem none_lookRune (b : Nat) (w : World) (hc : w.cell? ⟨b, 6, none⟩ = some (.slice none 0 0)) : Calls Tryz.prog 97 #[.pointer (some ⟨b, 0, none⟩)] w (fun e w' => e = .returned (.bool true) ∧ w = w') := by
  go_enter Tryz.func97, Tryz.ntmps97
  go_wp2
  refine wp_loop_rounds 1 ?_
  rw [rounds_succ]
  go_wp2
  go_ret
  exact ⟨rfl, rfl⟩
theorem none_fillUnit (b : Nat) (w : World) (hc : w.cell? ⟨b, 7, none⟩ = some (.slice none 0 0)) : Calls Tryz.prog 70 #[.pointer (some ⟨b, 0, none⟩)] w (fun e w' => e = .returned (.tuple #[]) ∧ w = w') := by
  go_enter Tryz.func70, Tryz.ntmps70
  go_wp2
  refine wp_loop_rounds 1 ?_
  rw [rounds_succ]
  go_wp2
  go_end0
  exact ⟨rfl, rfl⟩
theorem none_growUnit (b : Nat) (w : World) (hc : w.cell? ⟨b, 7, none⟩ = some (.slice none 0 0)) : Calls Tryz.prog 84 #[.pointer (some ⟨b, 0, none⟩)] w (fun e w' => e = .returned (.tuple #[]) ∧ w = w') := by
  go_enter Tryz.func84, Tryz.ntmps84
  go_wp2
  refine wp_loop_rounds 1 ?_
  rw [rounds_succ]
  go_wp2
  go_end0
  exact ⟨rfl, rfl⟩
theorem none_lookUnit (b : Nat) (w : World) (hc : w.cell? ⟨b, 7, none⟩ = some (.slice none 0 0)) : Calls Tryz.prog 98 #[.pointer (some ⟨b, 0, none⟩)] w (fun e w' => e = .returned (.bool true) ∧ w = w') := by
  go_enter Tryz.func98, Tryz.ntmps98
  go_wp2
  refine wp_loop_rounds 1 ?_
  rw [rounds_succ]
  go_wp2
  go_ret
  exact ⟨rfl, rfl⟩
theorem none_fillInt64 (b : Nat) (w : World) (hc : w.cell? ⟨b, 8, none⟩ = some (.slice none 0 0)) : Calls Tryz.prog 71 #[.pointer (some ⟨b, 0, none⟩)] w (fun e w' => e = .returned (.tuple #[]) ∧ w = w') := by
  go_enter Tryz.func71, Tryz.ntmps71
  go_wp2
  refine wp_loop_rounds 1 ?_
  rw [rounds_succ]
  go_wp2
  go_end0
  exact ⟨rfl, rfl⟩
theorem none_growInt64 (b : Nat) (w : World) (hc : w.cell? ⟨b, 8, none⟩ = some (.slice none 0 0)) : Calls Tryz.prog 85 #[.pointer (some ⟨b, 0, none⟩)] w (fun e w' => e = .returned (.tuple #[]) ∧ w = w') := by
  go_enter Tryz.func85, Tryz.ntmps85
  go_wp2
  refine wp_loop_rounds 1 ?_
  rw [rounds_succ]
  go_wp2
  go_end0
  exact ⟨rfl, rfl⟩
theorem none_lookInt64 (b : Nat) (w : World) (hc : w.cell? ⟨b, 8, none⟩ = some (.slice none 0 0)) : Calls Tryz.prog 99 #[.pointer (some ⟨b, 0, none⟩)] w (fun e w' => e = .returned (.bool true) ∧ w = w') := by
  go_enter Tryz.func99, Tryz.ntmps99
  go_wp2
  refine wp_loop_rounds 1 ?_
  rw [rounds_succ]
  go_wp2
  go_ret
  exact ⟨rfl, rfl⟩
theorem none_fillFloat (b : Nat) (w : World) (hc : w.cell? ⟨b, 9, none⟩ = some (.slice none 0 0)) : Calls Tryz.prog 72 #[.pointer (some ⟨b, 0, none⟩)] w (fun e w' => e = .returned (.tuple #[]) ∧ w = w') := by
  go_enter Tryz.func72, Tryz.ntmps72
  go_wp2
  refine wp_loop_rounds 1 ?_
  rw [rounds_succ]
  go_wp2
  go_end0
  exact ⟨rfl, rfl⟩
theorem none_growFloat (b : Nat) (w : World) (hc : w.cell? ⟨b, 9, none⟩ = some (.slice none 0 0)) : Calls Tryz.prog 86 #[.pointer (some ⟨b, 0, none⟩)] w (fun e w' => e = .returned (.tuple #[]) ∧ w = w') := by
  go_enter Tryz.func86, Tryz.ntmps86
  go_wp2
  refine wp_loop_rounds 1 ?_
  rw [rounds_succ]
  go_wp2
  go_end0
  exact ⟨rfl, rfl⟩
theorem none_lookFloat (b : Nat) (w : World) (hc : w.cell? ⟨b, 9, none⟩ = some (.slice none 0 0)) : Calls Tryz.prog 100 #[.pointer (some ⟨b, 0, none⟩)] w (fun e w' => e = .returned (.bool true) ∧ w = w') := by
  go_enter Tryz.func100, Tryz.ntmps100
  go_wp2
  refine wp_loop_rounds 1 ?_
  rw [rounds_succ]
  go_wp2
  go_ret
  exact ⟨rfl, rfl⟩
theorem none_fillComplex (b : Nat) (w : World) (hc : w.cell? ⟨b, 10, none⟩ = some (.slice none 0 0)) : Calls Tryz.prog 73 #[.pointer (some ⟨b, 0, none⟩)] w (fun e w' => e = .returned (.tuple #[]) ∧ w = w') := by
  go_enter Tryz.func73, Tryz.ntmps73
  go_wp2
  refine wp_loop_rounds 1 ?_
  rw [rounds_succ]
  go_wp2
  go_end0
  exact ⟨rfl, rfl⟩
theorem none_growComplex (b : Nat) (w : World) (hc : w.cell? ⟨b, 10, none⟩ = some (.slice none 0 0)) : Calls Tryz.prog 87 #[.pointer (some ⟨b, 0, none⟩)] w (fun e w' => e = .returned (.tuple #[]) ∧ w = w') := by
  go_enter Tryz.func87, Tryz.ntmps87
  go_wp2
  refine wp_loop_rounds 1 ?_
  rw [rounds_succ]
  go_wp2
  go_end0
  exact ⟨rfl, rfl⟩
theorem none_lookComplex (b : Nat) (w : World) (hc : w.cell? ⟨b, 10, none⟩ = some (.slice none 0 0)) : Calls Tryz.prog 101 #[.pointer (some ⟨b, 0, none⟩)] w (fun e w' => e = .returned (.bool true) ∧ w = w') := by
  go_enter Tryz.func101, Tryz.ntmps101
  go_wp2
  refine wp_loop_rounds 1 ?_
  rw [rounds_succ]
  go_wp2
  go_ret
  exact ⟨rfl, rfl⟩
theorem none_fillInt (b : Nat) (w : World) (hc : w.cell? ⟨b, 11, none⟩ = some (.slice none 0 0)) : Calls Tryz.prog 74 #[.pointer (some ⟨b, 0, none⟩)] w (fun e w' => e = .returned (.tuple #[]) ∧ w = w') := by
  go_enter Tryz.func74, Tryz.ntmps74
  go_wp2
  refine wp_loop_rounds 1 ?_
  rw [rounds_succ]
  go_wp2
  go_end0
  exact ⟨rfl, rfl⟩
theorem none_growInt (b : Nat) (w : World) (hc : w.cell? ⟨b, 11, none⟩ = some (.slice none 0 0)) : Calls Tryz.prog 88 #[.pointer (some ⟨b, 0, none⟩)] w (fun e w' => e = .returned (.tuple #[]) ∧ w = w') := by
  go_enter Tryz.func88, Tryz.ntmps88
  go_wp2
  refine wp_loop_rounds 1 ?_
  rw [rounds_succ]
  go_wp2
  go_end0
  exact ⟨rfl, rfl⟩
theorem none_lookInt (b : Nat) (w : World) (hc : w.cell? ⟨b, 11, none⟩ = some (.slice none 0 0)) : Calls Tryz.prog 102 #[.pointer (some ⟨b, 0, none⟩)] w (fun e w' => e = .returned (.bool true) ∧ w = w') := by
  go_enter Tryz.func102, Tryz.ntmps102
  go_wp2
  refine wp_loop_rounds 1 ?_
  rw [rounds_succ]
  go_wp2
  go_ret
  exact ⟨rfl, rfl⟩
theorem none_fillEdit (b : Nat) (w : World) (hc : w.cell? ⟨b, 12, none⟩ = some (.slice none 0 0)) : Calls Tryz.prog 75 #[.pointer (some ⟨b, 0, none⟩)] w (fun e w' => e = .returned (.tuple #[]) ∧ w = w') := by
  go_enter Tryz.func75, Tryz.ntmps75
  go_wp2
  refine wp_loop_rounds 1 ?_
  rw [rounds_succ]
  go_wp2
  go_end0
  exact ⟨rfl, rfl⟩
theorem none_growEdit (b : Nat) (w : World) (hc : w.cell? ⟨b, 12, none⟩ = some (.slice none 0 0)) : Calls Tryz.prog 89 #[.pointer (some ⟨b, 0, none⟩)] w (fun e w' => e = .returned (.tuple #[]) ∧ w = w') := by
  go_enter Tryz.func89, Tryz.ntmps89
  go_wp2
  refine wp_loop_rounds 1 ?_
  rw [rounds_succ]
  go_wp2
  go_end0
  exact ⟨rfl, rfl⟩
theorem none_lookEdit (b : Nat) (w : World) (hc : w.cell? ⟨b, 12, none⟩ = some (.slice none 0 0)) : Calls Tryz.prog 103 #[.pointer (some ⟨b, 0, none⟩)] w (fun e w' => e = .returned (.bool true) ∧ w = w') := by
  go_enter Tryz.func103, Tryz.ntmps103
  go_wp2
  refine wp_loop_rounds 1 ?_
  rw [rounds_succ]
  go_wp2
  go_ret
  exact ⟨rfl, rfl⟩
theorem none_fillResult (b : Nat) (w : World) (hc : w.cell? ⟨b, 13, none⟩ = some (.slice none 0 0)) : Calls Tryz.prog 76 #[.pointer (some ⟨b, 0, none⟩)] w (fun e w' => e = .returned (.tuple #[]) ∧ w = w') := by
  go_enter Tryz.func76, Tryz.ntmps76
  go_wp2
  refine wp_loop_rounds 1 ?_
  rw [rounds_succ]
  go_wp2
  go_end0
  exact ⟨rfl, rfl⟩
theorem none_growResult (b : Nat) (w : World) (hc : w.cell? ⟨b, 13, none⟩ = some (.slice none 0 0)) : Calls Tryz.prog 90 #[.pointer (some ⟨b, 0, none⟩)] w (fun e w' => e = .returned (.tuple #[]) ∧ w = w') := by
  go_enter Tryz.func90, Tryz.ntmps90
  go_wp2
  refine wp_loop_rounds 1 ?_
  rw [rounds_succ]
  go_wp2
  go_end0
  exact ⟨rfl, rfl⟩
theorem none_lookResult (b : Nat) (w : World) (hc : w.cell? ⟨b, 13, none⟩ = some (.slice none 0 0)) : Calls Tryz.prog 104 #[.pointer (some ⟨b, 0, none⟩)] w (fun e w' => e = .returned (.bool true) ∧ w = w') := by
  go_enter Tryz.func104, Tryz.ntmps104
  go_wp2
  refine wp_loop_rounds 1 ?_
  rw [rounds_succ]
  go_wp2
  go_ret
  exact ⟨rfl, rfl⟩
theorem none_fillJob (b : Nat) (w : World) (hc : w.cell? ⟨b, 14, none⟩ = some (.slice none 0 0)) : Calls Tryz.prog 77 #[.pointer (some ⟨b, 0, none⟩)] w (fun e w' => e = .returned (.tuple #[]) ∧ w = w') := by
  go_enter Tryz.func77, Tryz.ntmps77
  go_wp2
  refine wp_loop_rounds 1 ?_
  rw [rounds_succ]
  go_wp2
  go_end0
  exact ⟨rfl, rfl⟩
theorem none_growJob (b : Nat) (w : World) (hc : w.cell? ⟨b, 14, none⟩ = some (.slice none 0 0)) : Calls Tryz.prog 91 #[.pointer (some ⟨b, 0, none⟩)] w (fun e w' => e = .returned (.tuple #[]) ∧ w = w') := by
  go_enter Tryz.func91, Tryz.ntmps91
  go_wp2
  refine wp_loop_rounds 1 ?_
  rw [rounds_succ]
  go_wp2
  go_end0
  exact ⟨rfl, rfl⟩
theorem none_lookJob (b : Nat) (w : World) (hc : w.cell? ⟨b, 14, none⟩ = some (.slice none 0 0)) : Calls Tryz.prog 105 #[.pointer (some ⟨b, 0, none⟩)] w (fun e w' => e = .returned (.bool true) ∧ w = w') := by
  go_enter Tryz.func105, Tryz.ntmps105
  go_wp2
  refine wp_loop_rounds 1 ?_
  rw [rounds_succ]
  go_wp2
  go_ret
  exact ⟨rfl, rfl⟩
end Go.Proofs.YtbcbmkeeoognpaaGreatDoor


/- A Book's fillLimb, growLimb, lookLimb. -/
namespace Go.Proofs.YtbcbmkeeoognpaaGreatDoor
open Go Go.RowKit

/-- The i-th element of the row, its cells. -/
theorem BookAt.held {B : Nat} {w : World} {b : Nat} {v : Value} {L : List Hd} (h : BookAt B w b v L) {i : Nat} {q : Hd} (hq : L[i]? = some q) :
    ∃ rb cap, v = .slice (some ⟨rb, 0, none⟩) L.length cap ∧ B ≤ rb ∧ rb < w.heap.size ∧ rb ≠ b ∧ w.cell? ⟨rb, i * 3, none⟩ = some (.slice q.ad q.n q.c) ∧ w.cell? ⟨rb, i * 3 + 1, none⟩ = some (.slice q.la q.ln q.lc) ∧ w.cell? ⟨rb, i * 3 + 2, none⟩ = some (.int .i64 ((i : Int) + 1)) ∧
      (∀ j, w.frozen? ⟨rb, j, none⟩ = false) := by
  have hl : i < L.length := (List.getElem?_eq_some_iff.1 hq).1
  obtain ⟨rb, cap, rfl, h1, h2⟩ := h.row.form (by omega)
  have g := hc_get L 0 i q hq
  have h3 := h.row_ne
  refine ⟨rb, cap, rfl, h1, h2, fun e => h3 (by rw [e]; rfl), ?_, ?_, ?_, fun j => h.row.frozenAt j⟩
  · rw [h.row.cellAt (i * 3) (by omega), Nat.mul_comm i 3]; exact g.1
  · rw [h.row.cellAt (i * 3 + 1) (by omega), Nat.mul_comm i 3]; exact g.2.1
  · rw [h.row.cellAt (i * 3 + 2) (by omega), Nat.mul_comm i 3, g.2.2]; simp
theorem BookAt.form {B : Nat} {w : World} {b : Nat} {v : Value} {L : List Hd} (h : BookAt B w b v L) : ∃ vd vc, v = .slice vd L.length vc := by
  rcases h.row.2 with ⟨h1, h2⟩ | ⟨g, cap, cur, h1, _⟩
  · exact ⟨none, 0, by rw [h1, h2]⟩
  · exact ⟨_, _, h1⟩
def Filled (w : World) (L : List Hd) (i : Nat) : Prop := ∀ (q : Nat) (h : Hd) (g : Nat), q < i → L[q]? = some h → h.ad = some ⟨g, 0, none⟩ → ∀ j, j < h.n → w.cell? ⟨g, j, none⟩ = some (.int .u32 (2147483648 + ((q : Int) + 1)))
theorem Filled.below {B : Nat} {w w1 : World} {L : List Hd} {i : Nat} (h : Filled w L i) (hb : Below B w w1) (hB : w.heap.size ≤ B) : Filled w1 L i := fun q p g hq hp hg j hj => by
  have := h q p g hq hp hg j hj
  rw [← this]
  exact hb.cell (Nat.lt_of_lt_of_le (World.block_lt_of_cell? w _ this) hB)

set_option maxHeartbeats 4000000 in
set_option maxRecDepth 100000 in
theorem fill_calls (B b : Nat) (v : Value) (L : List Hd) (w : World) (h : BookAt B w b v L) (hB : B ≤ w.heap.size) :
    Calls Tryz.prog 64 #[.pointer (some ⟨b, 0, none⟩)] w (fun e w' => e = .returned (.tuple #[]) ∧ BookAt B w' b v L ∧ Filled w' L L.length ∧ Below B w w') := by
  have hL := h.len
  obtain ⟨vd, vc, rfl⟩ := h.form
  go_enter Tryz.func64, Tryz.ntmps64
  go_wp2
  go_loopw [2] (fun x wr => ∃ i : Nat, i ≤ L.length ∧ x = .int .i64 i ∧ BookAt B wr b (.slice vd L.length vc) L ∧ Filled wr L i ∧ Below B w wr ∧ B ≤ wr.heap.size) (fun x _ => L.length - (intOf x).toNat)
  case atStart => exact ⟨0, Nat.zero_le _, rfl, h, fun q _ _ hq => absurd hq (Nat.not_lt_zero _), Below.refl _ _, hB⟩
  case round =>
    clear h
    obtain ⟨i, hi, rfl, h1, h2, h3, h4⟩ := hrel
    obtain ⟨c0, c1, f0, f1⟩ := h1.cells
    by_cases hil : i < L.length
    · obtain ⟨q, hq⟩ : ∃ q, L[i]? = some q := ⟨_, List.getElem?_eq_getElem hil⟩
      obtain ⟨ad, n, c, la, ln, lc⟩ := q
      obtain ⟨rb, cap, hv, r1, r2, r3, e0, e1, e2, fr⟩ := h1.held hq
      simp only at e0 e1
      injection hv with hv1 _ hv2
      subst hv1 hv2
      go_wp2
      have hH0 : (wr.alloc (.cells #[.slice ad n c, .slice la ln lc, .int .i64 ((i : Int) + 1)] 150)).heap[wr.heap.size]? = some (.cells #[.slice ad n c, .slice la ln lc, .int .i64 ((i : Int) + 1)] 150 (0, 0)) := heap_alloc_new wr _
      have hb0 : Below wr.heap.size wr (wr.alloc (.cells #[.slice ad n c, .slice la ln lc, .int .i64 ((i : Int) + 1)] 150)) := (Below.refl _ _).alloc (Nat.le_refl _) _
      have k1 := h1.below hb0 (Nat.le_refl _)
      have k2 := h2.below hb0 (Nat.le_refl _)
      have k3 : Below B w (wr.alloc (.cells #[.slice ad n c, .slice la ln lc, .int .i64 ((i : Int) + 1)] 150)) := h3.alloc h4 _
      have k4 : B ≤ (wr.alloc (.cells #[.slice ad n c, .slice la ln lc, .int .i64 ((i : Int) + 1)] 150)).heap.size := Nat.le_trans h4 hb0.size
      obtain ⟨H, hH⟩ : ∃ H, wr.heap.size = H := ⟨_, rfl⟩
      rw [hH] at hH0 ⊢
      generalize wr.alloc (.cells #[.slice ad n c, .slice la ln lc, .int .i64 ((i : Int) + 1)] 150) = w2 at *
      clear h1 h2 h3 h4 hb0 c0 c1 f0 f1 e0 e1 e2 fr hH
      have hqo := (k1.one _ (List.mem_of_getElem? hq)).le
      have hqb := (k1.one _ (List.mem_of_getElem? hq)).big
      simp only at hqo hqb
      go_loopw [4] (fun y wr => ∃ k : Nat, k ≤ n ∧ y = .int .i64 k ∧ BookAt B wr b (.slice (some ⟨rb, 0, none⟩) L.length vc) L ∧ Filled wr L i ∧ (∀ g, ad = some ⟨g, 0, none⟩ → ∀ j, j < k → wr.cell? ⟨g, j, none⟩ = some (.int .u32 (2147483648 + ((i : Int) + 1)))) ∧ Below B w wr ∧ B ≤ wr.heap.size ∧
        wr.heap[H]? = some (.cells #[.slice ad n c, .slice la ln lc, .int .i64 ((i : Int) + 1)] 150 (0, 0))) (fun y _ => n - (intOf y).toNat)
      case atStart => exact ⟨0, Nat.zero_le _, rfl, k1, k2, fun _ _ j hj => absurd hj (Nat.not_lt_zero _), k3, k4, hH0⟩
      case round =>
        clear k1 k2 k3 k4 hH0
        obtain ⟨k, hk, rfl, h1, h2, h5, h3, h4, hH⟩ := hrel
        have a0 := cell_row hH 0
        have a2 := cell_row hH 2
        simp at a0 a2
        by_cases hkn : k < n
        · obtain ⟨g, cs, hg, hgB, hgc, hgs⟩ := (h1.one _ (List.mem_of_getElem? hq)).row (by show 0 < c; omega)
          simp only at hg hgs
          subst hg
          have hne : H ≠ g := by
            rintro rfl
            rw [hH] at hgc
            injection hgc with hgc
            injection hgc with _ hgc
            revert hgc; decide
          have hx : wr.cell? ⟨g, k, none⟩ = some (cs[k]'(by omega)) := by rw [cell_row hgc, Array.getElem?_eq_getElem]
          have hf : wr.frozen? ⟨g, k, none⟩ = false := frozen_of_row wr g k cs _ hgc
          have M := mark_calls ((i : Int) + 1) 
          have n1 := h1.fill hgc k (2147483648 + ((i : Int) + 1))
          have hHs : (wr.setCell ⟨g, k, none⟩ (.int .u32 (2147483648 + ((i : Int) + 1)))).heap[H]? = some (.cells #[.slice (some ⟨g, 0, none⟩) n c, .slice la ln lc, .int .i64 ((i : Int) + 1)] 150 (0, 0)) := (((Only.refl g wr).set k _).rest H hne).trans hH
          have o0 : (wr.setCell ⟨g, k, none⟩ (.int .u32 (2147483648 + ((i : Int) + 1)))).drew.cell? ⟨H, 0, none⟩ = some (.slice (some ⟨g, 0, none⟩) n c) := cell_row hHs 0
          have o2 : (wr.setCell ⟨g, k, none⟩ (.int .u32 (2147483648 + ((i : Int) + 1)))).drew.cell? ⟨H, 2, none⟩ = some (.int .i64 ((i : Int) + 1)) := cell_row hHs 2
          go_wp2
          go_region_held3 (fun w' => w'.cell? ⟨H, 0, none⟩ = some (.slice (some ⟨g, 0, none⟩) n c) ∧ w'.cell? ⟨H, 2, none⟩ = some (.int .i64 ((i : Int) + 1))) (first | go_keep | exact ⟨o0, o2⟩)
            (first | (go_at_call 57; refine (M _ (by omega)).mono ?_; rintro e w' ⟨rfl, rfl⟩))
          go_wp2
          go_roundw
          case rel =>
            have hO : Only g wr (wr.setCell ⟨g, k, none⟩ (.int .u32 (2147483648 + ((i : Int) + 1)))) := (Only.refl g wr).set k _
            have hat : (wr.setCell ⟨g, k, none⟩ (.int .u32 (2147483648 + ((i : Int) + 1)))).heap[g]? = some (.cells (cs.setIfInBounds k (.int .u32 (2147483648 + ((i : Int) + 1)))) 44 (0, 0)) := heap_setCell_same wr g k cs _ _ hgc
            refine ⟨k + 1, by omega, by go_num, n1.below (below_drew (Below.refl _ _)) (Nat.le_refl _), fun p hp g2 hpi hpq hpg j hj => ?_, fun g2 hg2 j hj => ?_, below_drew (below_set h3 g k _ hgB), ?_, hHs⟩
            · have hold := h2 p hp g2 hpi hpq hpg j hj
              have hgg : g2 ≠ g := by
                rintro rfl
                refine h1.sep p i hp _ hpq hq (by omega) ?_ (by show 0 < c; omega) (by rw [hpg])
                have := (h1.one hp (List.mem_of_getElem? hpq)).le
                omega
              rw [← hold]
              exact World.cell?_of_block (hO.rest g2 hgg)
            · injection hg2 with hg2
              injection hg2 with hg2
              subst hg2
              by_cases e : j = k
              · subst e
                show World.cell? (World.setCell _ _ _) _ = _
                rw [cell_row hat, Array.getElem?_setIfInBounds, if_pos rfl, if_pos (by omega)]
              · have hold := h5 g rfl j (by omega)
                rw [cell_row hgc] at hold
                show World.cell? (World.setCell _ _ _) _ = _
                rw [cell_row hat, Array.getElem?_setIfInBounds, if_neg (Ne.symm e)]
                exact hold
            · show B ≤ (World.setCell _ _ _).heap.size
              rw [hO.size]; exact h4
          case measure => simp [intOf]; omega
        · obtain rfl : k = n := by omega
          go_wp2
          go_roundw
          case rel =>
            refine ⟨i + 1, by omega, by go_num, h1, fun p hp g hpi hpq hpg j hj => ?_, h3, h4⟩
            by_cases e : p = i
            · subst e
              rw [hq] at hpq
              injection hpq with hpq
              subst hpq
              exact h5 g hpg j hj
            · exact h2 p hp g (by omega) hpq hpg j hj
          case measure => simp [intOf]; omega
    · obtain rfl : i = L.length := by omega
      go_wp2
      go_end0
      exact ⟨rfl, h1, h2, h3⟩
end Go.Proofs.YtbcbmkeeoognpaaGreatDoor


/- quot.Div by worth alone; lists written out. -/
namespace Go.Proofs.YtbcbmkeeoognpaaGreatDoor
open Go.RowKit

def RetCCB (V R : Int) (ok : Bool) (w : World) (e : Ending) (w' : World) : Prop :=
  ∃ ad n c ad2 n2 c2, e = .returned (.tuple #[.slice ad n c, .slice ad2 n2 c2, .bool ok]) ∧ Can w' ad n c V ∧ Can w' ad2 n2 c2 R ∧ Below w.heap.size w w'
theorem RetLLB.can {V R : Int} {ok : Bool} {w : World} {e : Ending} {w' : World} (h : RetLLB 44 .u32 (dg 4294967296 V) (dg 4294967296 R) ok w e w') : RetCCB V R ok w e w' := by
  obtain ⟨ad, n, c, ad2, n2, c2, e1, o1, o2, hb, _⟩ := h
  exact ⟨ad, n, c, ad2, n2, c2, e1, ⟨o1.le, o1.rds⟩, ⟨o2.le, o2.rds⟩, hb⟩

end Go.Proofs.YtbcbmkeeoognpaaGreatDoor


/- quot.Digits, Read, Bytes by worth alone. -/
namespace Go.Proofs.YtbcbmkeeoognpaaGreatDoor
open Go.RowKit

end Go.Proofs.YtbcbmkeeoognpaaGreatDoor

