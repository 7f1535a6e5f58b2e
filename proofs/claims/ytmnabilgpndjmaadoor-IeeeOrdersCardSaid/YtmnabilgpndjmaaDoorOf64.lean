/- Printed by ieee.py. -/
import Derived.Test.YtmnabilgpndjmaaDoorShapes
set_option linter.unusedVariables false
set_option linter.unusedSimpArgs false
namespace Go.Proofs.YtmnabilgpndjmaaDoor
open Go.RowKit

theorem of_64 (w : World) (hS : Shapes w) : Calls Tryd.prog 120 #[] w (fun e w' => e = .returned (.agg #[.int .i64 52, .int .i64 (-1074), .int .i64 11]) ∧ Below w.heap.size w w') := by
  have b0 : Below w.heap.size w (w.alloc (.cells #[.int .i64 0, .int .i64 0, .int .i64 0] 142)) := (Below.refl _ _).alloc (Nat.le_refl _) _
  obtain ⟨c0, c1, c2, c3, c4, c5, c6, c7, c8⟩ := hS.below b0 (Nat.le_refl _)
  have x0 : bits BinOp.xor .u64 (if IntKind.u64.signed = true then -1 else IntKind.u64.max) 0 = 18446744073709551615 := by decide
  have x1 : bits BinOp.xor .u64 IntKind.u64.max 0 = 18446744073709551615 := by decide
  have x2 : IntKind.u64.wrap 18446744073709551615 = 18446744073709551615 := by decide
  clear b0
  go_enter Tryd.func120, Tryd.ntmps120
  go_wp2
  refine bodyPost_ret (results_cell_row rfl _ _ w.heap.size 142 #[.int .i64 52, .int .i64 (-1074), .int .i64 11] (0, 0) _ rfl (heap_alloc_new _ _) Tryd.underlying142 rfl size_shape) rfl ?_
  exact ⟨rfl, (Below.refl _ _).alloc (Nat.le_refl _) _⟩
end Go.Proofs.YtmnabilgpndjmaaDoor
