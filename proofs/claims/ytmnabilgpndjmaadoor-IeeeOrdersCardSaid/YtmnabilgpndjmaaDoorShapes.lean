/- Printed by ieee.py. -/
import Derived.Test.YtmnabilgpndjmaaDoorProg
import Derived.Test.YtmnabilgpndjmaaDoorBase
import Derived.Test.YtmnabilgpndjmaaDoorShape
set_option linter.unusedVariables false
set_option linter.unusedSimpArgs false
namespace Go.Proofs.YtmnabilgpndjmaaDoor
open Go.RowKit

/-- The table of shapes as its initialiser lays it. -/
structure Shapes (w : World) : Prop where
  c0 : w.cell? ⟨0, 0, none⟩ = some (.int .i64 10)
  c1 : w.cell? ⟨0, 1, none⟩ = some (.int .i64 (-24))
  c2 : w.cell? ⟨0, 2, none⟩ = some (.int .i64 5)
  c3 : w.cell? ⟨0, 3, none⟩ = some (.int .i64 23)
  c4 : w.cell? ⟨0, 4, none⟩ = some (.int .i64 (-149))
  c5 : w.cell? ⟨0, 5, none⟩ = some (.int .i64 8)
  c6 : w.cell? ⟨0, 6, none⟩ = some (.int .i64 52)
  c7 : w.cell? ⟨0, 7, none⟩ = some (.int .i64 (-1074))
  c8 : w.cell? ⟨0, 8, none⟩ = some (.int .i64 11)

theorem below_cell {w w1 : World} {B : Nat} (hb : Below B w w1) (hB : w.heap.size ≤ B) {a : Addr} {v : Value} (h : w.cell? a = some v) : w1.cell? a = some v := by
  have hl := World.block_lt_of_cell? w a h
  rw [World.cell?_of_block (hb.block a.block (Nat.lt_of_lt_of_le hl hB))]
  exact h

theorem Shapes.below {w w1 : World} (h : Shapes w) {B : Nat} (hb : Below B w w1) (hB : w.heap.size ≤ B) : Shapes w1 :=
  ⟨below_cell hb hB h.c0, below_cell hb hB h.c1, below_cell hb hB h.c2, below_cell hb hB h.c3, below_cell hb hB h.c4, below_cell hb hB h.c5, below_cell hb hB h.c6, below_cell hb hB h.c7, below_cell hb hB h.c8⟩

theorem size_shape : (Tryd.prog.info? 142).map (·.size) = some 3 := by kernel_rfl

/-- A width's shape as a value. -/
def shV (W : Nat) : Value := .agg #[.int .i64 (shF W), .int .i64 (shL W), .int .i64 (shE W)]
end Go.Proofs.YtmnabilgpndjmaaDoor
