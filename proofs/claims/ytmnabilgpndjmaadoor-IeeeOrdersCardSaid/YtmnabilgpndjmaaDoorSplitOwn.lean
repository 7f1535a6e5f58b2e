/- Printed by ieee.py. -/
import Derived.Test.YtmnabilgpndjmaaDoorOfOwn
import Derived.Test.YtmnabilgpndjmaaDoorShSign
import Derived.Test.YtmnabilgpndjmaaDoorBits64
set_option linter.unusedVariables false
set_option linter.unusedSimpArgs false
namespace Go.Proofs.YtmnabilgpndjmaaDoor
open Go.RowKit

/-- split: the sign, and the pattern without it. -/
theorem split_Own (w : World) (hS : Shapes w) (x : Int) (hx : 0 ≤ x ∧ x < 4294967296) : Calls Tryd.prog 112 #[.int .u32 x] w (fun e w' => e = .returned (.tuple #[.bool (negW 32 x), .int .u64 (sizeW 32 x)]) ∧ Below w.heap.size w w') := by
  have h1 := Lib.hid (of_Own w hS)
  have HN := Lib.hid (and_sign_32 x (by omega))
  have HA := Lib.hid (andNot_sign_32 x (by omega))
  go_enter Tryd.func112, Tryd.ntmps112
  go_wp2_with fail
  refine (h1.out).mono ?_
  rintro e w1 ⟨rfl, b1⟩
  have h2 := Lib.hid (shsign_32 w1)
  go_wp2_with fail
  refine (h2.out).mono ?_
  rintro e w2 ⟨rfl, b2⟩
  go_wp2
  go_ret2
  rw [← HN.out, ← HA.out]
  exact ⟨rfl, below_trans b1 b2⟩
end Go.Proofs.YtmnabilgpndjmaaDoor
