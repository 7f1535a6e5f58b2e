/- Printed by ieee2.py. -/
import Derived.Test.YtmnabilgpndjmaaDoorProg
import Derived.Test.YtmnabilgpndjmaaDoorBase
import Derived.Test.YtmnabilgpndjmaaDoorCmpI
set_option linter.unusedVariables false
set_option linter.unusedSimpArgs false
namespace Go.Proofs.YtmnabilgpndjmaaDoor
open Go.RowKit

theorem compare_T32 (x y : Int) (w : World) :
    Calls Tryd.prog 117 #[.int .u32 x, .int .u32 y] w fun e w' => e = .returned (.int .i64 (cmpI x y)) ∧ w = w' := by
  rcases Int.lt_trichotomy x y with h | h | h
  · skip
    have H := Lib.hid (cmpI_lt h)
    go_enter Tryd.func117, Tryd.ntmps117
    go_wp2
    go_ret
    rw [H.out]
    exact ⟨rfl, rfl⟩
  · skip
    have H := Lib.hid (cmpI_eq h)
    subst h
    go_enter Tryd.func117, Tryd.ntmps117
    go_wp2
    go_ret
    rw [H.out]
    exact ⟨rfl, rfl⟩
  · skip
    have H := Lib.hid (cmpI_gt h)
    have h2 : ¬ x < y := by omega
    go_enter Tryd.func117, Tryd.ntmps117
    go_wp2
    go_ret
    rw [H.out]
    exact ⟨rfl, rfl⟩
end Go.Proofs.YtmnabilgpndjmaaDoor
