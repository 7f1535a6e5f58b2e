/- cmp.Compare of ints and of limbs. -/
import Derived.Test.YtemllpbpnndgeaaProg
import Derived.Test.YtemllpbpnndgeaaBase
import Derived.Test.YtemllpbpnndgeaaCmpI
set_option linter.unusedVariables false
set_option linter.unusedSimpArgs false
namespace Go.Proofs.Ytemllpbpnndgeaa
open Go.RowKit
theorem compare_int (x y : Int) (w : World) :
    Calls Try.prog 50 #[.int .i64 x, .int .i64 y] w fun e w' => e = .returned (.int .i64 (cmpI x y)) ∧ w = w' := by
  rcases Int.lt_trichotomy x y with h | h | h
  · have H := Lib.hid (cmpI_lt h)
    go_enter Try.func50, Try.ntmps50
    go_wp2
    go_ret
    rw [H.out]
    exact ⟨rfl, rfl⟩
  · have H := Lib.hid (cmpI_eq h)
    subst h
    go_enter Try.func50, Try.ntmps50
    go_wp2
    go_ret
    rw [H.out]
    exact ⟨rfl, rfl⟩
  · have H := Lib.hid (cmpI_gt h)
    have h2 : ¬ x < y := by omega
    go_enter Try.func50, Try.ntmps50
    go_wp2
    go_ret
    rw [H.out]
    exact ⟨rfl, rfl⟩
theorem compare_u32 (x y : Int) (w : World) :
    Calls Try.prog 51 #[.int .u32 x, .int .u32 y] w fun e w' => e = .returned (.int .i64 (cmpI x y)) ∧ w = w' := by
  rcases Int.lt_trichotomy x y with h | h | h
  · have H := Lib.hid (cmpI_lt h)
    go_enter Try.func51, Try.ntmps51
    go_wp2
    go_ret
    rw [H.out]
    exact ⟨rfl, rfl⟩
  · have H := Lib.hid (cmpI_eq h)
    subst h
    go_enter Try.func51, Try.ntmps51
    go_wp2
    go_ret
    rw [H.out]
    exact ⟨rfl, rfl⟩
  · have H := Lib.hid (cmpI_gt h)
    have h2 : ¬ x < y := by omega
    go_enter Try.func51, Try.ntmps51
    go_wp2
    go_ret
    rw [H.out]
    exact ⟨rfl, rfl⟩
end Go.Proofs.Ytemllpbpnndgeaa
