/- Contracts of functions, and plain facts, part 24. -/
import Derived.Test.YtmnabilgpndjmaaDoorPk4
import Derived.Test.YtmnabilgpndjmaaDoorPk8
import Derived.Test.YtmnabilgpndjmaaDoorPk11
import Derived.Test.YtmnabilgpndjmaaDoorPk19
import Derived.Test.YtmnabilgpndjmaaDoorPk20
import Derived.Test.YtmnabilgpndjmaaDoorPk21
import Derived.Test.YtmnabilgpndjmaaDoorPk22
import Derived.Test.YtmnabilgpndjmaaDoorPk23
set_option linter.unusedVariables false
set_option linter.unusedSimpArgs false
/- Printed by law4.py. -/
namespace Go.Proofs.YtmnabilgpndjmaaDoor
open Go.RowKit

theorem toW_bd {V : Nat} (hV : Wide V) (W : Nat) (x : Int) : 0 ≤ (toW V W x).1 ∧ (toW V W x).1 < 2 ^ V := by
  have h1 := inf_fits hV
  have h2 := pow_wide hV
  have h3 := roundW_bd hV (pNeg W x) (pM W x) (pE W x) false
  unfold toW
  split
  · dsimp only; omega
  · split
    · dsimp only; split <;> omega
    · exact h3

theorem lto16_0 (w0 : Int) (hw : 0 ≤ w0 ∧ w0 < 256) (hc : w0 % 4 = 0) (w : World) (hS : Shapes w) (hT : Tab w) (x : Int) (hx : 0 ≤ x ∧ x < 2 ^ 16) :
    Calls Tryd.prog 96 #[.int .u8 w0, .int .u64 x] w (fun e w' => e = .returned (.tuple #[.int .u64 (toW 16 16 x).1, .bool (toW 16 16 x).2]) ∧ Below w.heap.size w w') := by
  have hc2 := tmod4 hw hc
  rw [show (2 : Int) ^ 16 = 65536 from by decide] at hx
  have H := Lib.hid (to_16_16 w hS hT x hx)
  have W1 : IntKind.u16.wrap x = x := by rw [IntKind.wrap_u16]; omega
  have V1 : x % 65536 = x := by omega
  have hR := toW_bd (V := 16) (by unfold Wide; omega) 16 x
  rw [show (2 : Int) ^ 16 = 65536 from by decide] at hR
  generalize (toW 16 16 x).1 = R at *
  generalize (toW 16 16 x).2 = ok at *
  have W2 : IntKind.u64.wrap R = R := by rw [IntKind.wrap_u64]; omega
  have V2 : R % 18446744073709551616 = R := by omega
  go_enter Tryd.func96, Tryd.ntmps96
  go_wp2_with fail
  refine (H.out).mono ?_
  rintro e w1 ⟨rfl, b1⟩
  go_wp2
  go_ret2
  exact ⟨rfl, b1⟩

theorem lto16_1 (w0 : Int) (hw : 0 ≤ w0 ∧ w0 < 256) (hc : w0 % 4 = 1) (w : World) (hS : Shapes w) (hT : Tab w) (x : Int) (hx : 0 ≤ x ∧ x < 2 ^ 32) :
    Calls Tryd.prog 96 #[.int .u8 w0, .int .u64 x] w (fun e w' => e = .returned (.tuple #[.int .u64 (toW 16 32 x).1, .bool (toW 16 32 x).2]) ∧ Below w.heap.size w w') := by
  have hc2 := tmod4 hw hc
  rw [show (2 : Int) ^ 32 = 4294967296 from by decide] at hx
  have H := Lib.hid (to_16_32 w hS hT x hx)
  have W1 : IntKind.u32.wrap x = x := by rw [IntKind.wrap_u32]; omega
  have V1 : x % 4294967296 = x := by omega
  have hR := toW_bd (V := 16) (by unfold Wide; omega) 32 x
  rw [show (2 : Int) ^ 16 = 65536 from by decide] at hR
  generalize (toW 16 32 x).1 = R at *
  generalize (toW 16 32 x).2 = ok at *
  have W2 : IntKind.u64.wrap R = R := by rw [IntKind.wrap_u64]; omega
  have V2 : R % 18446744073709551616 = R := by omega
  go_enter Tryd.func96, Tryd.ntmps96
  go_wp2_with fail
  refine (H.out).mono ?_
  rintro e w1 ⟨rfl, b1⟩
  go_wp2
  go_ret2
  exact ⟨rfl, b1⟩

theorem lto16_2 (w0 : Int) (hw : 0 ≤ w0 ∧ w0 < 256) (hc : w0 % 4 = 2) (w : World) (hS : Shapes w) (hT : Tab w) (x : Int) (hx : 0 ≤ x ∧ x < 2 ^ 64) :
    Calls Tryd.prog 96 #[.int .u8 w0, .int .u64 x] w (fun e w' => e = .returned (.tuple #[.int .u64 (toW 16 64 x).1, .bool (toW 16 64 x).2]) ∧ Below w.heap.size w w') := by
  have hc2 := tmod4 hw hc
  rw [show (2 : Int) ^ 64 = 18446744073709551616 from by decide] at hx
  have H := Lib.hid (to_16_64 w hS hT x hx)
  have hR := toW_bd (V := 16) (by unfold Wide; omega) 64 x
  rw [show (2 : Int) ^ 16 = 65536 from by decide] at hR
  generalize (toW 16 64 x).1 = R at *
  generalize (toW 16 64 x).2 = ok at *
  have W2 : IntKind.u64.wrap R = R := by rw [IntKind.wrap_u64]; omega
  have V2 : R % 18446744073709551616 = R := by omega
  go_enter Tryd.func96, Tryd.ntmps96
  go_wp2_with fail
  refine (H.out).mono ?_
  rintro e w1 ⟨rfl, b1⟩
  go_wp2
  go_ret2
  exact ⟨rfl, b1⟩

theorem lto16_3 (w0 : Int) (hw : 0 ≤ w0 ∧ w0 < 256) (hc : w0 % 4 = 3) (w : World) (hS : Shapes w) (hT : Tab w) (x : Int) (hx : 0 ≤ x ∧ x < 2 ^ 32) :
    Calls Tryd.prog 96 #[.int .u8 w0, .int .u64 x] w (fun e w' => e = .returned (.tuple #[.int .u64 (toW 16 32 x).1, .bool (toW 16 32 x).2]) ∧ Below w.heap.size w w') := by
  have hc2 := tmod4 hw hc
  rw [show (2 : Int) ^ 32 = 4294967296 from by decide] at hx
  have H := Lib.hid (to_16_Own w hS hT x hx)
  have W1 : IntKind.u32.wrap x = x := by rw [IntKind.wrap_u32]; omega
  have V1 : x % 4294967296 = x := by omega
  have hR := toW_bd (V := 16) (by unfold Wide; omega) 32 x
  rw [show (2 : Int) ^ 16 = 65536 from by decide] at hR
  generalize (toW 16 32 x).1 = R at *
  generalize (toW 16 32 x).2 = ok at *
  have W2 : IntKind.u64.wrap R = R := by rw [IntKind.wrap_u64]; omega
  have V2 : R % 18446744073709551616 = R := by omega
  go_enter Tryd.func96, Tryd.ntmps96
  go_wp2_with fail
  refine (H.out).mono ?_
  rintro e w1 ⟨rfl, b1⟩
  go_wp2
  go_ret2
  exact ⟨rfl, b1⟩

theorem lto16_calls (w0 : Int) (hw : 0 ≤ w0 ∧ w0 < 256) (w : World) (hS : Shapes w) (hT : Tab w) (x : Int) (hx : 0 ≤ x ∧ x < 2 ^ wd w0) :
    Calls Tryd.prog 96 #[.int .u8 w0, .int .u64 x] w (fun e w' => e = .returned (.tuple #[.int .u64 (toW 16 (wd w0) x).1, .bool (toW 16 (wd w0) x).2]) ∧ Below w.heap.size w w') := by
  rcases (show w0 % 4 = 0 ∨ w0 % 4 = 1 ∨ w0 % 4 = 2 ∨ w0 % 4 = 3 by omega) with hc | hc | hc | hc
  · simp only [wd_0 hc] at *
    exact lto16_0 w0 hw hc w hS hT x hx
  · simp only [wd_1 hc] at *
    exact lto16_1 w0 hw hc w hS hT x hx
  · simp only [wd_2 hc] at *
    exact lto16_2 w0 hw hc w hS hT x hx
  · simp only [wd_3 hc] at *
    exact lto16_3 w0 hw hc w hS hT x hx

theorem lto32_0 (w0 : Int) (hw : 0 ≤ w0 ∧ w0 < 256) (hc : w0 % 4 = 0) (w : World) (hS : Shapes w) (hT : Tab w) (x : Int) (hx : 0 ≤ x ∧ x < 2 ^ 16) :
    Calls Tryd.prog 99 #[.int .u8 w0, .int .u64 x] w (fun e w' => e = .returned (.tuple #[.int .u64 (toW 32 16 x).1, .bool (toW 32 16 x).2]) ∧ Below w.heap.size w w') := by
  have hc2 := tmod4 hw hc
  rw [show (2 : Int) ^ 16 = 65536 from by decide] at hx
  have H := Lib.hid (to_32_16 w hS hT x hx)
  have W1 : IntKind.u16.wrap x = x := by rw [IntKind.wrap_u16]; omega
  have V1 : x % 65536 = x := by omega
  have hR := toW_bd (V := 32) (by unfold Wide; omega) 16 x
  rw [show (2 : Int) ^ 32 = 4294967296 from by decide] at hR
  generalize (toW 32 16 x).1 = R at *
  generalize (toW 32 16 x).2 = ok at *
  have W2 : IntKind.u64.wrap R = R := by rw [IntKind.wrap_u64]; omega
  have V2 : R % 18446744073709551616 = R := by omega
  go_enter Tryd.func99, Tryd.ntmps99
  go_wp2_with fail
  refine (H.out).mono ?_
  rintro e w1 ⟨rfl, b1⟩
  go_wp2
  go_ret2
  exact ⟨rfl, b1⟩

theorem lto32_1 (w0 : Int) (hw : 0 ≤ w0 ∧ w0 < 256) (hc : w0 % 4 = 1) (w : World) (hS : Shapes w) (hT : Tab w) (x : Int) (hx : 0 ≤ x ∧ x < 2 ^ 32) :
    Calls Tryd.prog 99 #[.int .u8 w0, .int .u64 x] w (fun e w' => e = .returned (.tuple #[.int .u64 (toW 32 32 x).1, .bool (toW 32 32 x).2]) ∧ Below w.heap.size w w') := by
  have hc2 := tmod4 hw hc
  rw [show (2 : Int) ^ 32 = 4294967296 from by decide] at hx
  have H := Lib.hid (to_32_32 w hS hT x hx)
  have W1 : IntKind.u32.wrap x = x := by rw [IntKind.wrap_u32]; omega
  have V1 : x % 4294967296 = x := by omega
  have hR := toW_bd (V := 32) (by unfold Wide; omega) 32 x
  rw [show (2 : Int) ^ 32 = 4294967296 from by decide] at hR
  generalize (toW 32 32 x).1 = R at *
  generalize (toW 32 32 x).2 = ok at *
  have W2 : IntKind.u64.wrap R = R := by rw [IntKind.wrap_u64]; omega
  have V2 : R % 18446744073709551616 = R := by omega
  go_enter Tryd.func99, Tryd.ntmps99
  go_wp2_with fail
  refine (H.out).mono ?_
  rintro e w1 ⟨rfl, b1⟩
  go_wp2
  go_ret2
  exact ⟨rfl, b1⟩

theorem lto32_2 (w0 : Int) (hw : 0 ≤ w0 ∧ w0 < 256) (hc : w0 % 4 = 2) (w : World) (hS : Shapes w) (hT : Tab w) (x : Int) (hx : 0 ≤ x ∧ x < 2 ^ 64) :
    Calls Tryd.prog 99 #[.int .u8 w0, .int .u64 x] w (fun e w' => e = .returned (.tuple #[.int .u64 (toW 32 64 x).1, .bool (toW 32 64 x).2]) ∧ Below w.heap.size w w') := by
  have hc2 := tmod4 hw hc
  rw [show (2 : Int) ^ 64 = 18446744073709551616 from by decide] at hx
  have H := Lib.hid (to_32_64 w hS hT x hx)
  have hR := toW_bd (V := 32) (by unfold Wide; omega) 64 x
  rw [show (2 : Int) ^ 32 = 4294967296 from by decide] at hR
  generalize (toW 32 64 x).1 = R at *
  generalize (toW 32 64 x).2 = ok at *
  have W2 : IntKind.u64.wrap R = R := by rw [IntKind.wrap_u64]; omega
  have V2 : R % 18446744073709551616 = R := by omega
  go_enter Tryd.func99, Tryd.ntmps99
  go_wp2_with fail
  refine (H.out).mono ?_
  rintro e w1 ⟨rfl, b1⟩
  go_wp2
  go_ret2
  exact ⟨rfl, b1⟩

theorem lto32_3 (w0 : Int) (hw : 0 ≤ w0 ∧ w0 < 256) (hc : w0 % 4 = 3) (w : World) (hS : Shapes w) (hT : Tab w) (x : Int) (hx : 0 ≤ x ∧ x < 2 ^ 32) :
    Calls Tryd.prog 99 #[.int .u8 w0, .int .u64 x] w (fun e w' => e = .returned (.tuple #[.int .u64 (toW 32 32 x).1, .bool (toW 32 32 x).2]) ∧ Below w.heap.size w w') := by
  have hc2 := tmod4 hw hc
  rw [show (2 : Int) ^ 32 = 4294967296 from by decide] at hx
  have H := Lib.hid (to_32_Own w hS hT x hx)
  have W1 : IntKind.u32.wrap x = x := by rw [IntKind.wrap_u32]; omega
  have V1 : x % 4294967296 = x := by omega
  have hR := toW_bd (V := 32) (by unfold Wide; omega) 32 x
  rw [show (2 : Int) ^ 32 = 4294967296 from by decide] at hR
  generalize (toW 32 32 x).1 = R at *
  generalize (toW 32 32 x).2 = ok at *
  have W2 : IntKind.u64.wrap R = R := by rw [IntKind.wrap_u64]; omega
  have V2 : R % 18446744073709551616 = R := by omega
  go_enter Tryd.func99, Tryd.ntmps99
  go_wp2_with fail
  refine (H.out).mono ?_
  rintro e w1 ⟨rfl, b1⟩
  go_wp2
  go_ret2
  exact ⟨rfl, b1⟩

theorem lto32_calls (w0 : Int) (hw : 0 ≤ w0 ∧ w0 < 256) (w : World) (hS : Shapes w) (hT : Tab w) (x : Int) (hx : 0 ≤ x ∧ x < 2 ^ wd w0) :
    Calls Tryd.prog 99 #[.int .u8 w0, .int .u64 x] w (fun e w' => e = .returned (.tuple #[.int .u64 (toW 32 (wd w0) x).1, .bool (toW 32 (wd w0) x).2]) ∧ Below w.heap.size w w') := by
  rcases (show w0 % 4 = 0 ∨ w0 % 4 = 1 ∨ w0 % 4 = 2 ∨ w0 % 4 = 3 by omega) with hc | hc | hc | hc
  · simp only [wd_0 hc] at *
    exact lto32_0 w0 hw hc w hS hT x hx
  · simp only [wd_1 hc] at *
    exact lto32_1 w0 hw hc w hS hT x hx
  · simp only [wd_2 hc] at *
    exact lto32_2 w0 hw hc w hS hT x hx
  · simp only [wd_3 hc] at *
    exact lto32_3 w0 hw hc w hS hT x hx

theorem lto64_0 (w0 : Int) (hw : 0 ≤ w0 ∧ w0 < 256) (hc : w0 % 4 = 0) (w : World) (hS : Shapes w) (hT : Tab w) (x : Int) (hx : 0 ≤ x ∧ x < 2 ^ 16) :
    Calls Tryd.prog 97 #[.int .u8 w0, .int .u64 x] w (fun e w' => e = .returned (.tuple #[.int .u64 (toW 64 16 x).1, .bool (toW 64 16 x).2]) ∧ Below w.heap.size w w') := by
  have hc2 := tmod4 hw hc
  rw [show (2 : Int) ^ 16 = 65536 from by decide] at hx
  have H := Lib.hid (to_64_16 w hS hT x hx)
  have W1 : IntKind.u16.wrap x = x := by rw [IntKind.wrap_u16]; omega
  have V1 : x % 65536 = x := by omega
  have hR := toW_bd (V := 64) (by unfold Wide; omega) 16 x
  rw [show (2 : Int) ^ 64 = 18446744073709551616 from by decide] at hR
  generalize (toW 64 16 x).1 = R at *
  generalize (toW 64 16 x).2 = ok at *
  go_enter Tryd.func97, Tryd.ntmps97
  go_wp2_with fail
  refine (H.out).mono ?_
  rintro e w1 ⟨rfl, b1⟩
  go_wp2
  go_ret2
  exact ⟨rfl, b1⟩

theorem lto64_1 (w0 : Int) (hw : 0 ≤ w0 ∧ w0 < 256) (hc : w0 % 4 = 1) (w : World) (hS : Shapes w) (hT : Tab w) (x : Int) (hx : 0 ≤ x ∧ x < 2 ^ 32) :
    Calls Tryd.prog 97 #[.int .u8 w0, .int .u64 x] w (fun e w' => e = .returned (.tuple #[.int .u64 (toW 64 32 x).1, .bool (toW 64 32 x).2]) ∧ Below w.heap.size w w') := by
  have hc2 := tmod4 hw hc
  rw [show (2 : Int) ^ 32 = 4294967296 from by decide] at hx
  have H := Lib.hid (to_64_32 w hS hT x hx)
  have W1 : IntKind.u32.wrap x = x := by rw [IntKind.wrap_u32]; omega
  have V1 : x % 4294967296 = x := by omega
  have hR := toW_bd (V := 64) (by unfold Wide; omega) 32 x
  rw [show (2 : Int) ^ 64 = 18446744073709551616 from by decide] at hR
  generalize (toW 64 32 x).1 = R at *
  generalize (toW 64 32 x).2 = ok at *
  go_enter Tryd.func97, Tryd.ntmps97
  go_wp2_with fail
  refine (H.out).mono ?_
  rintro e w1 ⟨rfl, b1⟩
  go_wp2
  go_ret2
  exact ⟨rfl, b1⟩

theorem lto64_2 (w0 : Int) (hw : 0 ≤ w0 ∧ w0 < 256) (hc : w0 % 4 = 2) (w : World) (hS : Shapes w) (hT : Tab w) (x : Int) (hx : 0 ≤ x ∧ x < 2 ^ 64) :
    Calls Tryd.prog 97 #[.int .u8 w0, .int .u64 x] w (fun e w' => e = .returned (.tuple #[.int .u64 (toW 64 64 x).1, .bool (toW 64 64 x).2]) ∧ Below w.heap.size w w') := by
  have hc2 := tmod4 hw hc
  rw [show (2 : Int) ^ 64 = 18446744073709551616 from by decide] at hx
  have H := Lib.hid (to_64_64 w hS hT x hx)
  have hR := toW_bd (V := 64) (by unfold Wide; omega) 64 x
  rw [show (2 : Int) ^ 64 = 18446744073709551616 from by decide] at hR
  generalize (toW 64 64 x).1 = R at *
  generalize (toW 64 64 x).2 = ok at *
  go_enter Tryd.func97, Tryd.ntmps97
  go_wp2_with fail
  refine (H.out).mono ?_
  rintro e w1 ⟨rfl, b1⟩
  go_wp2
  go_ret2
  exact ⟨rfl, b1⟩

theorem lto64_3 (w0 : Int) (hw : 0 ≤ w0 ∧ w0 < 256) (hc : w0 % 4 = 3) (w : World) (hS : Shapes w) (hT : Tab w) (x : Int) (hx : 0 ≤ x ∧ x < 2 ^ 32) :
    Calls Tryd.prog 97 #[.int .u8 w0, .int .u64 x] w (fun e w' => e = .returned (.tuple #[.int .u64 (toW 64 32 x).1, .bool (toW 64 32 x).2]) ∧ Below w.heap.size w w') := by
  have hc2 := tmod4 hw hc
  rw [show (2 : Int) ^ 32 = 4294967296 from by decide] at hx
  have H := Lib.hid (to_64_Own w hS hT x hx)
  have W1 : IntKind.u32.wrap x = x := by rw [IntKind.wrap_u32]; omega
  have V1 : x % 4294967296 = x := by omega
  have hR := toW_bd (V := 64) (by unfold Wide; omega) 32 x
  rw [show (2 : Int) ^ 64 = 18446744073709551616 from by decide] at hR
  generalize (toW 64 32 x).1 = R at *
  generalize (toW 64 32 x).2 = ok at *
  go_enter Tryd.func97, Tryd.ntmps97
  go_wp2_with fail
  refine (H.out).mono ?_
  rintro e w1 ⟨rfl, b1⟩
  go_wp2
  go_ret2
  exact ⟨rfl, b1⟩

theorem lto64_calls (w0 : Int) (hw : 0 ≤ w0 ∧ w0 < 256) (w : World) (hS : Shapes w) (hT : Tab w) (x : Int) (hx : 0 ≤ x ∧ x < 2 ^ wd w0) :
    Calls Tryd.prog 97 #[.int .u8 w0, .int .u64 x] w (fun e w' => e = .returned (.tuple #[.int .u64 (toW 64 (wd w0) x).1, .bool (toW 64 (wd w0) x).2]) ∧ Below w.heap.size w w') := by
  rcases (show w0 % 4 = 0 ∨ w0 % 4 = 1 ∨ w0 % 4 = 2 ∨ w0 % 4 = 3 by omega) with hc | hc | hc | hc
  · simp only [wd_0 hc] at *
    exact lto64_0 w0 hw hc w hS hT x hx
  · simp only [wd_1 hc] at *
    exact lto64_1 w0 hw hc w hS hT x hx
  · simp only [wd_2 hc] at *
    exact lto64_2 w0 hw hc w hS hT x hx
  · simp only [wd_3 hc] at *
    exact lto64_3 w0 hw hc w hS hT x hx

theorem ltoMine_0 (w0 : Int) (hw : 0 ≤ w0 ∧ w0 < 256) (hc : w0 % 4 = 0) (w : World) (hS : Shapes w) (hT : Tab w) (x : Int) (hx : 0 ≤ x ∧ x < 2 ^ 16) :
    Calls Tryd.prog 98 #[.int .u8 w0, .int .u64 x] w (fun e w' => e = .returned (.tuple #[.int .u64 (toW 32 16 x).1, .bool (toW 32 16 x).2]) ∧ Below w.heap.size w w') := by
  have hc2 := tmod4 hw hc
  rw [show (2 : Int) ^ 16 = 65536 from by decide] at hx
  have H := Lib.hid (to_Own_16 w hS hT x hx)
  have W1 : IntKind.u16.wrap x = x := by rw [IntKind.wrap_u16]; omega
  have V1 : x % 65536 = x := by omega
  have hR := toW_bd (V := 32) (by unfold Wide; omega) 16 x
  rw [show (2 : Int) ^ 32 = 4294967296 from by decide] at hR
  generalize (toW 32 16 x).1 = R at *
  generalize (toW 32 16 x).2 = ok at *
  have W2 : IntKind.u64.wrap R = R := by rw [IntKind.wrap_u64]; omega
  have V2 : R % 18446744073709551616 = R := by omega
  go_enter Tryd.func98, Tryd.ntmps98
  go_wp2_with fail
  refine (H.out).mono ?_
  rintro e w1 ⟨rfl, b1⟩
  go_wp2
  go_ret2
  exact ⟨rfl, b1⟩

theorem ltoMine_1 (w0 : Int) (hw : 0 ≤ w0 ∧ w0 < 256) (hc : w0 % 4 = 1) (w : World) (hS : Shapes w) (hT : Tab w) (x : Int) (hx : 0 ≤ x ∧ x < 2 ^ 32) :
    Calls Tryd.prog 98 #[.int .u8 w0, .int .u64 x] w (fun e w' => e = .returned (.tuple #[.int .u64 (toW 32 32 x).1, .bool (toW 32 32 x).2]) ∧ Below w.heap.size w w') := by
  have hc2 := tmod4 hw hc
  rw [show (2 : Int) ^ 32 = 4294967296 from by decide] at hx
  have H := Lib.hid (to_Own_32 w hS hT x hx)
  have W1 : IntKind.u32.wrap x = x := by rw [IntKind.wrap_u32]; omega
  have V1 : x % 4294967296 = x := by omega
  have hR := toW_bd (V := 32) (by unfold Wide; omega) 32 x
  rw [show (2 : Int) ^ 32 = 4294967296 from by decide] at hR
  generalize (toW 32 32 x).1 = R at *
  generalize (toW 32 32 x).2 = ok at *
  have W2 : IntKind.u64.wrap R = R := by rw [IntKind.wrap_u64]; omega
  have V2 : R % 18446744073709551616 = R := by omega
  go_enter Tryd.func98, Tryd.ntmps98
  go_wp2_with fail
  refine (H.out).mono ?_
  rintro e w1 ⟨rfl, b1⟩
  go_wp2
  go_ret2
  exact ⟨rfl, b1⟩

theorem ltoMine_2 (w0 : Int) (hw : 0 ≤ w0 ∧ w0 < 256) (hc : w0 % 4 = 2) (w : World) (hS : Shapes w) (hT : Tab w) (x : Int) (hx : 0 ≤ x ∧ x < 2 ^ 64) :
    Calls Tryd.prog 98 #[.int .u8 w0, .int .u64 x] w (fun e w' => e = .returned (.tuple #[.int .u64 (toW 32 64 x).1, .bool (toW 32 64 x).2]) ∧ Below w.heap.size w w') := by
  have hc2 := tmod4 hw hc
  rw [show (2 : Int) ^ 64 = 18446744073709551616 from by decide] at hx
  have H := Lib.hid (to_Own_64 w hS hT x hx)
  have hR := toW_bd (V := 32) (by unfold Wide; omega) 64 x
  rw [show (2 : Int) ^ 32 = 4294967296 from by decide] at hR
  generalize (toW 32 64 x).1 = R at *
  generalize (toW 32 64 x).2 = ok at *
  have W2 : IntKind.u64.wrap R = R := by rw [IntKind.wrap_u64]; omega
  have V2 : R % 18446744073709551616 = R := by omega
  go_enter Tryd.func98, Tryd.ntmps98
  go_wp2_with fail
  refine (H.out).mono ?_
  rintro e w1 ⟨rfl, b1⟩
  go_wp2
  go_ret2
  exact ⟨rfl, b1⟩

theorem ltoMine_3 (w0 : Int) (hw : 0 ≤ w0 ∧ w0 < 256) (hc : w0 % 4 = 3) (w : World) (hS : Shapes w) (hT : Tab w) (x : Int) (hx : 0 ≤ x ∧ x < 2 ^ 32) :
    Calls Tryd.prog 98 #[.int .u8 w0, .int .u64 x] w (fun e w' => e = .returned (.tuple #[.int .u64 (toW 32 32 x).1, .bool (toW 32 32 x).2]) ∧ Below w.heap.size w w') := by
  have hc2 := tmod4 hw hc
  rw [show (2 : Int) ^ 32 = 4294967296 from by decide] at hx
  have H := Lib.hid (to_Own_Own w hS hT x hx)
  have W1 : IntKind.u32.wrap x = x := by rw [IntKind.wrap_u32]; omega
  have V1 : x % 4294967296 = x := by omega
  have hR := toW_bd (V := 32) (by unfold Wide; omega) 32 x
  rw [show (2 : Int) ^ 32 = 4294967296 from by decide] at hR
  generalize (toW 32 32 x).1 = R at *
  generalize (toW 32 32 x).2 = ok at *
  have W2 : IntKind.u64.wrap R = R := by rw [IntKind.wrap_u64]; omega
  have V2 : R % 18446744073709551616 = R := by omega
  go_enter Tryd.func98, Tryd.ntmps98
  go_wp2_with fail
  refine (H.out).mono ?_
  rintro e w1 ⟨rfl, b1⟩
  go_wp2
  go_ret2
  exact ⟨rfl, b1⟩

theorem ltoMine_calls (w0 : Int) (hw : 0 ≤ w0 ∧ w0 < 256) (w : World) (hS : Shapes w) (hT : Tab w) (x : Int) (hx : 0 ≤ x ∧ x < 2 ^ wd w0) :
    Calls Tryd.prog 98 #[.int .u8 w0, .int .u64 x] w (fun e w' => e = .returned (.tuple #[.int .u64 (toW 32 (wd w0) x).1, .bool (toW 32 (wd w0) x).2]) ∧ Below w.heap.size w w') := by
  rcases (show w0 % 4 = 0 ∨ w0 % 4 = 1 ∨ w0 % 4 = 2 ∨ w0 % 4 = 3 by omega) with hc | hc | hc | hc
  · simp only [wd_0 hc] at *
    exact ltoMine_0 w0 hw hc w hS hT x hx
  · simp only [wd_1 hc] at *
    exact ltoMine_1 w0 hw hc w hS hT x hx
  · simp only [wd_2 hc] at *
    exact ltoMine_2 w0 hw hc w hS hT x hx
  · simp only [wd_3 hc] at *
    exact ltoMine_3 w0 hw hc w hS hT x hx

theorem lto_0 (w0 : Int) (hw : 0 ≤ w0 ∧ w0 < 256) (hc : w0 % 4 = 0) (v0 : Int) (hv : 0 ≤ v0 ∧ v0 < 256) (w : World) (hS : Shapes w) (hT : Tab w) (x : Int) (hx : 0 ≤ x ∧ x < 2 ^ wd v0) :
    Calls Tryd.prog 39 #[.int .u8 w0, .int .u8 v0, .int .u64 x] w (fun e w' => e = .returned (.tuple #[.int .u64 (toW 16 (wd v0) x).1, .bool (toW 16 (wd v0) x).2]) ∧ Below w.heap.size w w') := by
  have hc2 := tmod4 hw hc
  have H := Lib.hid (lto16_calls v0 hv w hS hT x hx)
  generalize (toW 16 (wd v0) x).1 = R at *
  generalize (toW 16 (wd v0) x).2 = ok at *
  go_enter Tryd.func39, Tryd.ntmps39
  go_wp2_with fail
  refine (H.out).mono ?_
  rintro e w1 ⟨rfl, b1⟩
  go_wp2
  go_ret2
  exact ⟨rfl, b1⟩

theorem lto_1 (w0 : Int) (hw : 0 ≤ w0 ∧ w0 < 256) (hc : w0 % 4 = 1) (v0 : Int) (hv : 0 ≤ v0 ∧ v0 < 256) (w : World) (hS : Shapes w) (hT : Tab w) (x : Int) (hx : 0 ≤ x ∧ x < 2 ^ wd v0) :
    Calls Tryd.prog 39 #[.int .u8 w0, .int .u8 v0, .int .u64 x] w (fun e w' => e = .returned (.tuple #[.int .u64 (toW 32 (wd v0) x).1, .bool (toW 32 (wd v0) x).2]) ∧ Below w.heap.size w w') := by
  have hc2 := tmod4 hw hc
  have H := Lib.hid (lto32_calls v0 hv w hS hT x hx)
  generalize (toW 32 (wd v0) x).1 = R at *
  generalize (toW 32 (wd v0) x).2 = ok at *
  go_enter Tryd.func39, Tryd.ntmps39
  go_wp2_with fail
  refine (H.out).mono ?_
  rintro e w1 ⟨rfl, b1⟩
  go_wp2
  go_ret2
  exact ⟨rfl, b1⟩

theorem lto_2 (w0 : Int) (hw : 0 ≤ w0 ∧ w0 < 256) (hc : w0 % 4 = 2) (v0 : Int) (hv : 0 ≤ v0 ∧ v0 < 256) (w : World) (hS : Shapes w) (hT : Tab w) (x : Int) (hx : 0 ≤ x ∧ x < 2 ^ wd v0) :
    Calls Tryd.prog 39 #[.int .u8 w0, .int .u8 v0, .int .u64 x] w (fun e w' => e = .returned (.tuple #[.int .u64 (toW 64 (wd v0) x).1, .bool (toW 64 (wd v0) x).2]) ∧ Below w.heap.size w w') := by
  have hc2 := tmod4 hw hc
  have H := Lib.hid (lto64_calls v0 hv w hS hT x hx)
  generalize (toW 64 (wd v0) x).1 = R at *
  generalize (toW 64 (wd v0) x).2 = ok at *
  go_enter Tryd.func39, Tryd.ntmps39
  go_wp2_with fail
  refine (H.out).mono ?_
  rintro e w1 ⟨rfl, b1⟩
  go_wp2
  go_ret2
  exact ⟨rfl, b1⟩

theorem lto_3 (w0 : Int) (hw : 0 ≤ w0 ∧ w0 < 256) (hc : w0 % 4 = 3) (v0 : Int) (hv : 0 ≤ v0 ∧ v0 < 256) (w : World) (hS : Shapes w) (hT : Tab w) (x : Int) (hx : 0 ≤ x ∧ x < 2 ^ wd v0) :
    Calls Tryd.prog 39 #[.int .u8 w0, .int .u8 v0, .int .u64 x] w (fun e w' => e = .returned (.tuple #[.int .u64 (toW 32 (wd v0) x).1, .bool (toW 32 (wd v0) x).2]) ∧ Below w.heap.size w w') := by
  have hc2 := tmod4 hw hc
  have H := Lib.hid (ltoMine_calls v0 hv w hS hT x hx)
  generalize (toW 32 (wd v0) x).1 = R at *
  generalize (toW 32 (wd v0) x).2 = ok at *
  go_enter Tryd.func39, Tryd.ntmps39
  go_wp2_with fail
  refine (H.out).mono ?_
  rintro e w1 ⟨rfl, b1⟩
  go_wp2
  go_ret2
  exact ⟨rfl, b1⟩

theorem lto_calls (w0 : Int) (hw : 0 ≤ w0 ∧ w0 < 256) (v0 : Int) (hv : 0 ≤ v0 ∧ v0 < 256) (w : World) (hS : Shapes w) (hT : Tab w) (x : Int) (hx : 0 ≤ x ∧ x < 2 ^ wd v0) :
    Calls Tryd.prog 39 #[.int .u8 w0, .int .u8 v0, .int .u64 x] w (fun e w' => e = .returned (.tuple #[.int .u64 (toW (wd w0) (wd v0) x).1, .bool (toW (wd w0) (wd v0) x).2]) ∧ Below w.heap.size w w') := by
  rcases (show w0 % 4 = 0 ∨ w0 % 4 = 1 ∨ w0 % 4 = 2 ∨ w0 % 4 = 3 by omega) with hc | hc | hc | hc
  · rw [wd_0 hc]
    exact lto_0 w0 hw hc v0 hv w hS hT x hx
  · rw [wd_1 hc]
    exact lto_1 w0 hw hc v0 hv w hS hT x hx
  · rw [wd_2 hc]
    exact lto_2 w0 hw hc v0 hv w hS hT x hx
  · rw [wd_3 hc]
    exact lto_3 w0 hw hc v0 hv w hS hT x hx
end Go.Proofs.YtmnabilgpndjmaaDoor

/- Printed by ieee3.py. -/
namespace Go.Proofs.YtmnabilgpndjmaaDoor
open Go.RowKit

set_option maxRecDepth 20000 in
set_option maxHeartbeats 2000000 in
theorem rto_calls (V W : Nat) (hV : Wide V) (hW : Wide W) (x : Int) (hx : 0 ≤ x ∧ x < 18446744073709551616) (w : World) : Calls Tryd.prog 40 #[.int .i64 V, .int .i64 W, .int .u64 x] w (fun e w' => e = .returned (.tuple #[.int .u64 (toW V W x).1, .bool (toW V W x).2]) ∧ Below w.heap.size w w') := by
  have hfit := inf_fits hV
  have hpw := pow_wide hV
  have HT := Lib.hid (show toW V W x = if isNaN W x then (nanW V, true) else if sizeW W x = infW W then ((if negW W x then sgnW V else 0) + infW V, true)
    else (roundW V (pNeg W x) (pM W x) (pE W x) false, sameW V W x (roundW V (pNeg W x) (pM W x) (pE W x) false)) from rfl)
  have HO := Lib.hid (show pOk W x = decide (sizeW W x < infW W) from rfl)
  have HN := Lib.hid (show isNaN W x = decide (infW W < sizeW W x) from rfl)
  have HC := Lib.hid (show clsW W x = if infW W < sizeW W x then 5 else if sizeW W x = infW W then 4 else if sizeW W x = 0 then 1 else if sizeW W x < 2 ^ shF W then 2 else 3 from rfl)
  have C0 := Lib.hid (rclass_calls W hW x hx)
  have PN := Lib.hid (rneg_calls W hW x)
  have PI := Lib.hid (rinf_calls V hV)
  have PS := Lib.hid (rsign_calls V hV)
  have PA := Lib.hid (rnan_calls V hV)
  have PP := Lib.hid (rparts_calls W hW x hx)
  have hm := pM_bd hW x
  have he := pE_bd hW x
  have hy := roundW_bd hV (pNeg W x) (pM W x) (pE W x) false
  have HQ := Lib.hid (fun w => rparts_calls V hV (roundW V (pNeg W x) (pM W x) (pE W x) false) ⟨hy.1, by omega⟩ w)
  have HRd := Lib.hid (fun (w : World) (ad : Option Addr) (n c : Nat) (h : Num w ad n c (pM W x)) (hn : n ≤ 2) => rround_calls V hV (pNeg W x) ad n c (pM W x) (pE W x) false w h (by omega) (by omega))
  have HSm := Lib.hid (show sameW V W x (roundW V (pNeg W x) (pM W x) (pE W x) false) = (pOk V (roundW V (pNeg W x) (pM W x) (pE W x) false) && decide (pM V (roundW V (pNeg W x) (pM W x) (pE W x) false) = pM W x) && decide (pE V (roundW V (pNeg W x) (pM W x) (pE W x) false) = pE W x)) from rfl)
  clear hy hx
  generalize toW V W x = R at *
  generalize sameW V W x (roundW V (pNeg W x) (pM W x) (pE W x) false) = sm at *
  generalize roundW V (pNeg W x) (pM W x) (pE W x) false = y at *
  generalize pM W x = m at *
  generalize pE W x = p at *
  generalize pNeg W x = ng at *
  generalize pM V y = m2 at *
  generalize pE V y = p2 at *
  generalize pOk V y = fin at *
  generalize pNeg V y = ng2 at *
  generalize clsW W x = cl at *
  generalize negW W x = nx at *
  generalize pOk W x = fx at *
  generalize infW W = IW at *
  generalize sizeW W x = zx at *
  generalize isNaN W x = na at *
  generalize infW V = IV at *
  generalize nanW V = NV at *
  generalize sgnW V = SV at *
  have W1 : IntKind.u64.wrap (SV + IV) = SV + IV := by rw [IntKind.wrap_u64]; omega
  have W2 : (SV + IV) % 18446744073709551616 = SV + IV := by omega
  rcases Int.lt_trichotomy zx IW with h | h | h
  · have hna : na = false := by rw [HN.out]; exact decide_eq_false (by omega)
    have HR := Lib.hid (show R = (y, sm) by rw [HT.out, hna, if_neg (by decide), if_neg (by omega)])
    have c5 : (cl == 5) = false := by rw [HC.out, if_neg (by omega), if_neg (by omega)]; split <;> (try split) <;> rfl
    have c4 : (cl == 4) = false := by rw [HC.out, if_neg (by omega), if_neg (by omega)]; split <;> (try split) <;> rfl
    clear HT HC HN HO hna h
    go_enter Tryd.func40, Tryd.ntmps40
    have C1 := Lib.hid (C0.out w)
    go_wp2_with fail
    refine (C1.out).mono ?_
    rintro e w1 ⟨rfl, b1⟩
    have C2 := Lib.hid (PP.out w1)
    go_wp2_with fail
    refine (C2.out).mono ?_
    rintro e w2 ⟨rfl, b2⟩
    have a2 := below_trans b1 b2
    have C3 := Lib.hid ((rfrom_calls m w2 hm.1 (by omega)).mono fun e w' q => q.can)
    go_wp2_with fail
    refine (C3.out).mono ?_
    rintro e w3 ⟨ad3, n3, d3, rfl, f3, b3⟩
    have a3 := below_trans a2 b3
    have l3 := f3.len_le 2 (Int.lt_of_lt_of_le hm.2 (by decide))
    have C4 := Lib.hid (HRd.out w3 ad3 n3 d3 (f3.num hm.1) l3)
    go_wp2_with fail
    refine (C4.out).mono ?_
    rintro e w4 ⟨rfl, b4⟩
    have a4 := below_trans a3 b4
    have C5 := Lib.hid (HQ.out w4)
    go_wp2_with fail
    refine (C5.out).mono ?_
    rintro e w5 ⟨rfl, b5⟩
    have a5 := below_trans a4 b5
    cases fin
    · have HB := Lib.hid (show sm = false by rw [HSm.out]; rfl)
      go_wp2
      go_ret2
      rw [HR.out, HB.out]
      exact ⟨rfl, a5⟩
    · by_cases hm2 : m2 = m
      · by_cases hp2 : p2 = p
        · have HB := Lib.hid (show sm = true by rw [HSm.out, decide_eq_true hm2, decide_eq_true hp2]; rfl)
          have hm3 : (m2 == m) = true := by simpa using hm2
          have hp3 : (p2 == p) = true := by simpa using hp2
          clear HSm hm2 hp2
          go_wp2
          go_ret2
          rw [HR.out, HB.out]
          exact ⟨rfl, a5⟩
        · have HB := Lib.hid (show sm = false by rw [HSm.out, decide_eq_false hp2]; simp)
          have hm3 : (m2 == m) = true := by simpa using hm2
          have hp3 : (p2 == p) = false := by simpa using hp2
          clear HSm hm2 hp2
          go_wp2
          go_ret2
          rw [HR.out, HB.out]
          exact ⟨rfl, a5⟩
      · have HB := Lib.hid (show sm = false by rw [HSm.out, decide_eq_false hm2]; simp)
        have hm3 : (m2 == m) = false := by simpa using hm2
        clear HSm hm2
        go_wp2
        go_ret2
        rw [HR.out, HB.out]
        exact ⟨rfl, a5⟩
  · have hna : na = false := by rw [HN.out]; exact decide_eq_false (by omega)
    have HR := Lib.hid (show R = ((if nx then SV else 0) + IV, true) by rw [HT.out, hna, if_neg (by decide), if_pos h])
    have c5 : (cl == 5) = false := by rw [HC.out, if_neg (by omega), if_pos h]; rfl
    have c4 : (cl == 4) = true := by rw [HC.out, if_neg (by omega), if_pos h]; rfl
    clear HT HC HN HO hna h HSm
    cases nx
    · have HR2 := Lib.hid (show R = (IV, true) by rw [HR.out]; simp)
      go_enter Tryd.func40, Tryd.ntmps40
      have C1 := Lib.hid (C0.out w)
      go_wp2_with fail
      refine (C1.out).mono ?_
      rintro e w1 ⟨rfl, b1⟩
      have C2 := Lib.hid (PN.out w1)
      go_wp2_with fail
      refine (C2.out).mono ?_
      rintro e w' ⟨rfl, rfl⟩
      have C3 := Lib.hid (PI.out w1)
      go_wp2_with fail
      refine (C3.out).mono ?_
      rintro e w3 ⟨rfl, b3⟩
      have a3 := below_trans b1 b3
      go_wp2
      go_ret2
      rw [HR2.out]
      exact ⟨rfl, a3⟩
    · have HR2 := Lib.hid (show R = (SV + IV, true) by rw [HR.out]; simp)
      go_enter Tryd.func40, Tryd.ntmps40
      have C1 := Lib.hid (C0.out w)
      go_wp2_with fail
      refine (C1.out).mono ?_
      rintro e w1 ⟨rfl, b1⟩
      have C2 := Lib.hid (PN.out w1)
      go_wp2_with fail
      refine (C2.out).mono ?_
      rintro e w' ⟨rfl, rfl⟩
      have C3 := Lib.hid (PS.out w1)
      go_wp2_with fail
      refine (C3.out).mono ?_
      rintro e w' ⟨rfl, rfl⟩
      have C4 := Lib.hid (PI.out w1)
      go_wp2_with fail
      refine (C4.out).mono ?_
      rintro e w4 ⟨rfl, b4⟩
      have a4 := below_trans b1 b4
      go_wp2
      go_ret2
      rw [HR2.out]
      exact ⟨rfl, a4⟩
  · have hna : na = true := by rw [HN.out]; exact decide_eq_true h
    have HR := Lib.hid (show R = (NV, true) by rw [HT.out, hna, if_pos rfl])
    have c5 : (cl == 5) = true := by rw [HC.out, if_pos h]; rfl
    clear HT HC HN HO hna h HSm
    go_enter Tryd.func40, Tryd.ntmps40
    have C1 := Lib.hid (C0.out w)
    go_wp2_with fail
    refine (C1.out).mono ?_
    rintro e w1 ⟨rfl, b1⟩
    have C2 := Lib.hid (PA.out w1)
    go_wp2_with fail
    refine (C2.out).mono ?_
    rintro e w2 ⟨rfl, b2⟩
    have a2 := below_trans b1 b2
    go_wp2
    go_ret2
    rw [HR.out]
    exact ⟨rfl, a2⟩
end Go.Proofs.YtmnabilgpndjmaaDoor
