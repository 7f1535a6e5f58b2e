/- Printed by ieee2.py. -/
import Derived.Test.YtmnabilgpndjmaaDoorICmp16
import Derived.Test.YtmnabilgpndjmaaDoorICmp32
import Derived.Test.YtmnabilgpndjmaaDoorICmp64
import Derived.Test.YtmnabilgpndjmaaDoorICmpOwn
import Derived.Test.YtmnabilgpndjmaaDoorINext16
import Derived.Test.YtmnabilgpndjmaaDoorINext32
import Derived.Test.YtmnabilgpndjmaaDoorINext64
import Derived.Test.YtmnabilgpndjmaaDoorINextOwn
import Derived.Test.YtmnabilgpndjmaaDoorR4d
set_option linter.unusedVariables false
set_option linter.unusedSimpArgs false
namespace Go.Proofs.YtmnabilgpndjmaaDoor
open Go.RowKit

theorem next_bounds {W : Nat} (hW : Wide W) (x : Int) (hx : 0 ≤ x ∧ x < 2 ^ W) : 0 ≤ nextW W x ∧ nextW W x < 18446744073709551616 := by
  have h1 : x < 18446744073709551616 := by rcases hW with rfl | rfl | rfl <;> exact Int.lt_of_lt_of_le hx.2 (by decide)
  have h2 : sgnW W ≤ 9223372036854775808 := by rcases hW with rfl | rfl | rfl <;> decide
  have h3 : 0 < sgnW W := Int.pow_pos (by omega)
  unfold nextW
  split
  · omega
  · split
    · omega
    · split
      · rename_i h
        have h4 : sgnW W ≤ x := of_decide_eq_true h
        omega
      · rename_i h
        have h4 : ¬ sgnW W ≤ x := fun h5 => h (decide_eq_true h5)
        omega

theorem tmod4 {w0 c : Int} (hw : 0 ≤ w0 ∧ w0 < 256) (h : w0 % 4 = c) : w0.tmod 4 = c := by rw [Int.tmod_eq_emod_of_nonneg hw.1]; exact h

theorem lwidth_0 (w0 : Int) (hw : 0 ≤ w0 ∧ w0 < 256) (hc : w0 % 4 = 0) (w : World) : Calls Tryd.prog 17 #[.int .u8 w0] w (fun e w' => e = .returned (.int .i64 16) ∧ w = w') := by
  have hc2 := tmod4 hw hc
  go_enter Tryd.func17, Tryd.ntmps17
  go_wp2
  go_ret
  exact ⟨rfl, rfl⟩

theorem lfit_0 (w0 : Int) (hw : 0 ≤ w0 ∧ w0 < 256) (hc : w0 % 4 = 0) (x : Int) (hx : 0 ≤ x ∧ x < 18446744073709551616) (w : World) : Calls Tryd.prog 14 #[.int .u8 w0, .int .u64 x] w (fun e w' => e = .returned (.int .u64 (x % 65536)) ∧ w = w') := by
  have hc2 := tmod4 hw hc
  have W1 : IntKind.u16.wrap x = x % 65536 := by rw [IntKind.wrap_u16]
  have W2 : IntKind.u64.wrap (x % 65536) = x % 65536 := by rw [IntKind.wrap_u64]; omega
  have W3 : x % 65536 % 18446744073709551616 = x % 65536 := by omega
  go_enter Tryd.func14, Tryd.ntmps14
  go_wp2
  go_ret
  exact ⟨rfl, rfl⟩

theorem lcmp_0 (w0 : Int) (hw : 0 ≤ w0 ∧ w0 < 256) (hc : w0 % 4 = 0) (w : World) (hS : Shapes w) (x y : Int) (hx : 0 ≤ x ∧ x < 65536) (hy : 0 ≤ y ∧ y < 65536) : Calls Tryd.prog 15 #[.int .u8 w0, .int .u64 x, .int .u64 y] w (fun e w' => e = .returned (.tuple #[.int .i64 (cmpW 16 x y).1, .bool (cmpW 16 x y).2]) ∧ Below w.heap.size w w') := by
  have hc2 := tmod4 hw hc
  have H := Lib.hid (cmp_16 w hS x y hx hy)
  have Wx : IntKind.u16.wrap x = x := by rw [IntKind.wrap_u16]; omega
  have Wy : IntKind.u16.wrap y = y := by rw [IntKind.wrap_u16]; omega
  have Vx : x % 65536 = x := by omega
  have Vy : y % 65536 = y := by omega
  go_enter Tryd.func15, Tryd.ntmps15
  go_wp2_with fail
  refine (H.out).mono ?_
  rintro e w1 ⟨rfl, b1⟩
  go_wp2
  go_ret2
  exact ⟨rfl, b1⟩

theorem ltotal_0 (w0 : Int) (hw : 0 ≤ w0 ∧ w0 < 256) (hc : w0 % 4 = 0) (w : World) (hS : Shapes w) (x y : Int) (hx : 0 ≤ x ∧ x < 65536) (hy : 0 ≤ y ∧ y < 65536) : Calls Tryd.prog 18 #[.int .u8 w0, .int .u64 x, .int .u64 y] w (fun e w' => e = .returned (.int .i64 (totalW 16 x y)) ∧ Below w.heap.size w w') := by
  have hc2 := tmod4 hw hc
  have H := Lib.hid (total_16 w hS x y hx hy)
  have Wx : IntKind.u16.wrap x = x := by rw [IntKind.wrap_u16]; omega
  have Wy : IntKind.u16.wrap y = y := by rw [IntKind.wrap_u16]; omega
  have Vx : x % 65536 = x := by omega
  have Vy : y % 65536 = y := by omega
  go_enter Tryd.func18, Tryd.ntmps18
  go_wp2_with fail
  refine (H.out).mono ?_
  rintro e w1 ⟨rfl, b1⟩
  go_wp2
  go_ret
  exact ⟨rfl, b1⟩

theorem lnext_0 (w0 : Int) (hw : 0 ≤ w0 ∧ w0 < 256) (hc : w0 % 4 = 0) (w : World) (hS : Shapes w) (x : Int) (hx : 0 ≤ x ∧ x < 65536) : Calls Tryd.prog 20 #[.int .u8 w0, .int .u64 x] w (fun e w' => e = .returned (.int .u64 (nextW 16 x)) ∧ Below w.heap.size w w') := by
  have hc2 := tmod4 hw hc
  have H := Lib.hid (next_16 w hS x hx)
  have hN := next_bounds (W := 16) (by unfold Wide; omega) x ⟨hx.1, hx.2⟩
  have Wx : IntKind.u16.wrap x = x := by rw [IntKind.wrap_u16]; omega
  have Vx : x % 65536 = x := by omega
  have WN : IntKind.u64.wrap (nextW 16 x) = nextW 16 x := by rw [IntKind.wrap_u64]; omega
  have VN : nextW 16 x % 18446744073709551616 = nextW 16 x := by omega
  go_enter Tryd.func20, Tryd.ntmps20
  go_wp2_with fail
  refine (H.out).mono ?_
  rintro e w1 ⟨rfl, b1⟩
  go_wp2
  go_ret
  exact ⟨by first | rfl | (rw [HN.out]), b1⟩

theorem lwidth_1 (w0 : Int) (hw : 0 ≤ w0 ∧ w0 < 256) (hc : w0 % 4 = 1) (w : World) : Calls Tryd.prog 17 #[.int .u8 w0] w (fun e w' => e = .returned (.int .i64 32) ∧ w = w') := by
  have hc2 := tmod4 hw hc
  go_enter Tryd.func17, Tryd.ntmps17
  go_wp2
  go_ret
  exact ⟨rfl, rfl⟩

theorem lfit_1 (w0 : Int) (hw : 0 ≤ w0 ∧ w0 < 256) (hc : w0 % 4 = 1) (x : Int) (hx : 0 ≤ x ∧ x < 18446744073709551616) (w : World) : Calls Tryd.prog 14 #[.int .u8 w0, .int .u64 x] w (fun e w' => e = .returned (.int .u64 (x % 4294967296)) ∧ w = w') := by
  have hc2 := tmod4 hw hc
  have W1 : IntKind.u32.wrap x = x % 4294967296 := by rw [IntKind.wrap_u32]
  have W2 : IntKind.u64.wrap (x % 4294967296) = x % 4294967296 := by rw [IntKind.wrap_u64]; omega
  have W3 : x % 4294967296 % 18446744073709551616 = x % 4294967296 := by omega
  go_enter Tryd.func14, Tryd.ntmps14
  go_wp2
  go_ret
  exact ⟨rfl, rfl⟩

theorem lcmp_1 (w0 : Int) (hw : 0 ≤ w0 ∧ w0 < 256) (hc : w0 % 4 = 1) (w : World) (hS : Shapes w) (x y : Int) (hx : 0 ≤ x ∧ x < 4294967296) (hy : 0 ≤ y ∧ y < 4294967296) : Calls Tryd.prog 15 #[.int .u8 w0, .int .u64 x, .int .u64 y] w (fun e w' => e = .returned (.tuple #[.int .i64 (cmpW 32 x y).1, .bool (cmpW 32 x y).2]) ∧ Below w.heap.size w w') := by
  have hc2 := tmod4 hw hc
  have H := Lib.hid (cmp_32 w hS x y hx hy)
  have Wx : IntKind.u32.wrap x = x := by rw [IntKind.wrap_u32]; omega
  have Wy : IntKind.u32.wrap y = y := by rw [IntKind.wrap_u32]; omega
  have Vx : x % 4294967296 = x := by omega
  have Vy : y % 4294967296 = y := by omega
  go_enter Tryd.func15, Tryd.ntmps15
  go_wp2_with fail
  refine (H.out).mono ?_
  rintro e w1 ⟨rfl, b1⟩
  go_wp2
  go_ret2
  exact ⟨rfl, b1⟩

theorem ltotal_1 (w0 : Int) (hw : 0 ≤ w0 ∧ w0 < 256) (hc : w0 % 4 = 1) (w : World) (hS : Shapes w) (x y : Int) (hx : 0 ≤ x ∧ x < 4294967296) (hy : 0 ≤ y ∧ y < 4294967296) : Calls Tryd.prog 18 #[.int .u8 w0, .int .u64 x, .int .u64 y] w (fun e w' => e = .returned (.int .i64 (totalW 32 x y)) ∧ Below w.heap.size w w') := by
  have hc2 := tmod4 hw hc
  have H := Lib.hid (total_32 w hS x y hx hy)
  have Wx : IntKind.u32.wrap x = x := by rw [IntKind.wrap_u32]; omega
  have Wy : IntKind.u32.wrap y = y := by rw [IntKind.wrap_u32]; omega
  have Vx : x % 4294967296 = x := by omega
  have Vy : y % 4294967296 = y := by omega
  go_enter Tryd.func18, Tryd.ntmps18
  go_wp2_with fail
  refine (H.out).mono ?_
  rintro e w1 ⟨rfl, b1⟩
  go_wp2
  go_ret
  exact ⟨rfl, b1⟩

theorem lnext_1 (w0 : Int) (hw : 0 ≤ w0 ∧ w0 < 256) (hc : w0 % 4 = 1) (w : World) (hS : Shapes w) (x : Int) (hx : 0 ≤ x ∧ x < 4294967296) : Calls Tryd.prog 20 #[.int .u8 w0, .int .u64 x] w (fun e w' => e = .returned (.int .u64 (nextW 32 x)) ∧ Below w.heap.size w w') := by
  have hc2 := tmod4 hw hc
  have H := Lib.hid (next_32 w hS x hx)
  have hN := next_bounds (W := 32) (by unfold Wide; omega) x ⟨hx.1, hx.2⟩
  have Wx : IntKind.u32.wrap x = x := by rw [IntKind.wrap_u32]; omega
  have Vx : x % 4294967296 = x := by omega
  have WN : IntKind.u64.wrap (nextW 32 x) = nextW 32 x := by rw [IntKind.wrap_u64]; omega
  have VN : nextW 32 x % 18446744073709551616 = nextW 32 x := by omega
  go_enter Tryd.func20, Tryd.ntmps20
  go_wp2_with fail
  refine (H.out).mono ?_
  rintro e w1 ⟨rfl, b1⟩
  go_wp2
  go_ret
  exact ⟨by first | rfl | (rw [HN.out]), b1⟩

theorem lwidth_2 (w0 : Int) (hw : 0 ≤ w0 ∧ w0 < 256) (hc : w0 % 4 = 2) (w : World) : Calls Tryd.prog 17 #[.int .u8 w0] w (fun e w' => e = .returned (.int .i64 64) ∧ w = w') := by
  have hc2 := tmod4 hw hc
  go_enter Tryd.func17, Tryd.ntmps17
  go_wp2
  go_ret
  exact ⟨rfl, rfl⟩

theorem lfit_2 (w0 : Int) (hw : 0 ≤ w0 ∧ w0 < 256) (hc : w0 % 4 = 2) (x : Int) (hx : 0 ≤ x ∧ x < 18446744073709551616) (w : World) : Calls Tryd.prog 14 #[.int .u8 w0, .int .u64 x] w (fun e w' => e = .returned (.int .u64 (x % 18446744073709551616)) ∧ w = w') := by
  have hc2 := tmod4 hw hc
  have HX := Lib.hid (show x % 18446744073709551616 = x by omega)
  go_enter Tryd.func14, Tryd.ntmps14
  go_wp2
  go_ret
  rw [HX.out]
  exact ⟨rfl, rfl⟩

theorem lcmp_2 (w0 : Int) (hw : 0 ≤ w0 ∧ w0 < 256) (hc : w0 % 4 = 2) (w : World) (hS : Shapes w) (x y : Int) (hx : 0 ≤ x ∧ x < 18446744073709551616) (hy : 0 ≤ y ∧ y < 18446744073709551616) : Calls Tryd.prog 15 #[.int .u8 w0, .int .u64 x, .int .u64 y] w (fun e w' => e = .returned (.tuple #[.int .i64 (cmpW 64 x y).1, .bool (cmpW 64 x y).2]) ∧ Below w.heap.size w w') := by
  have hc2 := tmod4 hw hc
  have H := Lib.hid (cmp_64 w hS x y hx hy)
  go_enter Tryd.func15, Tryd.ntmps15
  go_wp2_with fail
  refine (H.out).mono ?_
  rintro e w1 ⟨rfl, b1⟩
  go_wp2
  go_ret2
  exact ⟨rfl, b1⟩

theorem ltotal_2 (w0 : Int) (hw : 0 ≤ w0 ∧ w0 < 256) (hc : w0 % 4 = 2) (w : World) (hS : Shapes w) (x y : Int) (hx : 0 ≤ x ∧ x < 18446744073709551616) (hy : 0 ≤ y ∧ y < 18446744073709551616) : Calls Tryd.prog 18 #[.int .u8 w0, .int .u64 x, .int .u64 y] w (fun e w' => e = .returned (.int .i64 (totalW 64 x y)) ∧ Below w.heap.size w w') := by
  have hc2 := tmod4 hw hc
  have H := Lib.hid (total_64 w hS x y hx hy)
  go_enter Tryd.func18, Tryd.ntmps18
  go_wp2_with fail
  refine (H.out).mono ?_
  rintro e w1 ⟨rfl, b1⟩
  go_wp2
  go_ret
  exact ⟨rfl, b1⟩

theorem lnext_2 (w0 : Int) (hw : 0 ≤ w0 ∧ w0 < 256) (hc : w0 % 4 = 2) (w : World) (hS : Shapes w) (x : Int) (hx : 0 ≤ x ∧ x < 18446744073709551616) : Calls Tryd.prog 20 #[.int .u8 w0, .int .u64 x] w (fun e w' => e = .returned (.int .u64 (nextW 64 x)) ∧ Below w.heap.size w w') := by
  have hc2 := tmod4 hw hc
  have H := Lib.hid (next_64 w hS x hx)
  have hN := next_bounds (W := 64) (by unfold Wide; omega) x ⟨hx.1, hx.2⟩
  go_enter Tryd.func20, Tryd.ntmps20
  go_wp2_with fail
  refine (H.out).mono ?_
  rintro e w1 ⟨rfl, b1⟩
  go_wp2
  go_ret
  exact ⟨by first | rfl | (rw [HN.out]), b1⟩

theorem lwidth_3 (w0 : Int) (hw : 0 ≤ w0 ∧ w0 < 256) (hc : w0 % 4 = 3) (w : World) : Calls Tryd.prog 17 #[.int .u8 w0] w (fun e w' => e = .returned (.int .i64 32) ∧ w = w') := by
  have hc2 := tmod4 hw hc
  go_enter Tryd.func17, Tryd.ntmps17
  go_wp2
  go_ret
  exact ⟨rfl, rfl⟩

theorem lfit_3 (w0 : Int) (hw : 0 ≤ w0 ∧ w0 < 256) (hc : w0 % 4 = 3) (x : Int) (hx : 0 ≤ x ∧ x < 18446744073709551616) (w : World) : Calls Tryd.prog 14 #[.int .u8 w0, .int .u64 x] w (fun e w' => e = .returned (.int .u64 (x % 4294967296)) ∧ w = w') := by
  have hc2 := tmod4 hw hc
  have W1 : IntKind.u32.wrap x = x % 4294967296 := by rw [IntKind.wrap_u32]
  have W2 : IntKind.u64.wrap (x % 4294967296) = x % 4294967296 := by rw [IntKind.wrap_u64]; omega
  have W3 : x % 4294967296 % 18446744073709551616 = x % 4294967296 := by omega
  go_enter Tryd.func14, Tryd.ntmps14
  go_wp2
  go_ret
  exact ⟨rfl, rfl⟩

theorem lcmp_3 (w0 : Int) (hw : 0 ≤ w0 ∧ w0 < 256) (hc : w0 % 4 = 3) (w : World) (hS : Shapes w) (x y : Int) (hx : 0 ≤ x ∧ x < 4294967296) (hy : 0 ≤ y ∧ y < 4294967296) : Calls Tryd.prog 15 #[.int .u8 w0, .int .u64 x, .int .u64 y] w (fun e w' => e = .returned (.tuple #[.int .i64 (cmpW 32 x y).1, .bool (cmpW 32 x y).2]) ∧ Below w.heap.size w w') := by
  have hc2 := tmod4 hw hc
  have H := Lib.hid (cmp_Own w hS x y hx hy)
  have Wx : IntKind.u32.wrap x = x := by rw [IntKind.wrap_u32]; omega
  have Wy : IntKind.u32.wrap y = y := by rw [IntKind.wrap_u32]; omega
  have Vx : x % 4294967296 = x := by omega
  have Vy : y % 4294967296 = y := by omega
  go_enter Tryd.func15, Tryd.ntmps15
  go_wp2_with fail
  refine (H.out).mono ?_
  rintro e w1 ⟨rfl, b1⟩
  go_wp2
  go_ret2
  exact ⟨rfl, b1⟩

theorem ltotal_3 (w0 : Int) (hw : 0 ≤ w0 ∧ w0 < 256) (hc : w0 % 4 = 3) (w : World) (hS : Shapes w) (x y : Int) (hx : 0 ≤ x ∧ x < 4294967296) (hy : 0 ≤ y ∧ y < 4294967296) : Calls Tryd.prog 18 #[.int .u8 w0, .int .u64 x, .int .u64 y] w (fun e w' => e = .returned (.int .i64 (totalW 32 x y)) ∧ Below w.heap.size w w') := by
  have hc2 := tmod4 hw hc
  have H := Lib.hid (total_Own w hS x y hx hy)
  have Wx : IntKind.u32.wrap x = x := by rw [IntKind.wrap_u32]; omega
  have Wy : IntKind.u32.wrap y = y := by rw [IntKind.wrap_u32]; omega
  have Vx : x % 4294967296 = x := by omega
  have Vy : y % 4294967296 = y := by omega
  go_enter Tryd.func18, Tryd.ntmps18
  go_wp2_with fail
  refine (H.out).mono ?_
  rintro e w1 ⟨rfl, b1⟩
  go_wp2
  go_ret
  exact ⟨rfl, b1⟩

theorem lnext_3 (w0 : Int) (hw : 0 ≤ w0 ∧ w0 < 256) (hc : w0 % 4 = 3) (w : World) (hS : Shapes w) (x : Int) (hx : 0 ≤ x ∧ x < 4294967296) : Calls Tryd.prog 20 #[.int .u8 w0, .int .u64 x] w (fun e w' => e = .returned (.int .u64 (nextW 32 x)) ∧ Below w.heap.size w w') := by
  have hc2 := tmod4 hw hc
  have H := Lib.hid (next_Own w hS x hx)
  have hN := next_bounds (W := 32) (by unfold Wide; omega) x ⟨hx.1, hx.2⟩
  have Wx : IntKind.u32.wrap x = x := by rw [IntKind.wrap_u32]; omega
  have Vx : x % 4294967296 = x := by omega
  have WN : IntKind.u64.wrap (nextW 32 x) = nextW 32 x := by rw [IntKind.wrap_u64]; omega
  have VN : nextW 32 x % 18446744073709551616 = nextW 32 x := by omega
  go_enter Tryd.func20, Tryd.ntmps20
  go_wp2_with fail
  refine (H.out).mono ?_
  rintro e w1 ⟨rfl, b1⟩
  go_wp2
  go_ret
  exact ⟨by first | rfl | (rw [HN.out]), b1⟩
end Go.Proofs.YtmnabilgpndjmaaDoor
