/- Contracts of functions, and plain facts, part 28. -/
import Derived.Laws.Bits64b
import Derived.Test.YtmnabilgpndjmaaDoorPk5
import Derived.Test.YtmnabilgpndjmaaDoorPk10
import Derived.Test.YtmnabilgpndjmaaDoorPk11
import Derived.Test.YtmnabilgpndjmaaDoorPk25
import Derived.Test.YtmnabilgpndjmaaDoorPk26
import Derived.Test.YtmnabilgpndjmaaDoorPk27
set_option linter.unusedVariables false
set_option linter.unusedSimpArgs false
/- Printed by ieee2.py. -/
namespace Go.Proofs.YtmnabilgpndjmaaDoor
open Go.RowKit

theorem or_zero_64 (a b : Int) (ha : 0 ≤ a ∧ a < 18446744073709551616) (hb : 0 ≤ b ∧ b < 18446744073709551616) : (bits .or .u64 a b == 0) = decide (a = 0 ∧ b = 0) := by
  obtain ⟨a, rfl⟩ := Int.eq_ofNat_of_zero_le ha.1
  obtain ⟨b, rfl⟩ := Int.eq_ofNat_of_zero_le hb.1
  rw [bits_or_u64_nat a b (by omega) (by omega), Bool.eq_iff_iff]
  simp only [beq_iff_eq, decide_eq_true_eq]
  have h1 : a ≤ a ||| b := Nat.left_le_or
  have h2 : b ≤ a ||| b := Nat.right_le_or
  constructor
  · intro h
    omega
  · rintro ⟨h3, h4⟩
    have h5 : a = 0 := by omega
    have h6 : b = 0 := by omega
    subst h5 h6
    rfl

theorem cmp_64 (w : World) (hS : Shapes w) (x y : Int) (hx : 0 ≤ x ∧ x < 18446744073709551616) (hy : 0 ≤ y ∧ y < 18446744073709551616) : Calls Tryd.prog 50 #[.int .u64 x, .int .u64 y] w (fun e w' => e = .returned (.tuple #[.int .i64 (cmpW 64 x y).1, .bool (cmpW 64 x y).2]) ∧ Below w.heap.size w w') := by
  have hz1 := size_bounds (W := 64) (by unfold Wide; omega) x ⟨hx.1, hx.2⟩
  have hz2 := size_bounds (W := 64) (by unfold Wide; omega) y ⟨hy.1, hy.2⟩
  rw [sgn64] at hz1 hz2
  have HC := Lib.hid (show cmpW 64 x y = if isNaN 64 x || isNaN 64 y then (0, false) else if sizeW 64 x = 0 ∧ sizeW 64 y = 0 then (0, true) else (totalW 64 x y, true) from rfl)
  have G1 := Lib.hid (class_64 w hS x hx)
  have G2 := Lib.hid (fun (w : World) (hS : Shapes w) => class_64 w hS y hy)
  have H1 := Lib.hid (fun (w : World) (hS : Shapes w) => split_64 w hS x hx)
  have H2 := Lib.hid (fun (w : World) (hS : Shapes w) => split_64 w hS y hy)
  have H3 := Lib.hid (fun (w : World) (hS : Shapes w) => total_64 w hS x y hx hy)
  have nx := nan_cls 64 x
  have ny := nan_cls 64 y
  have HO := or_zero_64 (sizeW 64 x) (sizeW 64 y) (by omega) (by omega)
  clear hz1 hz2
  generalize cmpW 64 x y = C at *
  generalize totalW 64 x y = TT at *
  generalize clsW 64 x = cx at *
  generalize clsW 64 y = cy at *
  generalize isNaN 64 x = i1 at *
  generalize isNaN 64 y = i2 at *
  generalize negW 64 x = n1 at *
  generalize negW 64 y = n2 at *
  generalize sizeW 64 x = s1 at *
  generalize sizeW 64 y = s2 at *
  cases i1
  · cases i2
    · by_cases hz : s1 = 0 ∧ s2 = 0
      · have HR := Lib.hid (show C = (0, true) by rw [HC.out, if_neg (by decide), if_pos hz])
        rw [decide_eq_true hz] at HO
        clear HC hz
        go_enter Tryd.func50, Tryd.ntmps50
        go_wp2_with fail
        refine (G1.out).mono ?_
        rintro e w1 ⟨rfl, b1⟩
        have hS1 := hS.below b1 (Nat.le_refl _)
        have HS1 := Lib.hid (G2.out w1 hS1)
        go_wp2_with fail
        refine (HS1.out).mono ?_
        rintro e w2 ⟨rfl, b2⟩
        have hS2 := hS1.below b2 (Nat.le_refl _)
        have HS2 := Lib.hid (H1.out w2 hS2)
        go_wp2_with fail
        refine (HS2.out).mono ?_
        rintro e w3 ⟨rfl, b3⟩
        have hS3 := hS2.below b3 (Nat.le_refl _)
        have HS3 := Lib.hid (H2.out w3 hS3)
        go_wp2_with fail
        refine (HS3.out).mono ?_
        rintro e w4 ⟨rfl, b4⟩
        have hS4 := hS3.below b4 (Nat.le_refl _)
        have HS4 := Lib.hid (H3.out w4 hS4)
        go_wp2
        go_ret2
        rw [HR.out]
        exact ⟨rfl, below_trans b1 (below_trans b2 (below_trans b3 (b4)))⟩
      · have HR := Lib.hid (show C = (TT, true) by rw [HC.out, if_neg (by decide), if_neg hz])
        rw [decide_eq_false hz] at HO
        clear HC hz
        go_enter Tryd.func50, Tryd.ntmps50
        go_wp2_with fail
        refine (G1.out).mono ?_
        rintro e w1 ⟨rfl, b1⟩
        have hS1 := hS.below b1 (Nat.le_refl _)
        have HS1 := Lib.hid (G2.out w1 hS1)
        go_wp2_with fail
        refine (HS1.out).mono ?_
        rintro e w2 ⟨rfl, b2⟩
        have hS2 := hS1.below b2 (Nat.le_refl _)
        have HS2 := Lib.hid (H1.out w2 hS2)
        go_wp2_with fail
        refine (HS2.out).mono ?_
        rintro e w3 ⟨rfl, b3⟩
        have hS3 := hS2.below b3 (Nat.le_refl _)
        have HS3 := Lib.hid (H2.out w3 hS3)
        go_wp2_with fail
        refine (HS3.out).mono ?_
        rintro e w4 ⟨rfl, b4⟩
        have hS4 := hS3.below b4 (Nat.le_refl _)
        have HS4 := Lib.hid (H3.out w4 hS4)
        go_wp2_with fail
        refine (HS4.out).mono ?_
        rintro e w5 ⟨rfl, b5⟩
        go_wp2
        go_ret2
        rw [HR.out]
        exact ⟨rfl, below_trans b1 (below_trans b2 (below_trans b3 (below_trans b4 (b5))))⟩
    · have HR := Lib.hid (show C = (0, false) by rw [HC.out]; rfl)
      clear HC
      go_enter Tryd.func50, Tryd.ntmps50
      go_wp2_with fail
      refine (G1.out).mono ?_
      rintro e w1 ⟨rfl, b1⟩
      have hS1 := hS.below b1 (Nat.le_refl _)
      have HS1 := Lib.hid (G2.out w1 hS1)
      go_wp2_with fail
      refine (HS1.out).mono ?_
      rintro e w2 ⟨rfl, b2⟩
      have hS2 := hS1.below b2 (Nat.le_refl _)
      have HS2 := Lib.hid (H1.out w2 hS2)
      go_wp2
      go_ret2
      rw [HR.out]
      exact ⟨rfl, below_trans b1 (b2)⟩
  · have HR := Lib.hid (show C = (0, false) by rw [HC.out]; rfl)
    clear HC
    go_enter Tryd.func50, Tryd.ntmps50
    go_wp2_with fail
    refine (G1.out).mono ?_
    rintro e w1 ⟨rfl, b1⟩
    have hS1 := hS.below b1 (Nat.le_refl _)
    have HS1 := Lib.hid (G2.out w1 hS1)
    go_wp2
    go_ret2
    rw [HR.out]
    exact ⟨rfl, b1⟩
end Go.Proofs.YtmnabilgpndjmaaDoor

/- Printed by ieee2.py. -/
namespace Go.Proofs.YtmnabilgpndjmaaDoor
open Go.RowKit

theorem or_zero_Own (a b : Int) (ha : 0 ≤ a ∧ a < 18446744073709551616) (hb : 0 ≤ b ∧ b < 18446744073709551616) : (bits .or .u64 a b == 0) = decide (a = 0 ∧ b = 0) := by
  obtain ⟨a, rfl⟩ := Int.eq_ofNat_of_zero_le ha.1
  obtain ⟨b, rfl⟩ := Int.eq_ofNat_of_zero_le hb.1
  rw [bits_or_u64_nat a b (by omega) (by omega), Bool.eq_iff_iff]
  simp only [beq_iff_eq, decide_eq_true_eq]
  have h1 : a ≤ a ||| b := Nat.left_le_or
  have h2 : b ≤ a ||| b := Nat.right_le_or
  constructor
  · intro h
    omega
  · rintro ⟨h3, h4⟩
    have h5 : a = 0 := by omega
    have h6 : b = 0 := by omega
    subst h5 h6
    rfl

theorem cmp_Own (w : World) (hS : Shapes w) (x y : Int) (hx : 0 ≤ x ∧ x < 4294967296) (hy : 0 ≤ y ∧ y < 4294967296) : Calls Tryd.prog 51 #[.int .u32 x, .int .u32 y] w (fun e w' => e = .returned (.tuple #[.int .i64 (cmpW 32 x y).1, .bool (cmpW 32 x y).2]) ∧ Below w.heap.size w w') := by
  have hz1 := size_bounds (W := 32) (by unfold Wide; omega) x ⟨hx.1, hx.2⟩
  have hz2 := size_bounds (W := 32) (by unfold Wide; omega) y ⟨hy.1, hy.2⟩
  rw [sgn32] at hz1 hz2
  have HC := Lib.hid (show cmpW 32 x y = if isNaN 32 x || isNaN 32 y then (0, false) else if sizeW 32 x = 0 ∧ sizeW 32 y = 0 then (0, true) else (totalW 32 x y, true) from rfl)
  have G1 := Lib.hid (class_Own w hS x hx)
  have G2 := Lib.hid (fun (w : World) (hS : Shapes w) => class_Own w hS y hy)
  have H1 := Lib.hid (fun (w : World) (hS : Shapes w) => split_Own w hS x hx)
  have H2 := Lib.hid (fun (w : World) (hS : Shapes w) => split_Own w hS y hy)
  have H3 := Lib.hid (fun (w : World) (hS : Shapes w) => total_Own w hS x y hx hy)
  have nx := nan_cls 32 x
  have ny := nan_cls 32 y
  have HO := or_zero_Own (sizeW 32 x) (sizeW 32 y) (by omega) (by omega)
  clear hz1 hz2
  generalize cmpW 32 x y = C at *
  generalize totalW 32 x y = TT at *
  generalize clsW 32 x = cx at *
  generalize clsW 32 y = cy at *
  generalize isNaN 32 x = i1 at *
  generalize isNaN 32 y = i2 at *
  generalize negW 32 x = n1 at *
  generalize negW 32 y = n2 at *
  generalize sizeW 32 x = s1 at *
  generalize sizeW 32 y = s2 at *
  cases i1
  · cases i2
    · by_cases hz : s1 = 0 ∧ s2 = 0
      · have HR := Lib.hid (show C = (0, true) by rw [HC.out, if_neg (by decide), if_pos hz])
        rw [decide_eq_true hz] at HO
        clear HC hz
        go_enter Tryd.func51, Tryd.ntmps51
        go_wp2_with fail
        refine (G1.out).mono ?_
        rintro e w1 ⟨rfl, b1⟩
        have hS1 := hS.below b1 (Nat.le_refl _)
        have HS1 := Lib.hid (G2.out w1 hS1)
        go_wp2_with fail
        refine (HS1.out).mono ?_
        rintro e w2 ⟨rfl, b2⟩
        have hS2 := hS1.below b2 (Nat.le_refl _)
        have HS2 := Lib.hid (H1.out w2 hS2)
        go_wp2_with fail
        refine (HS2.out).mono ?_
        rintro e w3 ⟨rfl, b3⟩
        have hS3 := hS2.below b3 (Nat.le_refl _)
        have HS3 := Lib.hid (H2.out w3 hS3)
        go_wp2_with fail
        refine (HS3.out).mono ?_
        rintro e w4 ⟨rfl, b4⟩
        have hS4 := hS3.below b4 (Nat.le_refl _)
        have HS4 := Lib.hid (H3.out w4 hS4)
        go_wp2
        go_ret2
        rw [HR.out]
        exact ⟨rfl, below_trans b1 (below_trans b2 (below_trans b3 (b4)))⟩
      · have HR := Lib.hid (show C = (TT, true) by rw [HC.out, if_neg (by decide), if_neg hz])
        rw [decide_eq_false hz] at HO
        clear HC hz
        go_enter Tryd.func51, Tryd.ntmps51
        go_wp2_with fail
        refine (G1.out).mono ?_
        rintro e w1 ⟨rfl, b1⟩
        have hS1 := hS.below b1 (Nat.le_refl _)
        have HS1 := Lib.hid (G2.out w1 hS1)
        go_wp2_with fail
        refine (HS1.out).mono ?_
        rintro e w2 ⟨rfl, b2⟩
        have hS2 := hS1.below b2 (Nat.le_refl _)
        have HS2 := Lib.hid (H1.out w2 hS2)
        go_wp2_with fail
        refine (HS2.out).mono ?_
        rintro e w3 ⟨rfl, b3⟩
        have hS3 := hS2.below b3 (Nat.le_refl _)
        have HS3 := Lib.hid (H2.out w3 hS3)
        go_wp2_with fail
        refine (HS3.out).mono ?_
        rintro e w4 ⟨rfl, b4⟩
        have hS4 := hS3.below b4 (Nat.le_refl _)
        have HS4 := Lib.hid (H3.out w4 hS4)
        go_wp2_with fail
        refine (HS4.out).mono ?_
        rintro e w5 ⟨rfl, b5⟩
        go_wp2
        go_ret2
        rw [HR.out]
        exact ⟨rfl, below_trans b1 (below_trans b2 (below_trans b3 (below_trans b4 (b5))))⟩
    · have HR := Lib.hid (show C = (0, false) by rw [HC.out]; rfl)
      clear HC
      go_enter Tryd.func51, Tryd.ntmps51
      go_wp2_with fail
      refine (G1.out).mono ?_
      rintro e w1 ⟨rfl, b1⟩
      have hS1 := hS.below b1 (Nat.le_refl _)
      have HS1 := Lib.hid (G2.out w1 hS1)
      go_wp2_with fail
      refine (HS1.out).mono ?_
      rintro e w2 ⟨rfl, b2⟩
      have hS2 := hS1.below b2 (Nat.le_refl _)
      have HS2 := Lib.hid (H1.out w2 hS2)
      go_wp2
      go_ret2
      rw [HR.out]
      exact ⟨rfl, below_trans b1 (b2)⟩
  · have HR := Lib.hid (show C = (0, false) by rw [HC.out]; rfl)
    clear HC
    go_enter Tryd.func51, Tryd.ntmps51
    go_wp2_with fail
    refine (G1.out).mono ?_
    rintro e w1 ⟨rfl, b1⟩
    have hS1 := hS.below b1 (Nat.le_refl _)
    have HS1 := Lib.hid (G2.out w1 hS1)
    go_wp2
    go_ret2
    rw [HR.out]
    exact ⟨rfl, b1⟩
end Go.Proofs.YtmnabilgpndjmaaDoor

/- Printed by law4.py. -/
namespace Go.Proofs.YtmnabilgpndjmaaDoor
open Go.RowKit

theorem lcmp_0 (w0 : Int) (hw : 0 ≤ w0 ∧ w0 < 256) (hc : w0 % 4 = 0) (w : World) (hS : Shapes w) (x y : Int) (hx : 0 ≤ x ∧ x < 2 ^ 16) (hy : 0 ≤ y ∧ y < 2 ^ 16) :
    Calls Tryd.prog 15 #[.int .u8 w0, .int .u64 x, .int .u64 y] w (fun e w' => e = .returned (.tuple #[.int .i64 (cmpW 16 x y).1, .bool (cmpW 16 x y).2]) ∧ Below w.heap.size w w') := by
  have hc2 := tmod4 hw hc
  rw [show (2 : Int) ^ 16 = 65536 from by decide] at hx hy
  have H := Lib.hid (cmp_16 w hS x y hx hy)
  have Wx : IntKind.u16.wrap x = x := by rw [IntKind.wrap_u16]; omega
  have Wy : IntKind.u16.wrap y = y := by rw [IntKind.wrap_u16]; omega
  have Vx : x % 65536 = x := by omega
  have Vy : y % 65536 = y := by omega
  go_enter Tryd.func15, Tryd.ntmps15
  go_wp2_with fail
  refine (H.out).mono ?_
  rintro e w1 ⟨rfl, b1⟩
  go_wp2
  go_ret2
  exact ⟨rfl, b1⟩

theorem lcmp_1 (w0 : Int) (hw : 0 ≤ w0 ∧ w0 < 256) (hc : w0 % 4 = 1) (w : World) (hS : Shapes w) (x y : Int) (hx : 0 ≤ x ∧ x < 2 ^ 32) (hy : 0 ≤ y ∧ y < 2 ^ 32) :
    Calls Tryd.prog 15 #[.int .u8 w0, .int .u64 x, .int .u64 y] w (fun e w' => e = .returned (.tuple #[.int .i64 (cmpW 32 x y).1, .bool (cmpW 32 x y).2]) ∧ Below w.heap.size w w') := by
  have hc2 := tmod4 hw hc
  rw [show (2 : Int) ^ 32 = 4294967296 from by decide] at hx hy
  have H := Lib.hid (cmp_32 w hS x y hx hy)
  have Wx : IntKind.u32.wrap x = x := by rw [IntKind.wrap_u32]; omega
  have Wy : IntKind.u32.wrap y = y := by rw [IntKind.wrap_u32]; omega
  have Vx : x % 4294967296 = x := by omega
  have Vy : y % 4294967296 = y := by omega
  go_enter Tryd.func15, Tryd.ntmps15
  go_wp2_with fail
  refine (H.out).mono ?_
  rintro e w1 ⟨rfl, b1⟩
  go_wp2
  go_ret2
  exact ⟨rfl, b1⟩

theorem lcmp_2 (w0 : Int) (hw : 0 ≤ w0 ∧ w0 < 256) (hc : w0 % 4 = 2) (w : World) (hS : Shapes w) (x y : Int) (hx : 0 ≤ x ∧ x < 2 ^ 64) (hy : 0 ≤ y ∧ y < 2 ^ 64) :
    Calls Tryd.prog 15 #[.int .u8 w0, .int .u64 x, .int .u64 y] w (fun e w' => e = .returned (.tuple #[.int .i64 (cmpW 64 x y).1, .bool (cmpW 64 x y).2]) ∧ Below w.heap.size w w') := by
  have hc2 := tmod4 hw hc
  rw [show (2 : Int) ^ 64 = 18446744073709551616 from by decide] at hx hy
  have H := Lib.hid (cmp_64 w hS x y hx hy)
  go_enter Tryd.func15, Tryd.ntmps15
  go_wp2_with fail
  refine (H.out).mono ?_
  rintro e w1 ⟨rfl, b1⟩
  go_wp2
  go_ret2
  exact ⟨rfl, b1⟩

theorem lcmp_3 (w0 : Int) (hw : 0 ≤ w0 ∧ w0 < 256) (hc : w0 % 4 = 3) (w : World) (hS : Shapes w) (x y : Int) (hx : 0 ≤ x ∧ x < 2 ^ 32) (hy : 0 ≤ y ∧ y < 2 ^ 32) :
    Calls Tryd.prog 15 #[.int .u8 w0, .int .u64 x, .int .u64 y] w (fun e w' => e = .returned (.tuple #[.int .i64 (cmpW 32 x y).1, .bool (cmpW 32 x y).2]) ∧ Below w.heap.size w w') := by
  have hc2 := tmod4 hw hc
  rw [show (2 : Int) ^ 32 = 4294967296 from by decide] at hx hy
  have H := Lib.hid (cmp_Own w hS x y hx hy)
  have Wx : IntKind.u32.wrap x = x := by rw [IntKind.wrap_u32]; omega
  have Wy : IntKind.u32.wrap y = y := by rw [IntKind.wrap_u32]; omega
  have Vx : x % 4294967296 = x := by omega
  have Vy : y % 4294967296 = y := by omega
  go_enter Tryd.func15, Tryd.ntmps15
  go_wp2_with fail
  refine (H.out).mono ?_
  rintro e w1 ⟨rfl, b1⟩
  go_wp2
  go_ret2
  exact ⟨rfl, b1⟩

theorem lcmp_calls (w0 : Int) (hw : 0 ≤ w0 ∧ w0 < 256) (w : World) (hS : Shapes w) (x y : Int) (hx : 0 ≤ x ∧ x < 2 ^ wd w0) (hy : 0 ≤ y ∧ y < 2 ^ wd w0) :
    Calls Tryd.prog 15 #[.int .u8 w0, .int .u64 x, .int .u64 y] w (fun e w' => e = .returned (.tuple #[.int .i64 (cmpW (wd w0) x y).1, .bool (cmpW (wd w0) x y).2]) ∧ Below w.heap.size w w') := by
  rcases (show w0 % 4 = 0 ∨ w0 % 4 = 1 ∨ w0 % 4 = 2 ∨ w0 % 4 = 3 by omega) with hc | hc | hc | hc
  · simp only [wd_0 hc] at *
    exact lcmp_0 w0 hw hc w hS x y hx hy
  · simp only [wd_1 hc] at *
    exact lcmp_1 w0 hw hc w hS x y hx hy
  · simp only [wd_2 hc] at *
    exact lcmp_2 w0 hw hc w hS x y hx hy
  · simp only [wd_3 hc] at *
    exact lcmp_3 w0 hw hc w hS x y hx hy

theorem ltotal_0 (w0 : Int) (hw : 0 ≤ w0 ∧ w0 < 256) (hc : w0 % 4 = 0) (w : World) (hS : Shapes w) (x y : Int) (hx : 0 ≤ x ∧ x < 2 ^ 16) (hy : 0 ≤ y ∧ y < 2 ^ 16) :
    Calls Tryd.prog 18 #[.int .u8 w0, .int .u64 x, .int .u64 y] w (fun e w' => e = .returned (.int .i64 (totalW 16 x y)) ∧ Below w.heap.size w w') := by
  have hc2 := tmod4 hw hc
  rw [show (2 : Int) ^ 16 = 65536 from by decide] at hx hy
  have H := Lib.hid (total_16 w hS x y hx hy)
  have Wx : IntKind.u16.wrap x = x := by rw [IntKind.wrap_u16]; omega
  have Wy : IntKind.u16.wrap y = y := by rw [IntKind.wrap_u16]; omega
  have Vx : x % 65536 = x := by omega
  have Vy : y % 65536 = y := by omega
  go_enter Tryd.func18, Tryd.ntmps18
  go_wp2_with fail
  refine (H.out).mono ?_
  rintro e w1 ⟨rfl, b1⟩
  go_wp2
  go_ret
  exact ⟨rfl, b1⟩

theorem ltotal_1 (w0 : Int) (hw : 0 ≤ w0 ∧ w0 < 256) (hc : w0 % 4 = 1) (w : World) (hS : Shapes w) (x y : Int) (hx : 0 ≤ x ∧ x < 2 ^ 32) (hy : 0 ≤ y ∧ y < 2 ^ 32) :
    Calls Tryd.prog 18 #[.int .u8 w0, .int .u64 x, .int .u64 y] w (fun e w' => e = .returned (.int .i64 (totalW 32 x y)) ∧ Below w.heap.size w w') := by
  have hc2 := tmod4 hw hc
  rw [show (2 : Int) ^ 32 = 4294967296 from by decide] at hx hy
  have H := Lib.hid (total_32 w hS x y hx hy)
  have Wx : IntKind.u32.wrap x = x := by rw [IntKind.wrap_u32]; omega
  have Wy : IntKind.u32.wrap y = y := by rw [IntKind.wrap_u32]; omega
  have Vx : x % 4294967296 = x := by omega
  have Vy : y % 4294967296 = y := by omega
  go_enter Tryd.func18, Tryd.ntmps18
  go_wp2_with fail
  refine (H.out).mono ?_
  rintro e w1 ⟨rfl, b1⟩
  go_wp2
  go_ret
  exact ⟨rfl, b1⟩

theorem ltotal_2 (w0 : Int) (hw : 0 ≤ w0 ∧ w0 < 256) (hc : w0 % 4 = 2) (w : World) (hS : Shapes w) (x y : Int) (hx : 0 ≤ x ∧ x < 2 ^ 64) (hy : 0 ≤ y ∧ y < 2 ^ 64) :
    Calls Tryd.prog 18 #[.int .u8 w0, .int .u64 x, .int .u64 y] w (fun e w' => e = .returned (.int .i64 (totalW 64 x y)) ∧ Below w.heap.size w w') := by
  have hc2 := tmod4 hw hc
  rw [show (2 : Int) ^ 64 = 18446744073709551616 from by decide] at hx hy
  have H := Lib.hid (total_64 w hS x y hx hy)
  go_enter Tryd.func18, Tryd.ntmps18
  go_wp2_with fail
  refine (H.out).mono ?_
  rintro e w1 ⟨rfl, b1⟩
  go_wp2
  go_ret
  exact ⟨rfl, b1⟩

theorem ltotal_3 (w0 : Int) (hw : 0 ≤ w0 ∧ w0 < 256) (hc : w0 % 4 = 3) (w : World) (hS : Shapes w) (x y : Int) (hx : 0 ≤ x ∧ x < 2 ^ 32) (hy : 0 ≤ y ∧ y < 2 ^ 32) :
    Calls Tryd.prog 18 #[.int .u8 w0, .int .u64 x, .int .u64 y] w (fun e w' => e = .returned (.int .i64 (totalW 32 x y)) ∧ Below w.heap.size w w') := by
  have hc2 := tmod4 hw hc
  rw [show (2 : Int) ^ 32 = 4294967296 from by decide] at hx hy
  have H := Lib.hid (total_Own w hS x y hx hy)
  have Wx : IntKind.u32.wrap x = x := by rw [IntKind.wrap_u32]; omega
  have Wy : IntKind.u32.wrap y = y := by rw [IntKind.wrap_u32]; omega
  have Vx : x % 4294967296 = x := by omega
  have Vy : y % 4294967296 = y := by omega
  go_enter Tryd.func18, Tryd.ntmps18
  go_wp2_with fail
  refine (H.out).mono ?_
  rintro e w1 ⟨rfl, b1⟩
  go_wp2
  go_ret
  exact ⟨rfl, b1⟩

theorem ltotal_calls (w0 : Int) (hw : 0 ≤ w0 ∧ w0 < 256) (w : World) (hS : Shapes w) (x y : Int) (hx : 0 ≤ x ∧ x < 2 ^ wd w0) (hy : 0 ≤ y ∧ y < 2 ^ wd w0) :
    Calls Tryd.prog 18 #[.int .u8 w0, .int .u64 x, .int .u64 y] w (fun e w' => e = .returned (.int .i64 (totalW (wd w0) x y)) ∧ Below w.heap.size w w') := by
  rcases (show w0 % 4 = 0 ∨ w0 % 4 = 1 ∨ w0 % 4 = 2 ∨ w0 % 4 = 3 by omega) with hc | hc | hc | hc
  · simp only [wd_0 hc] at *
    exact ltotal_0 w0 hw hc w hS x y hx hy
  · simp only [wd_1 hc] at *
    exact ltotal_1 w0 hw hc w hS x y hx hy
  · simp only [wd_2 hc] at *
    exact ltotal_2 w0 hw hc w hS x y hx hy
  · simp only [wd_3 hc] at *
    exact ltotal_3 w0 hw hc w hS x y hx hy

theorem next_bd {W : Nat} (hW : Wide W) (x : Int) (hx : 0 ≤ x ∧ x < 2 ^ W) : 0 ≤ nextW W x ∧ nextW W x < 2 ^ W := by
  have e : (2 : Int) ^ W = sgnW W + sgnW W ∧ 0 < sgnW W ∧ 1 < infW W ∧ infW W < sgnW W := by rcases hW with rfl | rfl | rfl <;> decide
  by_cases h : infW W < sizeW W x ∨ x = infW W
  · unfold nextW; rw [if_pos h]; exact hx
  · exact (next_rank hW x hx h).1

theorem lnext_0 (w0 : Int) (hw : 0 ≤ w0 ∧ w0 < 256) (hc : w0 % 4 = 0) (w : World) (hS : Shapes w) (x : Int) (hx : 0 ≤ x ∧ x < 2 ^ 16) :
    Calls Tryd.prog 20 #[.int .u8 w0, .int .u64 x] w (fun e w' => e = .returned (.int .u64 (nextW 16 x)) ∧ Below w.heap.size w w') := by
  have hc2 := tmod4 hw hc
  have hN := next_bd (W := 16) (by unfold Wide; omega) x hx
  rw [show (2 : Int) ^ 16 = 65536 from by decide] at hx hN
  have H := Lib.hid (next_16 w hS x hx)
  generalize nextW 16 x = N at *
  have Wx : IntKind.u16.wrap x = x := by rw [IntKind.wrap_u16]; omega
  have Vx : x % 65536 = x := by omega
  have WN : IntKind.u64.wrap N = N := by rw [IntKind.wrap_u64]; omega
  have VN : N % 18446744073709551616 = N := by omega
  go_enter Tryd.func20, Tryd.ntmps20
  go_wp2_with fail
  refine (H.out).mono ?_
  rintro e w1 ⟨rfl, b1⟩
  go_wp2
  go_ret
  exact ⟨rfl, b1⟩

theorem lnext_1 (w0 : Int) (hw : 0 ≤ w0 ∧ w0 < 256) (hc : w0 % 4 = 1) (w : World) (hS : Shapes w) (x : Int) (hx : 0 ≤ x ∧ x < 2 ^ 32) :
    Calls Tryd.prog 20 #[.int .u8 w0, .int .u64 x] w (fun e w' => e = .returned (.int .u64 (nextW 32 x)) ∧ Below w.heap.size w w') := by
  have hc2 := tmod4 hw hc
  have hN := next_bd (W := 32) (by unfold Wide; omega) x hx
  rw [show (2 : Int) ^ 32 = 4294967296 from by decide] at hx hN
  have H := Lib.hid (next_32 w hS x hx)
  generalize nextW 32 x = N at *
  have Wx : IntKind.u32.wrap x = x := by rw [IntKind.wrap_u32]; omega
  have Vx : x % 4294967296 = x := by omega
  have WN : IntKind.u64.wrap N = N := by rw [IntKind.wrap_u64]; omega
  have VN : N % 18446744073709551616 = N := by omega
  go_enter Tryd.func20, Tryd.ntmps20
  go_wp2_with fail
  refine (H.out).mono ?_
  rintro e w1 ⟨rfl, b1⟩
  go_wp2
  go_ret
  exact ⟨rfl, b1⟩

theorem lnext_2 (w0 : Int) (hw : 0 ≤ w0 ∧ w0 < 256) (hc : w0 % 4 = 2) (w : World) (hS : Shapes w) (x : Int) (hx : 0 ≤ x ∧ x < 2 ^ 64) :
    Calls Tryd.prog 20 #[.int .u8 w0, .int .u64 x] w (fun e w' => e = .returned (.int .u64 (nextW 64 x)) ∧ Below w.heap.size w w') := by
  have hc2 := tmod4 hw hc
  have hN := next_bd (W := 64) (by unfold Wide; omega) x hx
  rw [show (2 : Int) ^ 64 = 18446744073709551616 from by decide] at hx hN
  have H := Lib.hid (next_64 w hS x hx)
  generalize nextW 64 x = N at *
  go_enter Tryd.func20, Tryd.ntmps20
  go_wp2_with fail
  refine (H.out).mono ?_
  rintro e w1 ⟨rfl, b1⟩
  go_wp2
  go_ret
  exact ⟨rfl, b1⟩

theorem lnext_3 (w0 : Int) (hw : 0 ≤ w0 ∧ w0 < 256) (hc : w0 % 4 = 3) (w : World) (hS : Shapes w) (x : Int) (hx : 0 ≤ x ∧ x < 2 ^ 32) :
    Calls Tryd.prog 20 #[.int .u8 w0, .int .u64 x] w (fun e w' => e = .returned (.int .u64 (nextW 32 x)) ∧ Below w.heap.size w w') := by
  have hc2 := tmod4 hw hc
  have hN := next_bd (W := 32) (by unfold Wide; omega) x hx
  rw [show (2 : Int) ^ 32 = 4294967296 from by decide] at hx hN
  have H := Lib.hid (next_Own w hS x hx)
  generalize nextW 32 x = N at *
  have Wx : IntKind.u32.wrap x = x := by rw [IntKind.wrap_u32]; omega
  have Vx : x % 4294967296 = x := by omega
  have WN : IntKind.u64.wrap N = N := by rw [IntKind.wrap_u64]; omega
  have VN : N % 18446744073709551616 = N := by omega
  go_enter Tryd.func20, Tryd.ntmps20
  go_wp2_with fail
  refine (H.out).mono ?_
  rintro e w1 ⟨rfl, b1⟩
  go_wp2
  go_ret
  exact ⟨rfl, b1⟩

theorem lnext_calls (w0 : Int) (hw : 0 ≤ w0 ∧ w0 < 256) (w : World) (hS : Shapes w) (x : Int) (hx : 0 ≤ x ∧ x < 2 ^ wd w0) :
    Calls Tryd.prog 20 #[.int .u8 w0, .int .u64 x] w (fun e w' => e = .returned (.int .u64 (nextW (wd w0) x)) ∧ Below w.heap.size w w') := by
  rcases (show w0 % 4 = 0 ∨ w0 % 4 = 1 ∨ w0 % 4 = 2 ∨ w0 % 4 = 3 by omega) with hc | hc | hc | hc
  · simp only [wd_0 hc] at *
    exact lnext_0 w0 hw hc w hS x hx
  · simp only [wd_1 hc] at *
    exact lnext_1 w0 hw hc w hS x hx
  · simp only [wd_2 hc] at *
    exact lnext_2 w0 hw hc w hS x hx
  · simp only [wd_3 hc] at *
    exact lnext_3 w0 hw hc w hS x hx
end Go.Proofs.YtmnabilgpndjmaaDoor
