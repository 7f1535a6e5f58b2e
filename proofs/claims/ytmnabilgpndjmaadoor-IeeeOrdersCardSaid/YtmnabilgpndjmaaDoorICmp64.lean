/- Printed by ieee2.py. -/
import Derived.Test.YtmnabilgpndjmaaDoorClass64
import Derived.Test.YtmnabilgpndjmaaDoorTotal64
import Derived.Test.YtmnabilgpndjmaaDoorR4d
import Derived.Laws.Bits64b
set_option linter.unusedVariables false
set_option linter.unusedSimpArgs false
namespace Go.Proofs.YtmnabilgpndjmaaDoor
open Go.RowKit

theorem or_zero_64 (a b : Int) (ha : 0 ≤ a ∧ a < 18446744073709551616) (hb : 0 ≤ b ∧ b < 18446744073709551616) : (bits .or .u64 a b == 0) = decide (a = 0 ∧ b = 0) := by
  obtain ⟨a, rfl⟩ := Int.eq_ofNat_of_zero_le ha.1
  obtain ⟨b, rfl⟩ := Int.eq_ofNat_of_zero_le hb.1
  rw [bits_or_u64_nat a b (by omega) (by omega), Bool.eq_iff_iff]
  simp only [beq_iff_eq, decide_eq_true_eq]
  have h1 : a ≤ a ||| b := Nat.left_le_or
  have h2 : b ≤ a ||| b := Nat.right_le_or
  constructor
  · intro h
    omega
  · rintro ⟨h3, h4⟩
    have h5 : a = 0 := by omega
    have h6 : b = 0 := by omega
    subst h5 h6
    rfl

theorem cmp_64 (w : World) (hS : Shapes w) (x y : Int) (hx : 0 ≤ x ∧ x < 18446744073709551616) (hy : 0 ≤ y ∧ y < 18446744073709551616) : Calls Tryd.prog 50 #[.int .u64 x, .int .u64 y] w (fun e w' => e = .returned (.tuple #[.int .i64 (cmpW 64 x y).1, .bool (cmpW 64 x y).2]) ∧ Below w.heap.size w w') := by
  have hz1 := size_bounds (W := 64) (by unfold Wide; omega) x ⟨hx.1, hx.2⟩
  have hz2 := size_bounds (W := 64) (by unfold Wide; omega) y ⟨hy.1, hy.2⟩
  rw [sgn64] at hz1 hz2
  have HC := Lib.hid (show cmpW 64 x y = if isNaN 64 x || isNaN 64 y then (0, false) else if sizeW 64 x = 0 ∧ sizeW 64 y = 0 then (0, true) else (totalW 64 x y, true) from rfl)
  have G1 := Lib.hid (class_64 w hS x hx)
  have G2 := Lib.hid (fun (w : World) (hS : Shapes w) => class_64 w hS y hy)
  have H1 := Lib.hid (fun (w : World) (hS : Shapes w) => split_64 w hS x hx)
  have H2 := Lib.hid (fun (w : World) (hS : Shapes w) => split_64 w hS y hy)
  have H3 := Lib.hid (fun (w : World) (hS : Shapes w) => total_64 w hS x y hx hy)
  have nx := nan_cls 64 x
  have ny := nan_cls 64 y
  have HO := or_zero_64 (sizeW 64 x) (sizeW 64 y) (by omega) (by omega)
  clear hz1 hz2
  generalize cmpW 64 x y = C at *
  generalize totalW 64 x y = TT at *
  generalize clsW 64 x = cx at *
  generalize clsW 64 y = cy at *
  generalize isNaN 64 x = i1 at *
  generalize isNaN 64 y = i2 at *
  generalize negW 64 x = n1 at *
  generalize negW 64 y = n2 at *
  generalize sizeW 64 x = s1 at *
  generalize sizeW 64 y = s2 at *
  cases i1
  · cases i2
    · by_cases hz : s1 = 0 ∧ s2 = 0
      · have HR := Lib.hid (show C = (0, true) by rw [HC.out, if_neg (by decide), if_pos hz])
        rw [decide_eq_true hz] at HO
        clear HC hz
        go_enter Tryd.func50, Tryd.ntmps50
        go_wp2_with fail
        refine (G1.out).mono ?_
        rintro e w1 ⟨rfl, b1⟩
        have hS1 := hS.below b1 (Nat.le_refl _)
        have HS1 := Lib.hid (G2.out w1 hS1)
        go_wp2_with fail
        refine (HS1.out).mono ?_
        rintro e w2 ⟨rfl, b2⟩
        have hS2 := hS1.below b2 (Nat.le_refl _)
        have HS2 := Lib.hid (H1.out w2 hS2)
        go_wp2_with fail
        refine (HS2.out).mono ?_
        rintro e w3 ⟨rfl, b3⟩
        have hS3 := hS2.below b3 (Nat.le_refl _)
        have HS3 := Lib.hid (H2.out w3 hS3)
        go_wp2_with fail
        refine (HS3.out).mono ?_
        rintro e w4 ⟨rfl, b4⟩
        have hS4 := hS3.below b4 (Nat.le_refl _)
        have HS4 := Lib.hid (H3.out w4 hS4)
        go_wp2
        go_ret2
        rw [HR.out]
        exact ⟨rfl, below_trans b1 (below_trans b2 (below_trans b3 (b4)))⟩
      · have HR := Lib.hid (show C = (TT, true) by rw [HC.out, if_neg (by decide), if_neg hz])
        rw [decide_eq_false hz] at HO
        clear HC hz
        go_enter Tryd.func50, Tryd.ntmps50
        go_wp2_with fail
        refine (G1.out).mono ?_
        rintro e w1 ⟨rfl, b1⟩
        have hS1 := hS.below b1 (Nat.le_refl _)
        have HS1 := Lib.hid (G2.out w1 hS1)
        go_wp2_with fail
        refine (HS1.out).mono ?_
        rintro e w2 ⟨rfl, b2⟩
        have hS2 := hS1.below b2 (Nat.le_refl _)
        have HS2 := Lib.hid (H1.out w2 hS2)
        go_wp2_with fail
        refine (HS2.out).mono ?_
        rintro e w3 ⟨rfl, b3⟩
        have hS3 := hS2.below b3 (Nat.le_refl _)
        have HS3 := Lib.hid (H2.out w3 hS3)
        go_wp2_with fail
        refine (HS3.out).mono ?_
        rintro e w4 ⟨rfl, b4⟩
        have hS4 := hS3.below b4 (Nat.le_refl _)
        have HS4 := Lib.hid (H3.out w4 hS4)
        go_wp2_with fail
        refine (HS4.out).mono ?_
        rintro e w5 ⟨rfl, b5⟩
        go_wp2
        go_ret2
        rw [HR.out]
        exact ⟨rfl, below_trans b1 (below_trans b2 (below_trans b3 (below_trans b4 (b5))))⟩
    · have HR := Lib.hid (show C = (0, false) by rw [HC.out]; rfl)
      clear HC
      go_enter Tryd.func50, Tryd.ntmps50
      go_wp2_with fail
      refine (G1.out).mono ?_
      rintro e w1 ⟨rfl, b1⟩
      have hS1 := hS.below b1 (Nat.le_refl _)
      have HS1 := Lib.hid (G2.out w1 hS1)
      go_wp2_with fail
      refine (HS1.out).mono ?_
      rintro e w2 ⟨rfl, b2⟩
      have hS2 := hS1.below b2 (Nat.le_refl _)
      have HS2 := Lib.hid (H1.out w2 hS2)
      go_wp2
      go_ret2
      rw [HR.out]
      exact ⟨rfl, below_trans b1 (b2)⟩
  · have HR := Lib.hid (show C = (0, false) by rw [HC.out]; rfl)
    clear HC
    go_enter Tryd.func50, Tryd.ntmps50
    go_wp2_with fail
    refine (G1.out).mono ?_
    rintro e w1 ⟨rfl, b1⟩
    have hS1 := hS.below b1 (Nat.le_refl _)
    have HS1 := Lib.hid (G2.out w1 hS1)
    go_wp2
    go_ret2
    rw [HR.out]
    exact ⟨rfl, b1⟩
end Go.Proofs.YtmnabilgpndjmaaDoor
