/- Printed by ieee.py. -/
import Derived.Test.YtmnabilgpndjmaaDoorShape
import Derived.Laws.Bits64b
import Derived.WalkKit
set_option linter.unusedVariables false
set_option linter.unusedSimpArgs false
namespace Go.Proofs.YtmnabilgpndjmaaDoor
open Go.RowKit

theorem and_two_pow_nat (x k : Nat) (hx : x < 2 ^ (k + 1)) : x &&& 2 ^ k = if 2 ^ k ≤ x then 2 ^ k else 0 := by
  apply Nat.eq_of_testBit_eq
  intro i
  rw [Nat.testBit_and, Nat.testBit_two_pow]
  by_cases h : k = i
  · subst h
    by_cases h2 : 2 ^ k ≤ x
    · rw [if_pos h2, Nat.testBit_two_pow_self]
      have : x.testBit k = true := by
        rw [Nat.testBit_eq_decide_div_mod_eq]
        rw [Nat.pow_succ] at hx
        have h3 : x / 2 ^ k = 1 := by
          apply Nat.div_eq_of_lt_le <;> omega
        rw [h3]
        rfl
      simp [this]
    · rw [if_neg h2, Nat.testBit_lt_two_pow (by omega)]
      simp
  · have h3 : decide (k = i) = false := by simp [h]
    rw [h3, Bool.and_false]
    split
    · rw [Nat.testBit_two_pow, h3]
    · simp

theorem andNot_two_pow_nat (x k : Nat) (hk : k < 64) (hx : x < 2 ^ (k + 1)) : x &&& (2 ^ 64 - (2 ^ k + 1)) = x % 2 ^ k := by
  apply Nat.eq_of_testBit_eq
  intro i
  have h1 : 2 ^ k < 2 ^ 64 := Nat.pow_lt_pow_right (by omega) hk
  rw [Nat.testBit_and, Nat.testBit_two_pow_sub_succ h1, Nat.testBit_mod_two_pow, Nat.testBit_two_pow]
  by_cases hik : i < k
  · have h2 : i < 64 := by omega
    have h3 : ¬ k = i := by omega
    simp [hik, h2, h3]
  · by_cases he : k = i
    · subst he
      simp
    · rw [Nat.testBit_lt_two_pow (Nat.lt_of_lt_of_le hx (Nat.pow_le_pow_right (by omega) (by omega)))]
      simp

theorem bits_andNot_u64_nat (a b : Nat) (ha : a < 18446744073709551616) (hb : b < 18446744073709551616) : bits .andNot .u64 (a : Int) (b : Int) = ((a &&& (2 ^ 64 - (b + 1)) : Nat) : Int) := by
  have h1 : (BitVec.ofInt 64 (a : Int)).toNat = a := by
    rw [BitVec.ofInt_natCast, BitVec.toNat_ofNat]; exact Nat.mod_eq_of_lt (by omega)
  have h2 : (BitVec.ofInt 64 (b : Int)).toNat = b := by
    rw [BitVec.ofInt_natCast, BitVec.toNat_ofNat]; exact Nat.mod_eq_of_lt (by omega)
  have hx : a &&& (2 ^ 64 - (b + 1)) < 2 ^ 64 := Nat.lt_of_le_of_lt Nat.and_le_left (by omega)
  show IntKind.u64.wrap ((BitVec.ofInt 64 (a : Int) &&& ~~~ BitVec.ofInt 64 (b : Int)).toNat : Int) = _
  rw [BitVec.toNat_and, BitVec.toNat_not, h1, h2, show 2 ^ 64 - 1 - b = 2 ^ 64 - (b + 1) by omega, IntKind.wrap_u64]
  omega

theorem and_sign_16 (x : Int) (hx : 0 ≤ x ∧ x < 65536) : (bits .and .u64 x 32768 != 0) = negW 16 x := by
  obtain ⟨x, rfl⟩ := Int.eq_ofNat_of_zero_le hx.1
  have e : bits .and .u64 (x : Int) ((32768 : Nat) : Int) = ((x &&& 32768 : Nat) : Int) := Go.bits_and_u64_nat x _ (by omega) (by omega)
  have h := and_two_pow_nat x 15 (by omega)
  rw [show (2 : Nat) ^ 15 = 32768 from by decide] at h
  rw [show ((32768 : Nat) : Int) = 32768 from rfl, h] at e
  unfold negW
  rw [sgn16, e, Bool.eq_iff_iff]
  simp only [bne_iff_ne, ne_eq, decide_eq_true_eq]
  split <;> omega
theorem andNot_sign_16 (x : Int) (hx : 0 ≤ x ∧ x < 65536) : bits .andNot .u64 x 32768 = sizeW 16 x := by
  obtain ⟨x, rfl⟩ := Int.eq_ofNat_of_zero_le hx.1
  have e : bits .andNot .u64 (x : Int) ((32768 : Nat) : Int) = _ := bits_andNot_u64_nat x _ (by omega) (by omega)
  have h := andNot_two_pow_nat x 15 (by omega) (by omega)
  rw [show (2 : Nat) ^ 15 = 32768 from by decide] at h
  rw [show ((32768 : Nat) : Int) = 32768 from rfl, h] at e
  unfold sizeW
  rw [sgn16, e]
  split <;> omega

theorem and_sign_32 (x : Int) (hx : 0 ≤ x ∧ x < 4294967296) : (bits .and .u64 x 2147483648 != 0) = negW 32 x := by
  obtain ⟨x, rfl⟩ := Int.eq_ofNat_of_zero_le hx.1
  have e : bits .and .u64 (x : Int) ((2147483648 : Nat) : Int) = ((x &&& 2147483648 : Nat) : Int) := Go.bits_and_u64_nat x _ (by omega) (by omega)
  have h := and_two_pow_nat x 31 (by omega)
  rw [show (2 : Nat) ^ 31 = 2147483648 from by decide] at h
  rw [show ((2147483648 : Nat) : Int) = 2147483648 from rfl, h] at e
  unfold negW
  rw [sgn32, e, Bool.eq_iff_iff]
  simp only [bne_iff_ne, ne_eq, decide_eq_true_eq]
  split <;> omega
theorem andNot_sign_32 (x : Int) (hx : 0 ≤ x ∧ x < 4294967296) : bits .andNot .u64 x 2147483648 = sizeW 32 x := by
  obtain ⟨x, rfl⟩ := Int.eq_ofNat_of_zero_le hx.1
  have e : bits .andNot .u64 (x : Int) ((2147483648 : Nat) : Int) = _ := bits_andNot_u64_nat x _ (by omega) (by omega)
  have h := andNot_two_pow_nat x 31 (by omega) (by omega)
  rw [show (2 : Nat) ^ 31 = 2147483648 from by decide] at h
  rw [show ((2147483648 : Nat) : Int) = 2147483648 from rfl, h] at e
  unfold sizeW
  rw [sgn32, e]
  split <;> omega

theorem and_sign_64 (x : Int) (hx : 0 ≤ x ∧ x < 18446744073709551616) : (bits .and .u64 x 9223372036854775808 != 0) = negW 64 x := by
  obtain ⟨x, rfl⟩ := Int.eq_ofNat_of_zero_le hx.1
  have e : bits .and .u64 (x : Int) ((9223372036854775808 : Nat) : Int) = ((x &&& 9223372036854775808 : Nat) : Int) := Go.bits_and_u64_nat x _ (by omega) (by omega)
  have h := and_two_pow_nat x 63 (by omega)
  rw [show (2 : Nat) ^ 63 = 9223372036854775808 from by decide] at h
  rw [show ((9223372036854775808 : Nat) : Int) = 9223372036854775808 from rfl, h] at e
  unfold negW
  rw [sgn64, e, Bool.eq_iff_iff]
  simp only [bne_iff_ne, ne_eq, decide_eq_true_eq]
  split <;> omega
theorem andNot_sign_64 (x : Int) (hx : 0 ≤ x ∧ x < 18446744073709551616) : bits .andNot .u64 x 9223372036854775808 = sizeW 64 x := by
  obtain ⟨x, rfl⟩ := Int.eq_ofNat_of_zero_le hx.1
  have e : bits .andNot .u64 (x : Int) ((9223372036854775808 : Nat) : Int) = _ := bits_andNot_u64_nat x _ (by omega) (by omega)
  have h := andNot_two_pow_nat x 63 (by omega) (by omega)
  rw [show (2 : Nat) ^ 63 = 9223372036854775808 from by decide] at h
  rw [show ((9223372036854775808 : Nat) : Int) = 9223372036854775808 from rfl, h] at e
  unfold sizeW
  rw [sgn64, e]
  split <;> omega
end Go.Proofs.YtmnabilgpndjmaaDoor
