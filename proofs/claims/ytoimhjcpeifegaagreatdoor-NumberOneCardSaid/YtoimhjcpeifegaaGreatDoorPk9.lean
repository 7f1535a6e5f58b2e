/- Contracts of functions, and plain facts, part 9. -/
import Derived.Laws.Bits64b
import Derived.WalkKit
import Derived.Deep.RegionHeld3
import Derived.Test.YtoimhjcpeifegaaGreatDoorPk5
import Derived.Test.YtoimhjcpeifegaaGreatDoorPk7
import Derived.Test.YtoimhjcpeifegaaGreatDoorPk8
set_option linter.unusedVariables false
set_option linter.unusedSimpArgs false
/- The nearest pattern as a function, and what the ways of finding it find: plain facts. -/
namespace Go.Proofs.YtoimhjcpeifegaaGreatDoor

theorem numN_zero (F : Nat) : numN F 0 = 0 := by
  unfold numN
  rw [if_pos (Nat.two_pow_pos F)]

theorem low_exists (F U X : Nat) : ∀ I, ∃ low, low ≤ I ∧ numN F low * U ≤ X ∧ (low < I → X < numN F (low + 1) * U)
  | 0 => ⟨0, Nat.le_refl _, by rw [numN_zero]; omega, fun h => absurd h (Nat.lt_irrefl _)⟩
  | I + 1 => by
    obtain ⟨low, h1, h2, h3⟩ := low_exists F U X I
    by_cases h : low < I
    · exact ⟨low, by omega, h2, fun _ => h3 h⟩
    · obtain rfl : low = I := by omega
      by_cases h4 : numN F (low + 1) * U ≤ X
      · exact ⟨low + 1, Nat.le_refl _, h4, fun h => absurd h (Nat.lt_irrefl _)⟩
      · exact ⟨low, by omega, h2, fun _ => by omega⟩

theorem nearest_exists (F I U X : Nat) : ∃ r, Nearest F I U X r := by
  obtain ⟨low, h1, h2, h3⟩ := low_exists F U X I
  exact ⟨_, low, h1, h2, h3, rfl⟩

/-- The size of the nearest pattern. -/
noncomputable def nearN (F I U X : Nat) : Nat := Classical.choose (nearest_exists F I U X)
theorem nearN_spec (F I U X : Nat) : Nearest F I U X (nearN F I U X) := Classical.choose_spec (nearest_exists F I U X)
theorem nearN_eq {F I U X r : Nat} (h : Nearest F I U X r) : nearN F I U X = r := (nearN_spec F I U X).unique h
theorem Nearest.le {F I U X r : Nat} (h : Nearest F I U X r) : r ≤ I := by
  obtain ⟨low, h1, h2, h3, rfl⟩ := h
  split
  · omega
  · split <;> omega

/-- M 2^e in least steps (of 2^L), or in parts of one. -/
def rU (L e : Int) : Nat := 2 ^ (L - e).toNat
def rX (L e : Int) (M : Nat) : Nat := M * 2 ^ (e - L).toNat
def rM (V : Int) (more : Bool) : Nat := if more then 2 * V.toNat + 1 else V.toNat
def rE (e : Int) (more : Bool) : Int := if more then e - 1 else e
def infN (W : Nat) : Nat := (2 ^ shE W - 1) * 2 ^ shF W
/-- The power of 2 that the infinite pattern would be, in least steps. -/
def topP (W : Nat) : Nat := shF W + 2 ^ shE W - 2
noncomputable def nearE (W : Nat) (M : Nat) (e : Int) : Nat := nearN (shF W) (infN W) (rU (shL W) e) (rX (shL W) e M)
/-- What Round answers. -/
noncomputable def roundW (W : Nat) (neg : Bool) (V e : Int) (more : Bool) : Int := (if neg then sgnW W else 0) + nearE W (rM V more) (rE e more)

theorem infW_eq {W : Nat} (hW : Wide W) : infW W = infN W := by rcases hW with rfl | rfl | rfl <;> decide
theorem nearE_le (W M : Nat) (e : Int) : nearE W M e ≤ infN W := (nearN_spec _ _ _ _).le
theorem infN_lt {W : Nat} (hW : Wide W) : (infN W : Int) < sgnW W := by rcases hW with rfl | rfl | rfl <;> decide

theorem rU_pos (L e : Int) : 0 < rU L e := Nat.two_pow_pos _

theorem numN_inf {W : Nat} (hW : Wide W) : numN (shF W) (infN W) = 2 ^ topP W := by
  have h : ∀ F E, 2 ≤ 2 ^ E → numN F ((2 ^ E - 1) * 2 ^ F) = 2 ^ (F + 2 ^ E - 2) := by
    intro F E hE
    have h := numN_at F (2 ^ E - 2) (2 ^ F) (.inr (Nat.le_refl _)) (by rw [Nat.pow_succ]; omega)
    rw [show (2 ^ E - 2) * 2 ^ F + 2 ^ F = (2 ^ E - 1) * 2 ^ F by rw [← Nat.succ_mul]; congr 1; omega] at h
    rw [h, ← Nat.pow_add]
    congr 1
    omega
  exact h _ _ (by rcases hW with rfl | rfl | rfl <;> decide)

theorem nearE_inf {W : Nat} (hW : Wide W) (M b : Nat) (e : Int) (hb : 2 ^ b ≤ M) (h : (topP W : Int) ≤ b + e - shL W) : nearE W M e = infN W := by
  refine nearN_eq (nearest_inf _ _ _ _ ?_)
  rw [numN_inf hW]
  unfold rU rX
  rw [← Nat.pow_add]
  refine Nat.le_trans ?_ (Nat.mul_le_mul_right _ hb)
  rw [← Nat.pow_add]
  exact Nat.pow_le_pow_right (by omega) (by omega)

theorem infN_pos {W : Nat} (hW : Wide W) : 0 < infN W := by rcases hW with rfl | rfl | rfl <;> decide

theorem nearE_small {W : Nat} (hW : Wide W) (M b : Nat) (e : Int) (hb : M < 2 ^ b) (h : (b : Int) + e + 1 ≤ shL W) : nearE W M e = 0 := by
  refine nearN_eq (nearest_zero _ _ _ _ (infN_pos hW) ?_)
  unfold rU rX
  rw [show (e - shL W).toNat = 0 by omega, Nat.pow_zero, Nat.mul_one]
  have h2 : 2 ^ (b + 1) ≤ 2 ^ (shL W - e).toNat := Nat.pow_le_pow_right (by omega) (by omega)
  rw [Nat.pow_succ] at h2
  omega

theorem nearE_zero {W : Nat} (hW : Wide W) (e : Int) : nearE W 0 e = 0 := by
  refine nearN_eq (nearest_zero _ _ _ _ (infN_pos hW) ?_)
  unfold rX
  rw [Nat.zero_mul]
  exact rU_pos _ _

/-- s places below the last one are cut off, and it is rounded. -/
def rounded (M s : Nat) : Nat := if 2 ^ s < 2 * (M % 2 ^ s) ∨ (2 * (M % 2 ^ s) = 2 ^ s ∧ M / 2 ^ s % 2 = 1) then M / 2 ^ s + 1 else M / 2 ^ s

theorem wide_F {W : Nat} (hW : Wide W) : 0 < shF W := by rcases hW with rfl | rfl | rfl <;> decide

theorem nearE_cut {W : Nat} (hW : Wide W) (M d s : Nat) (e : Int) (hs : (s : Int) = shL W + d - e) (h1 : d = 0 ∨ 2 ^ shF W ≤ M / 2 ^ s) (h2 : M / 2 ^ s < 2 ^ (shF W + 1)) (hd : d + 2 < 2 ^ shE W) :
    nearE W M e = d * 2 ^ shF W + rounded M s := by
  refine nearN_eq ?_
  have eU : 2 ^ d * rU (shL W) e = 2 ^ s * 2 ^ (e - shL W).toNat := by
    unfold rU
    rw [← Nat.pow_add, ← Nat.pow_add]
    congr 1
    omega
  have hc : 0 < 2 ^ (e - shL W).toNat := Nat.two_pow_pos _
  have eX : rX (shL W) e M = M * 2 ^ (e - shL W).toNat := rfl
  have hk : M / 2 ^ s = rX (shL W) e M / (2 ^ d * rU (shL W) e) := by
    rw [eU, eX, Nat.mul_div_mul_right _ _ hc]
  have hm : rX (shL W) e M % (2 ^ d * rU (shL W) e) = M % 2 ^ s * 2 ^ (e - shL W).toNat := by
    rw [eU, eX, Nat.mul_mod_mul_right]
  have h := nearest_direct (shF W) (infN W) (rU (shL W) e) (rX (shL W) e M) d (M / 2 ^ s) hk (rU_pos _ _) h1 h2 ?_ (.inr (wide_F hW))
  · rw [hm, eU] at h
    have i1 : (2 ^ s * 2 ^ (e - shL W).toNat < 2 * (M % 2 ^ s * 2 ^ (e - shL W).toNat)) ↔ 2 ^ s < 2 * (M % 2 ^ s) := by
      rw [← Nat.mul_assoc]
      exact Nat.mul_lt_mul_right hc
    have i2 : (2 * (M % 2 ^ s * 2 ^ (e - shL W).toNat) = 2 ^ s * 2 ^ (e - shL W).toNat) ↔ 2 * (M % 2 ^ s) = 2 ^ s := by
      rw [← Nat.mul_assoc]
      exact Nat.mul_left_inj (by omega)
    simp only [i1, i2] at h
    exact h
  · unfold infN
    rw [Nat.pow_succ] at h2
    have hp := Nat.two_pow_pos (shF W)
    have h3 : (d + 2) * 2 ^ shF W ≤ (2 ^ shE W - 1) * 2 ^ shF W := Nat.mul_le_mul_right _ (by omega)
    rw [Nat.add_mul] at h3
    omega

theorem rounded_zero (M : Nat) : rounded M 0 = M := by
  unfold rounded
  rw [Nat.pow_zero, Nat.mod_one, Nat.div_one]
  simp

/-- Nothing is cut off. -/
theorem nearE_exact {W : Nat} (hW : Wide W) (M d t : Nat) (e : Int) (ht : e = shL W + d + t) (h1 : d = 0 ∨ 2 ^ shF W ≤ M * 2 ^ t) (h2 : M * 2 ^ t < 2 ^ (shF W + 1)) (hd : d + 2 < 2 ^ shE W) :
    nearE W M e = d * 2 ^ shF W + M * 2 ^ t := by
  have h := nearE_cut hW (M * 2 ^ t) d 0 (shL W + d) (by omega) (by simpa using h1) (by simpa using h2) hd
  rw [rounded_zero] at h
  rw [← h]
  unfold nearE
  have e1 : rU (shL W) e = rU (shL W) (shL W + d) := by
    unfold rU
    rw [show (shL W - e).toNat = 0 by omega, show (shL W - (shL W + d)).toNat = 0 by omega]
  have e2 : rX (shL W) e M = rX (shL W) (shL W + d) (M * 2 ^ t) := by
    unfold rX
    rw [Nat.mul_assoc, ← Nat.pow_add]
    congr 2
    omega
  rw [e1, e2]

/-- The program's way: q and whether something is left, one place more than is kept. -/
theorem rounded_prog (M s : Nat) (q : Nat) (hq : q = M / 2 ^ s) :
    rounded M (s + 1) = if q % 2 = 1 ∧ (M % 2 ^ s ≠ 0 ∨ q / 2 % 2 = 1) then q / 2 + 1 else q / 2 := by
  have hP := Nat.two_pow_pos s
  have h1 : M / 2 ^ (s + 1) = q / 2 := by rw [hq, Nat.pow_succ, ← Nat.div_div_eq_div_mul]
  have h2 : M % 2 ^ (s + 1) = M % 2 ^ s + 2 ^ s * (q % 2) := by rw [hq, Nat.pow_succ, Nat.mod_mul]
  have h3 := Nat.mod_lt M hP
  unfold rounded
  rw [h1, h2, Nat.pow_succ]
  rcases Nat.mod_two_eq_zero_or_one q with h | h
  · rw [h, if_neg (by omega), if_neg (by omega)]
  · rw [h, Nat.mul_one]
    by_cases hz : M % 2 ^ s = 0
    · rw [hz]
      by_cases h4 : q / 2 % 2 = 1
      · rw [if_pos (by omega), if_pos (by omega)]
      · rw [if_neg (by omega), if_neg (by omega)]
    · rw [if_pos (by omega), if_pos (by omega)]

/-- The same number, more places. -/
theorem nearE_shift (W M k : Nat) (e : Int) : nearE W (M * 2 ^ k) (e - k) = nearE W M e := by
  unfold nearE
  symm
  have h1 : rU (shL W) (e - k) * 2 ^ (k - ((e - k) - shL W).toNat + (e - shL W).toNat - (e - shL W).toNat) = rU (shL W) (e - k) * 2 ^ (k - ((e - k) - shL W).toNat) := by
    rw [Nat.add_sub_cancel]
  have key : ∃ a b, 0 < a ∧ 0 < b ∧ rU (shL W) e * a = rU (shL W) (e - k) * b ∧ rX (shL W) e M * a = rX (shL W) (e - k) (M * 2 ^ k) * b := by
    refine ⟨2 ^ (shL W - (e - k)).toNat, 2 ^ (shL W - e).toNat, Nat.two_pow_pos _, Nat.two_pow_pos _, ?_, ?_⟩
    · unfold rU
      rw [Nat.mul_comm]
    · unfold rX
      rw [Nat.mul_assoc, Nat.mul_assoc, Nat.mul_assoc, ← Nat.pow_add, ← Nat.pow_add, ← Nat.pow_add]
      congr 2
      omega
  obtain ⟨a, b, ha, hb, e1, e2⟩ := key
  have s1 := (nearN_spec (shF W) (infN W) (rU (shL W) e) (rX (shL W) e M)).scale a ha
  have s2 := (nearN_spec (shF W) (infN W) (rU (shL W) (e - k)) (rX (shL W) (e - k) (M * 2 ^ k))).scale b hb
  rw [e1, e2] at s1
  exact s1.unique s2
end Go.Proofs.YtoimhjcpeifegaaGreatDoor


/- Printed by ieee.py. -/
namespace Go.Proofs.YtoimhjcpeifegaaGreatDoor
open Go.RowKit

theorem and_two_pow_nat (x k : Nat) (hx : x < 2 ^ (k + 1)) : x &&& 2 ^ k = if 2 ^ k ≤ x then 2 ^ k else 0 := by
  apply Nat.eq_of_testBit_eq
  intro i
  rw [Nat.testBit_and, Nat.testBit_two_pow]
  by_cases h : k = i
  · subst h
    by_cases h2 : 2 ^ k ≤ x
    · rw [if_pos h2, Nat.testBit_two_pow_self]
      have : x.testBit k = true := by
        rw [Nat.testBit_eq_decide_div_mod_eq]
        rw [Nat.pow_succ] at hx
        have h3 : x / 2 ^ k = 1 := by
          apply Nat.div_eq_of_lt_le <;> omega
        rw [h3]
        rfl
      simp [this]
    · rw [if_neg h2, Nat.testBit_lt_two_pow (by omega)]
      simp
  · have h3 : decide (k = i) = false := by simp [h]
    rw [h3, Bool.and_false]
    split
    · rw [Nat.testBit_two_pow, h3]
    · simp

theorem andNot_two_pow_nat (x k : Nat) (hk : k < 64) (hx : x < 2 ^ (k + 1)) : x &&& (2 ^ 64 - (2 ^ k + 1)) = x % 2 ^ k := by
  apply Nat.eq_of_testBit_eq
  intro i
  have h1 : 2 ^ k < 2 ^ 64 := Nat.pow_lt_pow_right (by omega) hk
  rw [Nat.testBit_and, Nat.testBit_two_pow_sub_succ h1, Nat.testBit_mod_two_pow, Nat.testBit_two_pow]
  by_cases hik : i < k
  · have h2 : i < 64 := by omega
    have h3 : ¬ k = i := by omega
    simp [hik, h2, h3]
  · by_cases he : k = i
    · subst he
      simp
    · rw [Nat.testBit_lt_two_pow (Nat.lt_of_lt_of_le hx (Nat.pow_le_pow_right (by omega) (by omega)))]
      simp

theorem bits_andNot_u64_nat (a b : Nat) (ha : a < 18446744073709551616) (hb : b < 18446744073709551616) : bits .andNot .u64 (a : Int) (b : Int) = ((a &&& (2 ^ 64 - (b + 1)) : Nat) : Int) := by
  have h1 : (BitVec.ofInt 64 (a : Int)).toNat = a := by
    rw [BitVec.ofInt_natCast, BitVec.toNat_ofNat]; exact Nat.mod_eq_of_lt (by omega)
  have h2 : (BitVec.ofInt 64 (b : Int)).toNat = b := by
    rw [BitVec.ofInt_natCast, BitVec.toNat_ofNat]; exact Nat.mod_eq_of_lt (by omega)
  have hx : a &&& (2 ^ 64 - (b + 1)) < 2 ^ 64 := Nat.lt_of_le_of_lt Nat.and_le_left (by omega)
  show IntKind.u64.wrap ((BitVec.ofInt 64 (a : Int) &&& ~~~ BitVec.ofInt 64 (b : Int)).toNat : Int) = _
  rw [BitVec.toNat_and, BitVec.toNat_not, h1, h2, show 2 ^ 64 - 1 - b = 2 ^ 64 - (b + 1) by omega, IntKind.wrap_u64]
  omega

theorem and_sign_16 (x : Int) (hx : 0 ≤ x ∧ x < 65536) : (bits .and .u64 x 32768 != 0) = negW 16 x := by
  obtain ⟨x, rfl⟩ := Int.eq_ofNat_of_zero_le hx.1
  have e : bits .and .u64 (x : Int) ((32768 : Nat) : Int) = ((x &&& 32768 : Nat) : Int) := Go.bits_and_u64_nat x _ (by omega) (by omega)
  have h := and_two_pow_nat x 15 (by omega)
  rw [show (2 : Nat) ^ 15 = 32768 from by decide] at h
  rw [show ((32768 : Nat) : Int) = 32768 from rfl, h] at e
  unfold negW
  rw [sgn16, e, Bool.eq_iff_iff]
  simp only [bne_iff_ne, ne_eq, decide_eq_true_eq]
  split <;> omega
theorem andNot_sign_16 (x : Int) (hx : 0 ≤ x ∧ x < 65536) : bits .andNot .u64 x 32768 = sizeW 16 x := by
  obtain ⟨x, rfl⟩ := Int.eq_ofNat_of_zero_le hx.1
  have e : bits .andNot .u64 (x : Int) ((32768 : Nat) : Int) = _ := bits_andNot_u64_nat x _ (by omega) (by omega)
  have h := andNot_two_pow_nat x 15 (by omega) (by omega)
  rw [show (2 : Nat) ^ 15 = 32768 from by decide] at h
  rw [show ((32768 : Nat) : Int) = 32768 from rfl, h] at e
  unfold sizeW
  rw [sgn16, e]
  split <;> omega

theorem and_sign_32 (x : Int) (hx : 0 ≤ x ∧ x < 4294967296) : (bits .and .u64 x 2147483648 != 0) = negW 32 x := by
  obtain ⟨x, rfl⟩ := Int.eq_ofNat_of_zero_le hx.1
  have e : bits .and .u64 (x : Int) ((2147483648 : Nat) : Int) = ((x &&& 2147483648 : Nat) : Int) := Go.bits_and_u64_nat x _ (by omega) (by omega)
  have h := and_two_pow_nat x 31 (by omega)
  rw [show (2 : Nat) ^ 31 = 2147483648 from by decide] at h
  rw [show ((2147483648 : Nat) : Int) = 2147483648 from rfl, h] at e
  unfold negW
  rw [sgn32, e, Bool.eq_iff_iff]
  simp only [bne_iff_ne, ne_eq, decide_eq_true_eq]
  split <;> omega
theorem andNot_sign_32 (x : Int) (hx : 0 ≤ x ∧ x < 4294967296) : bits .andNot .u64 x 2147483648 = sizeW 32 x := by
  obtain ⟨x, rfl⟩ := Int.eq_ofNat_of_zero_le hx.1
  have e : bits .andNot .u64 (x : Int) ((2147483648 : Nat) : Int) = _ := bits_andNot_u64_nat x _ (by omega) (by omega)
  have h := andNot_two_pow_nat x 31 (by omega) (by omega)
  rw [show (2 : Nat) ^ 31 = 2147483648 from by decide] at h
  rw [show ((2147483648 : Nat) : Int) = 2147483648 from rfl, h] at e
  unfold sizeW
  rw [sgn32, e]
  split <;> omega

theorem and_sign_64 (x : Int) (hx : 0 ≤ x ∧ x < 18446744073709551616) : (bits .and .u64 x 9223372036854775808 != 0) = negW 64 x := by
  obtain ⟨x, rfl⟩ := Int.eq_ofNat_of_zero_le hx.1
  have e : bits .and .u64 (x : Int) ((9223372036854775808 : Nat) : Int) = ((x &&& 9223372036854775808 : Nat) : Int) := Go.bits_and_u64_nat x _ (by omega) (by omega)
  have h := and_two_pow_nat x 63 (by omega)
  rw [show (2 : Nat) ^ 63 = 9223372036854775808 from by decide] at h
  rw [show ((9223372036854775808 : Nat) : Int) = 9223372036854775808 from rfl, h] at e
  unfold negW
  rw [sgn64, e, Bool.eq_iff_iff]
  simp only [bne_iff_ne, ne_eq, decide_eq_true_eq]
  split <;> omega
theorem andNot_sign_64 (x : Int) (hx : 0 ≤ x ∧ x < 18446744073709551616) : bits .andNot .u64 x 9223372036854775808 = sizeW 64 x := by
  obtain ⟨x, rfl⟩ := Int.eq_ofNat_of_zero_le hx.1
  have e : bits .andNot .u64 (x : Int) ((9223372036854775808 : Nat) : Int) = _ := bits_andNot_u64_nat x _ (by omega) (by omega)
  have h := andNot_two_pow_nat x 63 (by omega) (by omega)
  rw [show (2 : Nat) ^ 63 = 9223372036854775808 from by decide] at h
  rw [show ((9223372036854775808 : Nat) : Int) = 9223372036854775808 from rfl, h] at e
  unfold sizeW
  rw [sgn64, e]
  split <;> omega
end Go.Proofs.YtoimhjcpeifegaaGreatDoor


/- Shl by worth alone. -/
namespace Go.Proofs.YtoimhjcpeifegaaGreatDoor
open Go.RowKit

theorem num_shl (ad : Option Addr) (n c : Nat) (V : Int) (r : Int) (w : World) (h : Num w ad n c V) (hn : n ≤ 70368744177663) (hr : -9223372036854775808 ≤ r ∧ r < 9223372036854775808) :
    Calls Tryz.prog 112 #[.slice ad n c, .int .i64 r] w (RetCB (shlNum V r) (shlOk V r) w) := by
  obtain ⟨xs, h1, h2, rfl⟩ := h.row
  exact (shl_calls ad n c xs r w (by omega) h.le h1 h2 hr).mono fun e w' q => q.can
end Go.Proofs.YtoimhjcpeifegaaGreatDoor


/- Shr by worth alone. -/
namespace Go.Proofs.YtoimhjcpeifegaaGreatDoor
open Go.RowKit

theorem num_shr (ad : Option Addr) (n c : Nat) (V : Int) (r : Int) (w : World) (h : Num w ad n c V) (hn : n ≤ 70368744177663) (hr : -9223372036854775808 ≤ r ∧ r < 9223372036854775808) :
    Calls Tryz.prog 123 #[.slice ad n c, .int .i64 r] w (RetCBB (shrNum V r) (shrMore V r) (decide (0 ≤ r)) w) := by
  obtain ⟨xs, h1, h2, rfl⟩ := h.row
  exact (shr_calls ad n c xs r w (by omega) h.le h1 h2 hr).mono fun e w' q => q.can
end Go.Proofs.YtoimhjcpeifegaaGreatDoor


/- The class of a pattern: plain. -/
namespace Go.Proofs.YtoimhjcpeifegaaGreatDoor

def clsW (W : Nat) (x : Int) : Int := if infW W < sizeW W x then 5 else if sizeW W x = infW W then 4 else if sizeW W x = 0 then 1 else if sizeW W x < 2 ^ shF W then 2 else 3

theorem nan_cls (W : Nat) (x : Int) : (clsW W x == 5) = isNaN W x := by
  unfold clsW isNaN
  split
  · rename_i h; simp [h]
  · rename_i h
    rw [decide_eq_false h]
    split
    · rfl
    · split
      · rfl
      · split <;> rfl
end Go.Proofs.YtoimhjcpeifegaaGreatDoor


/- TwinInt, SameInt, LeftInt of the statements. -/
namespace Go.Proofs.YtoimhjcpeifegaaGreatDoor
open Go.RowKit

theorem Tw.poke {w : World} {b n : Nat} {xs : List Int} (h : Tw w b n xs) {b2 : Nat} {t : TypeId} {b0 : Bool} {cs : List Value} (k : Cel w b2 t (.bool b0 :: cs)) (j : Nat) (v : Value) : Tw (w.setCell ⟨b2, j, none⟩ v) b n xs := by
  have hne : b2 ≠ b := by
    rintro rfl
    have h1 := h.blk.cell 0 (by simp)
    have h2 := k.cell 0 _ rfl
    rw [h1] at h2
    cases h2
  refine ⟨h.len, ?_, h.dig⟩
  have hb := h.blk
  unfold Blk at *
  simp only [World.setCell, Array.getElem?_modify, hb, if_neg hne]

/-- A bool is answered, nothing old has turned. -/
def RetBB (r : Bool) (w : World) (e : Ending) (w' : World) : Prop := e = .returned (.bool r) ∧ Below w.heap.size w w'

theorem sameInt_calls (ng mg : Bool) (ad bd : Option Addr) (n m c d : Nat) (V U : Int) (w : World) (ha : Can w ad n c V) (hb : Can w bd m d U) (hV : 0 ≤ V) (hU : 0 ≤ U) (hn : n ≤ 1000000000000) (hm : m ≤ 1000000000000) :
    Calls Tryz.prog 69 #[.agg #[.bool ng, .slice ad n c], .agg #[.bool mg, .slice bd m d]] w (RetBB (ng == mg && decide (V = U)) w) := by
  have b1 : Below w.heap.size w (w.alloc (.cells #[.bool ng, .slice ad n c] 34)) := (Below.refl _ _).alloc (Nat.le_refl _) _
  have b2 : Below w.heap.size w ((w.alloc (.cells #[.bool ng, .slice ad n c] 34)).alloc (.cells #[.bool mg, .slice bd m d] 34)) := below_alloc b1 _
  have k0 : Cel ((w.alloc (.cells #[.bool ng, .slice ad n c] 34)).alloc (.cells #[.bool mg, .slice bd m d] 34)) w.heap.size 34 [.bool ng, .slice ad n c] := (Cel.made _ _ _ _ rfl : Cel (w.alloc (.cells #[.bool ng, .slice ad n c] 34)) w.heap.size 34 [.bool ng, .slice ad n c]).next ((Below.refl _ _).alloc (Nat.le_refl _) _)
  have k1 : Cel ((w.alloc (.cells #[.bool ng, .slice ad n c] 34)).alloc (.cells #[.bool mg, .slice bd m d] 34)) (w.heap.size + 1) 34 [.bool mg, .slice bd m d] := Cel.made _ _ _ _ (by simp)
  have HS := Lib.hid (num_same ad bd n m c d V U _ (ha.below b2 (Nat.le_refl _)) (hb.below b2 (Nat.le_refl _)) hV hU hn hm)
  have c0 := k0.cell 0 _ rfl
  have c1 := k0.cell 1 _ rfl
  have d0 := k1.cell 0 _ rfl
  have d1 := k1.cell 1 _ rfl
  obtain ⟨r, hr⟩ : ∃ r, r = (ng == mg && decide (V = U)) := ⟨_, rfl⟩
  rw [← hr]
  have HR := Lib.hid hr
  clear ha hb b1 hr k0 k1
  generalize decide (V = U) = vu at *
  cases ng <;> cases mg
  · have HE := Lib.hid (show r = vu by rw [HR.out]; rfl)
    go_enter Tryz.func69, Tryz.ntmps69
    go_wp2_with fail
    refine (HS.out).mono ?_
    rintro e w' ⟨rfl, q, rfl⟩
    go_wp2
    go_ret
    rw [HE.out]
    exact ⟨rfl, below_drewN b2 _⟩
  · have HE := Lib.hid (show r = false by rw [HR.out]; rfl)
    go_enter Tryz.func69, Tryz.ntmps69
    go_wp2
    go_ret
    rw [HE.out]
    exact ⟨rfl, b2⟩
  · have HE := Lib.hid (show r = false by rw [HR.out]; rfl)
    go_enter Tryz.func69, Tryz.ntmps69
    go_wp2
    go_ret
    rw [HE.out]
    exact ⟨rfl, b2⟩
  · have HE := Lib.hid (show r = vu by rw [HR.out]; rfl)
    go_enter Tryz.func69, Tryz.ntmps69
    go_wp2_with fail
    refine (HS.out).mono ?_
    rintro e w' ⟨rfl, q, rfl⟩
    go_wp2
    go_ret
    rw [HE.out]
    exact ⟨rfl, below_drewN b2 _⟩

end Go.Proofs.YtoimhjcpeifegaaGreatDoor


/- Whole numbers: Norm of the program. -/
namespace Go.Proofs.YtoimhjcpeifegaaGreatDoor
open Go.RowKit

theorem made_sign (N : Int) (V : Int) (hV : V = N.natAbs) : (decide (sgI N = -1) && decide (0 < V)) = decide (N < 0) := by
  unfold sgI
  by_cases h : N < 0
  · rw [if_pos h, decide_eq_true h]; simp; omega
  · rw [if_neg h, decide_eq_false h]
    split <;> simp

theorem wnorm_calls (ng : Bool) (ad : Option Addr) (n c : Nat) (V : Int) (w : World) (h : Num w ad n c V) (hn : n ≤ 70368744177663) :
    Calls Tryz.prog 105 #[.agg #[.bool ng, .slice ad n c]] w (RetInt (sI ng V) w) := by
  have hV := h.nonneg
  have b1 : Below w.heap.size w (w.alloc (.cells #[.bool ng, .slice ad n c] 34)) := (Below.refl _ _).alloc (Nat.le_refl _) _
  have b2 : Below w.heap.size w ((w.alloc (.cells #[.bool ng, .slice ad n c] 34)).alloc (.cells #[.bool false, .slice none 0 0] 34)) := below_alloc b1 _
  have k1 : Cel ((w.alloc (.cells #[.bool ng, .slice ad n c] 34)).alloc (.cells #[.bool false, .slice none 0 0] 34)) (w.heap.size + 1) 34 [.bool false, .slice none 0 0] := Cel.made _ _ _ _ (by simp)
  have HS := Lib.hid (wsigned_calls ng ad n c V _ (h.below b2 (Nat.le_refl _)) hn)
  have HG := Lib.hid (made_sign (sI ng V) V (sI_abs ng V hV).symm)
  have HA := Lib.hid (sI_abs ng V hV)
  generalize sI ng V = N at *
  clear h b1
  go_enter Tryz.func105, Tryz.ntmps105
  go_wp2_with fail
  refine (HS.out).mono ?_
  rintro e w1 ⟨ad1, n1, d1, rfl, f1, b3⟩
  have k2 := k1.next b3
  have b4 := below_trans b2 b3
  clear k1 HS b2 b3
  have HM := Lib.hid (wmade_calls (sgI N) ad1 n1 d1 V w1 f1 hV)
  rw [HG.out] at HM
  generalize sgI N = s at *
  have hb0 : w.heap.size ≤ w.heap.size + 1 := Nat.le_succ _
  generalize w.heap.size + 1 = b at *
  go_wp2_with fail
  refine (HM.out).mono ?_
  rintro e w2 ⟨rfl, b5⟩
  have k3 := k2.next b5
  have c0 := k3.cell 0 _ rfl
  have c1 := k3.cell 1 _ rfl
  have g0 := k3.free 0
  have g1 := k3.free 1
  go_wp2
  refine bodyPost_ret (results_cell_row rfl _ _ b 34 #[.bool (decide (N < 0)), .slice ad1 n1 d1] (0, 0) _ rfl ((k3.set 0 _).set 1 _).row Tryz.underlying34 rfl size_int) rfl ?_
  refine ⟨_, _, _, rfl, ?_, below_set (below_set (below_trans b4 b5) _ _ _ hb0) _ _ _ hb0⟩
  rw [HA.out]
  exact (f1.below b5 (Nat.le_refl _)).poke2 k3 _ _

/-- As RetInt, sign and size by name. -/
def RetIntR (r : Bool) (A : Int) (w : World) (e : Ending) (w' : World) : Prop :=
  ∃ ad n c, e = .returned (.agg #[.bool r, .slice ad n c]) ∧ Can w' ad n c A ∧ Below w.heap.size w w'
theorem RetInt.named {N : Int} {r : Bool} {A : Int} (hr : decide (N < 0) = r) (hA : A = (N.natAbs : Int)) {w : World} {e : Ending} {w' : World} (h : RetInt N w e w') : RetIntR r A w e w' := by
  obtain ⟨ad, n, c, e1, h1, h2⟩ := h
  rw [hr] at e1
  rw [← hA] at h1
  exact ⟨ad, n, c, e1, h1, h2⟩
theorem sg_bd (N : Int) : -1 ≤ sgI N ∧ sgI N ≤ 1 := by unfold sgI; split <;> (try split) <;> omega
end Go.Proofs.YtoimhjcpeifegaaGreatDoor


/- RShl by worth alone. -/
namespace Go.Proofs.YtoimhjcpeifegaaGreatDoor
open Go.RowKit

end Go.Proofs.YtoimhjcpeifegaaGreatDoor


/- The document's way to the nearest pattern: halving, and what stands behind 200 digits. Plain facts. -/
namespace Go.Proofs.YtoimhjcpeifegaaGreatDoor

/-- Number: a size as m times 2 to the power of e. -/
def numM (F : Nat) (z : Nat) : Nat := if z < 2 ^ F then z else 2 ^ F + z % 2 ^ F
def numP (F : Nat) (z : Nat) : Nat := if z < 2 ^ F then 0 else z / 2 ^ F - 1
theorem numN_parts (F z : Nat) : numN F z = numM F z * 2 ^ numP F z := by
  unfold numN numM numP
  split
  · simp
  · rfl
theorem numP_le {W : Nat} (hW : Wide W) (z : Nat) (h : z ≤ infN W) : numP (shF W) z + 2 ≤ 2 ^ shE W := by
  have hP := Nat.two_pow_pos (shF W)
  have h2 : 4 ≤ 2 ^ shE W := by rcases hW with rfl | rfl | rfl <;> decide
  unfold numP
  split
  · omega
  · have : z / 2 ^ shF W ≤ 2 ^ shE W - 1 := by
      unfold infN at h
      exact Nat.le_of_lt_succ ((Nat.div_lt_iff_lt_mul hP).2 (by rw [Nat.succ_mul]; omega))
    omega

theorem numM_lt (F z : Nat) : numM F z < 2 ^ (F + 1) := by
  have hP := Nat.two_pow_pos F
  have := Nat.mod_lt z hP
  unfold numM
  rw [Nat.pow_succ]
  split <;> omega

end Go.Proofs.YtoimhjcpeifegaaGreatDoor


/- Printed by ieee.py. -/
namespace Go.Proofs.YtoimhjcpeifegaaGreatDoor
open Go.RowKit

theorem of_64 (w : World) (hS : Shapes w) : Calls Tryz.prog 57 #[] w (fun e w' => e = .returned (.agg #[.int .i64 52, .int .i64 (-1074), .int .i64 11]) ∧ Below w.heap.size w w') := by
  have b0 : Below w.heap.size w (w.alloc (.cells #[.int .i64 0, .int .i64 0, .int .i64 0] 95)) := (Below.refl _ _).alloc (Nat.le_refl _) _
  obtain ⟨c0, c1, c2, c3, c4, c5, c6, c7, c8⟩ := hS.below b0 (Nat.le_refl _)
  have x0 : bits BinOp.xor .u64 (if IntKind.u64.signed = true then -1 else IntKind.u64.max) 0 = 18446744073709551615 := by decide
  have x1 : bits BinOp.xor .u64 IntKind.u64.max 0 = 18446744073709551615 := by decide
  have x2 : IntKind.u64.wrap 18446744073709551615 = 18446744073709551615 := by decide
  clear b0
  go_enter Tryz.func57, Tryz.ntmps57
  go_wp2
  refine bodyPost_ret (results_cell_row rfl _ _ w.heap.size 95 #[.int .i64 52, .int .i64 (-1074), .int .i64 11] (0, 0) _ rfl (heap_alloc_new _ _) Tryz.underlying95 rfl size_shape) rfl ?_
  exact ⟨rfl, (Below.refl _ _).alloc (Nat.le_refl _) _⟩
end Go.Proofs.YtoimhjcpeifegaaGreatDoor


/- Printed by ieee.py. -/
namespace Go.Proofs.YtoimhjcpeifegaaGreatDoor
open Go.RowKit

theorem shsign_16 (w : World) : Calls Tryz.prog 120 #[.agg #[.int .i64 10, .int .i64 (-24), .int .i64 5]] w (fun e w' => e = .returned (.int .u64 32768) ∧ Below w.heap.size w w') := by
  have b0 : Below w.heap.size w (w.alloc (.cells #[.int .i64 10, .int .i64 (-24), .int .i64 5] 95)) := (Below.refl _ _).alloc (Nat.le_refl _) _
  go_enter Tryz.func120, Tryz.ntmps120
  go_wp2
  go_ret
  exact ⟨rfl, b0⟩

theorem shinf_16 (w : World) : Calls Tryz.prog 61 #[.agg #[.int .i64 10, .int .i64 (-24), .int .i64 5]] w (fun e w' => e = .returned (.int .u64 31744) ∧ Below w.heap.size w w') := by
  have b0 : Below w.heap.size w (w.alloc (.cells #[.int .i64 10, .int .i64 (-24), .int .i64 5] 95)) := (Below.refl _ _).alloc (Nat.le_refl _) _
  go_enter Tryz.func61, Tryz.ntmps61
  go_wp2_with fail
  have c0 : (w.alloc (.cells #[.int .i64 10, .int .i64 (-24), .int .i64 5] 95)).cell? ⟨w.heap.size, 0, none⟩ = some (.int .i64 10) := World.cell?_alloc_at _ _ _ _ rfl
  have c1 : (w.alloc (.cells #[.int .i64 10, .int .i64 (-24), .int .i64 5] 95)).cell? ⟨w.heap.size, 1, none⟩ = some (.int .i64 (-24)) := World.cell?_alloc_at _ _ _ _ rfl
  have c2 : (w.alloc (.cells #[.int .i64 10, .int .i64 (-24), .int .i64 5] 95)).cell? ⟨w.heap.size, 2, none⟩ = some (.int .i64 5) := World.cell?_alloc_at _ _ _ _ rfl
  generalize w.alloc (.cells #[.int .i64 10, .int .i64 (-24), .int .i64 5] 95) = w1 at *
  have bd : Below w1.heap.size w1 w1.drew := below_drew (Below.refl _ _)
  go_region_held3 (fun w' => w'.cell? ⟨w.heap.size, 0, none⟩ = some (.int .i64 10) ∧ w'.cell? ⟨w.heap.size, 1, none⟩ = some (.int .i64 (-24)) ∧ w'.cell? ⟨w.heap.size, 2, none⟩ = some (.int .i64 5) ∧ Below w1.heap.size w1 w') (go_keep)
    (first
      | (go_at_call 120
         refine (shsign_16 _).mono ?_
         rintro e w2 ⟨rfl, hb⟩
         have d0 := below_cell hb (Nat.le_refl _) c0
         have d1 := below_cell hb (Nat.le_refl _) c1
         have d2 := below_cell hb (Nat.le_refl _) c2
         have bb : Below w1.heap.size w1 w2 := below_then bd (Nat.le_refl _) hb))
  go_wp2
  go_ret
  exact ⟨by first | rfl | simp, below_trans b0 (by assumption)⟩

theorem shnan_16 (w : World) : Calls Tryz.prog 58 #[.agg #[.int .i64 10, .int .i64 (-24), .int .i64 5]] w (fun e w' => e = .returned (.int .u64 32256) ∧ Below w.heap.size w w') := by
  have b0 : Below w.heap.size w (w.alloc (.cells #[.int .i64 10, .int .i64 (-24), .int .i64 5] 95)) := (Below.refl _ _).alloc (Nat.le_refl _) _
  have hw : IntKind.i64.wrap 9 = 9 := by decide
  go_enter Tryz.func58, Tryz.ntmps58
  go_wp2_with fail
  have c0 : (w.alloc (.cells #[.int .i64 10, .int .i64 (-24), .int .i64 5] 95)).cell? ⟨w.heap.size, 0, none⟩ = some (.int .i64 10) := World.cell?_alloc_at _ _ _ _ rfl
  have c1 : (w.alloc (.cells #[.int .i64 10, .int .i64 (-24), .int .i64 5] 95)).cell? ⟨w.heap.size, 1, none⟩ = some (.int .i64 (-24)) := World.cell?_alloc_at _ _ _ _ rfl
  have c2 : (w.alloc (.cells #[.int .i64 10, .int .i64 (-24), .int .i64 5] 95)).cell? ⟨w.heap.size, 2, none⟩ = some (.int .i64 5) := World.cell?_alloc_at _ _ _ _ rfl
  generalize w.alloc (.cells #[.int .i64 10, .int .i64 (-24), .int .i64 5] 95) = w1 at *
  have bd : Below w1.heap.size w1 w1.drew := below_drew (Below.refl _ _)
  go_region_held3 (fun w' => w'.cell? ⟨w.heap.size, 0, none⟩ = some (.int .i64 10) ∧ w'.cell? ⟨w.heap.size, 1, none⟩ = some (.int .i64 (-24)) ∧ w'.cell? ⟨w.heap.size, 2, none⟩ = some (.int .i64 5) ∧ Below w1.heap.size w1 w') (go_keep)
    (first
      | (go_at_call 61
         refine (shinf_16 _).mono ?_
         rintro e w2 ⟨rfl, hb⟩
         have d0 := below_cell hb (Nat.le_refl _) c0
         have d1 := below_cell hb (Nat.le_refl _) c1
         have d2 := below_cell hb (Nat.le_refl _) c2
         have bb : Below w1.heap.size w1 w2 := below_then bd (Nat.le_refl _) hb))
  go_wp2
  go_ret
  exact ⟨by first | rfl | simp, below_trans b0 (by assumption)⟩

theorem shsign_32 (w : World) : Calls Tryz.prog 120 #[.agg #[.int .i64 23, .int .i64 (-149), .int .i64 8]] w (fun e w' => e = .returned (.int .u64 2147483648) ∧ Below w.heap.size w w') := by
  have b0 : Below w.heap.size w (w.alloc (.cells #[.int .i64 23, .int .i64 (-149), .int .i64 8] 95)) := (Below.refl _ _).alloc (Nat.le_refl _) _
  go_enter Tryz.func120, Tryz.ntmps120
  go_wp2
  go_ret
  exact ⟨rfl, b0⟩

theorem shinf_32 (w : World) : Calls Tryz.prog 61 #[.agg #[.int .i64 23, .int .i64 (-149), .int .i64 8]] w (fun e w' => e = .returned (.int .u64 2139095040) ∧ Below w.heap.size w w') := by
  have b0 : Below w.heap.size w (w.alloc (.cells #[.int .i64 23, .int .i64 (-149), .int .i64 8] 95)) := (Below.refl _ _).alloc (Nat.le_refl _) _
  go_enter Tryz.func61, Tryz.ntmps61
  go_wp2_with fail
  have c0 : (w.alloc (.cells #[.int .i64 23, .int .i64 (-149), .int .i64 8] 95)).cell? ⟨w.heap.size, 0, none⟩ = some (.int .i64 23) := World.cell?_alloc_at _ _ _ _ rfl
  have c1 : (w.alloc (.cells #[.int .i64 23, .int .i64 (-149), .int .i64 8] 95)).cell? ⟨w.heap.size, 1, none⟩ = some (.int .i64 (-149)) := World.cell?_alloc_at _ _ _ _ rfl
  have c2 : (w.alloc (.cells #[.int .i64 23, .int .i64 (-149), .int .i64 8] 95)).cell? ⟨w.heap.size, 2, none⟩ = some (.int .i64 8) := World.cell?_alloc_at _ _ _ _ rfl
  generalize w.alloc (.cells #[.int .i64 23, .int .i64 (-149), .int .i64 8] 95) = w1 at *
  have bd : Below w1.heap.size w1 w1.drew := below_drew (Below.refl _ _)
  go_region_held3 (fun w' => w'.cell? ⟨w.heap.size, 0, none⟩ = some (.int .i64 23) ∧ w'.cell? ⟨w.heap.size, 1, none⟩ = some (.int .i64 (-149)) ∧ w'.cell? ⟨w.heap.size, 2, none⟩ = some (.int .i64 8) ∧ Below w1.heap.size w1 w') (go_keep)
    (first
      | (go_at_call 120
         refine (shsign_32 _).mono ?_
         rintro e w2 ⟨rfl, hb⟩
         have d0 := below_cell hb (Nat.le_refl _) c0
         have d1 := below_cell hb (Nat.le_refl _) c1
         have d2 := below_cell hb (Nat.le_refl _) c2
         have bb : Below w1.heap.size w1 w2 := below_then bd (Nat.le_refl _) hb))
  go_wp2
  go_ret
  exact ⟨by first | rfl | simp, below_trans b0 (by assumption)⟩

theorem shnan_32 (w : World) : Calls Tryz.prog 58 #[.agg #[.int .i64 23, .int .i64 (-149), .int .i64 8]] w (fun e w' => e = .returned (.int .u64 2143289344) ∧ Below w.heap.size w w') := by
  have b0 : Below w.heap.size w (w.alloc (.cells #[.int .i64 23, .int .i64 (-149), .int .i64 8] 95)) := (Below.refl _ _).alloc (Nat.le_refl _) _
  have hw : IntKind.i64.wrap 22 = 22 := by decide
  go_enter Tryz.func58, Tryz.ntmps58
  go_wp2_with fail
  have c0 : (w.alloc (.cells #[.int .i64 23, .int .i64 (-149), .int .i64 8] 95)).cell? ⟨w.heap.size, 0, none⟩ = some (.int .i64 23) := World.cell?_alloc_at _ _ _ _ rfl
  have c1 : (w.alloc (.cells #[.int .i64 23, .int .i64 (-149), .int .i64 8] 95)).cell? ⟨w.heap.size, 1, none⟩ = some (.int .i64 (-149)) := World.cell?_alloc_at _ _ _ _ rfl
  have c2 : (w.alloc (.cells #[.int .i64 23, .int .i64 (-149), .int .i64 8] 95)).cell? ⟨w.heap.size, 2, none⟩ = some (.int .i64 8) := World.cell?_alloc_at _ _ _ _ rfl
  generalize w.alloc (.cells #[.int .i64 23, .int .i64 (-149), .int .i64 8] 95) = w1 at *
  have bd : Below w1.heap.size w1 w1.drew := below_drew (Below.refl _ _)
  go_region_held3 (fun w' => w'.cell? ⟨w.heap.size, 0, none⟩ = some (.int .i64 23) ∧ w'.cell? ⟨w.heap.size, 1, none⟩ = some (.int .i64 (-149)) ∧ w'.cell? ⟨w.heap.size, 2, none⟩ = some (.int .i64 8) ∧ Below w1.heap.size w1 w') (go_keep)
    (first
      | (go_at_call 61
         refine (shinf_32 _).mono ?_
         rintro e w2 ⟨rfl, hb⟩
         have d0 := below_cell hb (Nat.le_refl _) c0
         have d1 := below_cell hb (Nat.le_refl _) c1
         have d2 := below_cell hb (Nat.le_refl _) c2
         have bb : Below w1.heap.size w1 w2 := below_then bd (Nat.le_refl _) hb))
  go_wp2
  go_ret
  exact ⟨by first | rfl | simp, below_trans b0 (by assumption)⟩

theorem shsign_64 (w : World) : Calls Tryz.prog 120 #[.agg #[.int .i64 52, .int .i64 (-1074), .int .i64 11]] w (fun e w' => e = .returned (.int .u64 9223372036854775808) ∧ Below w.heap.size w w') := by
  have b0 : Below w.heap.size w (w.alloc (.cells #[.int .i64 52, .int .i64 (-1074), .int .i64 11] 95)) := (Below.refl _ _).alloc (Nat.le_refl _) _
  go_enter Tryz.func120, Tryz.ntmps120
  go_wp2
  go_ret
  exact ⟨rfl, b0⟩

theorem shinf_64 (w : World) : Calls Tryz.prog 61 #[.agg #[.int .i64 52, .int .i64 (-1074), .int .i64 11]] w (fun e w' => e = .returned (.int .u64 9218868437227405312) ∧ Below w.heap.size w w') := by
  have b0 : Below w.heap.size w (w.alloc (.cells #[.int .i64 52, .int .i64 (-1074), .int .i64 11] 95)) := (Below.refl _ _).alloc (Nat.le_refl _) _
  go_enter Tryz.func61, Tryz.ntmps61
  go_wp2_with fail
  have c0 : (w.alloc (.cells #[.int .i64 52, .int .i64 (-1074), .int .i64 11] 95)).cell? ⟨w.heap.size, 0, none⟩ = some (.int .i64 52) := World.cell?_alloc_at _ _ _ _ rfl
  have c1 : (w.alloc (.cells #[.int .i64 52, .int .i64 (-1074), .int .i64 11] 95)).cell? ⟨w.heap.size, 1, none⟩ = some (.int .i64 (-1074)) := World.cell?_alloc_at _ _ _ _ rfl
  have c2 : (w.alloc (.cells #[.int .i64 52, .int .i64 (-1074), .int .i64 11] 95)).cell? ⟨w.heap.size, 2, none⟩ = some (.int .i64 11) := World.cell?_alloc_at _ _ _ _ rfl
  generalize w.alloc (.cells #[.int .i64 52, .int .i64 (-1074), .int .i64 11] 95) = w1 at *
  have bd : Below w1.heap.size w1 w1.drew := below_drew (Below.refl _ _)
  go_region_held3 (fun w' => w'.cell? ⟨w.heap.size, 0, none⟩ = some (.int .i64 52) ∧ w'.cell? ⟨w.heap.size, 1, none⟩ = some (.int .i64 (-1074)) ∧ w'.cell? ⟨w.heap.size, 2, none⟩ = some (.int .i64 11) ∧ Below w1.heap.size w1 w') (go_keep)
    (first
      | (go_at_call 120
         refine (shsign_64 _).mono ?_
         rintro e w2 ⟨rfl, hb⟩
         have d0 := below_cell hb (Nat.le_refl _) c0
         have d1 := below_cell hb (Nat.le_refl _) c1
         have d2 := below_cell hb (Nat.le_refl _) c2
         have bb : Below w1.heap.size w1 w2 := below_then bd (Nat.le_refl _) hb))
  go_wp2
  go_ret
  exact ⟨by first | rfl | simp, below_trans b0 (by assumption)⟩

theorem shnan_64 (w : World) : Calls Tryz.prog 58 #[.agg #[.int .i64 52, .int .i64 (-1074), .int .i64 11]] w (fun e w' => e = .returned (.int .u64 9221120237041090560) ∧ Below w.heap.size w w') := by
  have b0 : Below w.heap.size w (w.alloc (.cells #[.int .i64 52, .int .i64 (-1074), .int .i64 11] 95)) := (Below.refl _ _).alloc (Nat.le_refl _) _
  have hw : IntKind.i64.wrap 51 = 51 := by decide
  go_enter Tryz.func58, Tryz.ntmps58
  go_wp2_with fail
  have c0 : (w.alloc (.cells #[.int .i64 52, .int .i64 (-1074), .int .i64 11] 95)).cell? ⟨w.heap.size, 0, none⟩ = some (.int .i64 52) := World.cell?_alloc_at _ _ _ _ rfl
  have c1 : (w.alloc (.cells #[.int .i64 52, .int .i64 (-1074), .int .i64 11] 95)).cell? ⟨w.heap.size, 1, none⟩ = some (.int .i64 (-1074)) := World.cell?_alloc_at _ _ _ _ rfl
  have c2 : (w.alloc (.cells #[.int .i64 52, .int .i64 (-1074), .int .i64 11] 95)).cell? ⟨w.heap.size, 2, none⟩ = some (.int .i64 11) := World.cell?_alloc_at _ _ _ _ rfl
  generalize w.alloc (.cells #[.int .i64 52, .int .i64 (-1074), .int .i64 11] 95) = w1 at *
  have bd : Below w1.heap.size w1 w1.drew := below_drew (Below.refl _ _)
  go_region_held3 (fun w' => w'.cell? ⟨w.heap.size, 0, none⟩ = some (.int .i64 52) ∧ w'.cell? ⟨w.heap.size, 1, none⟩ = some (.int .i64 (-1074)) ∧ w'.cell? ⟨w.heap.size, 2, none⟩ = some (.int .i64 11) ∧ Below w1.heap.size w1 w') (go_keep)
    (first
      | (go_at_call 61
         refine (shinf_64 _).mono ?_
         rintro e w2 ⟨rfl, hb⟩
         have d0 := below_cell hb (Nat.le_refl _) c0
         have d1 := below_cell hb (Nat.le_refl _) c1
         have d2 := below_cell hb (Nat.le_refl _) c2
         have bb : Below w1.heap.size w1 w2 := below_then bd (Nat.le_refl _) hb))
  go_wp2
  go_ret
  exact ⟨by first | rfl | simp, below_trans b0 (by assumption)⟩
end Go.Proofs.YtoimhjcpeifegaaGreatDoor

