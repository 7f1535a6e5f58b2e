/- math/bits.Sub32: the difference and what is borrowed. -/
import Derived.Test.YtemllpbpnndgeaaProg
import Derived.Test.YtemllpbpnndgeaaBase
set_option linter.unusedVariables false
set_option linter.unusedSimpArgs false
namespace Go.Proofs.Ytemllpbpnndgeaa
open Go.RowKit

theorem bv_lit (x : BitVec 32) : x.msb = decide (2147483648 ≤ x.toNat) := by
  rw [BitVec.msb_eq_decide]
theorem sub32_borrow (x y b : Nat) (hx : x < 4294967296) (hy : y < 4294967296) (hb : b ≤ 1) (D : BitVec 32) (hD : (D.toNat : Int) = ((x : Int) - y - b) % 4294967296) :
    ((~~~ (BitVec.ofNat 32 x) &&& BitVec.ofNat 32 y) ||| (~~~ (BitVec.ofNat 32 x ^^^ BitVec.ofNat 32 y) &&& D)).msb = decide (x < y + b) := by
  simp only [BitVec.msb_or, BitVec.msb_and, BitVec.msb_not, BitVec.msb_xor]
  simp only [bv_lit, BitVec.toNat_ofNat, Nat.mod_eq_of_lt (show x < 2 ^ 32 by omega), Nat.mod_eq_of_lt (show y < 2 ^ 32 by omega)]
  have hd : D.toNat < 4294967296 := D.isLt
  generalize D.toNat = d at *
  by_cases h1 : 2147483648 ≤ x <;> by_cases h2 : 2147483648 ≤ y <;> by_cases h3 : 2147483648 ≤ d <;> simp [h1, h2, h3] <;> omega

/-- What is borrowed. -/
def brw (x y b : Int) : Int := if x < y + b then 1 else 0

theorem bits_bv (op : BinOp) (X Y : BitVec 32) (f : BitVec 32 → BitVec 32 → BitVec 32) (h : ∀ a b : Int, bits op .u32 a b = IntKind.u32.wrap ((f (BitVec.ofInt 32 a) (BitVec.ofInt 32 b)).toNat : Int)) :
    bits op .u32 (X.toNat : Int) (Y.toNat : Int) = ((f X Y).toNat : Int) := by
  have e1 : BitVec.ofInt 32 (X.toNat : Int) = X := by simp
  have e2 : BitVec.ofInt 32 (Y.toNat : Int) = Y := by simp
  rw [h, e1, e2, IntKind.wrap_u32]
  have := (f X Y).isLt
  omega

theorem sub32_bits (x y b : Int) (hx0 : 0 ≤ x) (hx1 : x < 4294967296) (hy0 : 0 ≤ y) (hy1 : y < 4294967296) (hb0 : 0 ≤ b) (hb1 : b ≤ 1) :
    bits .or .u32 (bits .and .u32 (bits .xor .u32 IntKind.u32.max x) y) (bits .and .u32 (bits .xor .u32 IntKind.u32.max (bits .xor .u32 x y)) ((x - y - b) % 4294967296)) / 2147483648 = brw x y b := by
  obtain ⟨x, rfl⟩ := Int.eq_ofNat_of_zero_le hx0
  obtain ⟨y, rfl⟩ := Int.eq_ofNat_of_zero_le hy0
  obtain ⟨b, rfl⟩ := Int.eq_ofNat_of_zero_le hb0
  obtain ⟨d, hd⟩ := Int.eq_ofNat_of_zero_le (show 0 ≤ ((x : Int) - y - b) % 4294967296 by omega)
  have hdl : d < 4294967296 := by omega
  have ex : ((BitVec.ofNat 32 x).toNat : Int) = x := by rw [BitVec.toNat_ofNat]; omega
  have ey : ((BitVec.ofNat 32 y).toNat : Int) = y := by rw [BitVec.toNat_ofNat]; omega
  have ed : ((BitVec.ofNat 32 d).toNat : Int) = d := by rw [BitVec.toNat_ofNat]; omega
  have em : (((BitVec.allOnes 32).toNat : Nat) : Int) = IntKind.u32.max := by decide
  have B := sub32_borrow x y b (by omega) (by omega) (by omega) (BitVec.ofNat 32 d) (by rw [ed, ← hd])
  rw [hd, ← ex, ← ey, ← ed, ← em]
  rw [bits_bv .xor _ _ (· ^^^ ·) (fun _ _ => rfl), bits_bv .xor _ _ (· ^^^ ·) (fun _ _ => rfl), bits_bv .and _ _ (· &&& ·) (fun _ _ => rfl), bits_bv .xor _ _ (· ^^^ ·) (fun _ _ => rfl), bits_bv .and _ _ (· &&& ·) (fun _ _ => rfl),
    bits_bv .or _ _ (· ||| ·) (fun _ _ => rfl)]
  simp only [BitVec.allOnes_xor]
  rw [bv_lit] at B
  have hlt := (~~~BitVec.ofNat 32 x &&& BitVec.ofNat 32 y ||| ~~~(BitVec.ofNat 32 x ^^^ BitVec.ofNat 32 y) &&& BitVec.ofNat 32 d).isLt
  generalize (~~~BitVec.ofNat 32 x &&& BitVec.ofNat 32 y ||| ~~~(BitVec.ofNat 32 x ^^^ BitVec.ofNat 32 y) &&& BitVec.ofNat 32 d).toNat = v at *
  unfold brw
  rw [ex, ey]
  have B' := decide_eq_decide.1 B
  split <;> omega

theorem sub32_calls (x y b : Int) (w : World) (hx : 0 ≤ x ∧ x < 4294967296) (hy : 0 ≤ y ∧ y < 4294967296) (hb : 0 ≤ b ∧ b ≤ 1) :
    Calls Try.prog 49 #[.int .u32 x, .int .u32 y, .int .u32 b] w fun e w' => e = .returned (.tuple #[.int .u32 ((x - y - b) % 4294967296), .int .u32 (brw x y b)]) ∧ w = w' := by
  obtain ⟨hx0, hx1⟩ := hx
  obtain ⟨hy0, hy1⟩ := hy
  obtain ⟨hb0, hb1⟩ := hb
  have HB := Lib.hid (sub32_bits x y b hx0 hx1 hy0 hy1 hb0 hb1)
  go_enter Try.func49, Try.ntmps49
  go_wp2
  go_ret2
  refine ⟨?_, rfl⟩
  rw [← HB.out]
  rfl
end Go.Proofs.Ytemllpbpnndgeaa
