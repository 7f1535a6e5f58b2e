/- math/bits.Div32: two limbs divided by one that is greater than the high one. -/
import Derived.Test.YtemllpbpnndgeaaProg
import Derived.Test.YtemllpbpnndgeaaBase
import Derived.Deep.QuietTactic
import Derived.BigQuiet
set_option linter.unusedVariables false
set_option linter.unusedSimpArgs false
namespace Go.Proofs.Ytemllpbpnndgeaa
open Go.RowKit
theorem or_low (h l : Int) (hh : 0 ≤ h ∧ h < 4294967296) (hl : 0 ≤ l ∧ l < 4294967296) : bits .or .u64 (h * 4294967296) l = h * 4294967296 + l := by
  obtain ⟨h, rfl⟩ := Int.eq_ofNat_of_zero_le hh.1
  obtain ⟨l, rfl⟩ := Int.eq_ofNat_of_zero_le hl.1
  have e : ((h : Int) * 4294967296) = ((h * 4294967296 : Nat) : Int) := by simp
  rw [e, bits_or_u64_nat _ _ (by omega) (by omega), nat_join 32 _ _ (by omega) (by omega)]
  omega

theorem div32_calls (x y d : Int) (w : World) (hx : 0 ≤ x ∧ x < d) (hy : 0 ≤ y ∧ y < 4294967296) (hd : 0 < d ∧ d < 4294967296) :
    Calls Try.prog 45 #[.int .u32 x, .int .u32 y, .int .u32 d] w fun e w' =>
      e = .returned (.tuple #[.int .u32 ((x * 4294967296 + y) / d), .int .u32 ((x * 4294967296 + y) % d)]) ∧ ∃ q, w' = w.drewN q := by
  obtain ⟨hx0, hx1⟩ := hx
  obtain ⟨hy0, hy1⟩ := hy
  obtain ⟨hd0, hd1⟩ := hd
  have H := Lib.hid (or_low x y (by omega) (by omega))
  have Q1 : 0 ≤ (x * 4294967296 + y) / d := Int.ediv_nonneg (by omega) (by omega)
  have Q2 : (x * 4294967296 + y) / d < 4294967296 := by
    refine Int.ediv_lt_of_lt_mul hd0 ?_
    have : x * 4294967296 + y < (x + 1) * 4294967296 := by omega
    have h2 : (x + 1) * 4294967296 ≤ d * 4294967296 := Int.mul_le_mul_of_nonneg_right (by omega) (by omega)
    rw [Int.mul_comm] at h2
    omega
  have Q3 : 0 ≤ (x * 4294967296 + y) % d := Int.emod_nonneg _ (by omega)
  have Q4 : (x * 4294967296 + y) % d < 4294967296 := by
    have := Int.emod_lt_of_pos (x * 4294967296 + y) hd0
    omega
  have hdx : (d ≤ x) = False := by simp; omega
  have hd00 : (d != 0) = true := by simp; omega
  go_enter Try.func45, Try.ntmps45
  go_wp2
  rw [H.out]
  have V0 : 0 ≤ x * 4294967296 + y := by omega
  have V1 : x * 4294967296 + y ≤ 18446744073709551615 := by omega
  generalize hv : x * 4294967296 + y = v at *
  have HV := Lib.hid hv
  clear hv
  have hd3 : (d == 0) = false := by simp; omega
  have hd4 : ¬ d = 0 := by omega
  have W1 : IntKind.u64.wrap (v.tdiv d) = v / d := IntWalk.u64_quo _ _ (by omega)
  have W2 : v.tmod d = v % d := IntWalk.rem_in _ _ (by omega)
  have W3 : IntKind.u32.wrap (v / d) = v / d := IntWalk.u32_in _ (by omega)
  have W4 : IntKind.u32.wrap (v % d) = v % d := IntWalk.u32_in _ (by omega)
  have W5 : IntKind.u64.wrap (v % d) = v % d := IntWalk.u64_in _ (by omega)
  have W6 : IntKind.u64.wrap d = d := IntWalk.u64_in _ (by omega)
  go_quiet (fail)
  clear W1 W2 W3 W4 W5 W6
  go_wp2
  go_ret2
  rw [HV.out]
  exact ⟨rfl, _, rfl⟩
end Go.Proofs.Ytemllpbpnndgeaa
