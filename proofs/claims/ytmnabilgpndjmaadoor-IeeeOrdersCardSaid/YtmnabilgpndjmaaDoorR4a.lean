/- crucibleref04: Sign, two, Neg, Size. -/
import Derived.Test.YtmnabilgpndjmaaDoorProg
import Derived.Test.YtmnabilgpndjmaaDoorBase
import Derived.Test.YtmnabilgpndjmaaDoorShape
set_option linter.unusedVariables false
set_option linter.unusedSimpArgs false
namespace Go.Proofs.YtmnabilgpndjmaaDoor
open Go.RowKit

theorem two_grows (k n : Nat) (hn : n ≤ 63) (hk : k < n) : (2 * 2 ^ k : Int) % 18446744073709551616 = 2 ^ (k + 1) ∧ (0 : Int) ≤ 2 * 2 ^ k ∧ (2 * 2 ^ k : Int) < 18446744073709551616 := by
  have h1 : (2 : Int) ^ (k + 1) ≤ 2 ^ 63 := pow_le (by omega) (by omega)
  have h2 : (0 : Int) < 2 ^ k := Int.pow_pos (by omega)
  rw [Int.pow_succ] at h1 ⊢
  rw [show (2 : Int) ^ 63 = 9223372036854775808 from rfl] at h1
  omega

theorem rtwo_calls (n : Nat) (hn : n ≤ 63) (w : World) : Calls Tryd.prog 86 #[.int .i64 n] w (fun e w' => e = .returned (.int .u64 (2 ^ n)) ∧ w = w') := by
  go_enter Tryd.func86, Tryd.ntmps86
  go_wp2
  go_loop [3, 4] (fun x i => ∃ k : Nat, k ≤ n ∧ i = .int .i64 k ∧ x = .int .u64 (2 ^ k)) (fun _ i => n - (intOf i).toNat)
  case atStart => exact ⟨0, Nat.zero_le _, rfl, rfl⟩
  case round =>
    obtain ⟨k, hk, rfl, rfl⟩ := hrel
    by_cases hkn : k < n
    · have hg := two_grows k n hn hkn
      have W1 : IntKind.u64.wrap (2 * 2 ^ k) = 2 ^ (k + 1) := by rw [IntKind.wrap_u64]; exact hg.1
      have W2 := hg.1
      clear hg
      go_wp2
      go_round
      case rel => exact ⟨k + 1, by omega, by go_num, rfl⟩
      case measure => simp [intOf]; omega
    · obtain rfl : k = n := by omega
      go_wp2
      go_ret
      exact ⟨rfl, rfl⟩

theorem rsign_calls (W : Nat) (hW : Wide W) (w : World) : Calls Tryd.prog 69 #[.int .i64 W] w (fun e w' => e = .returned (.int .u64 (sgnW W)) ∧ w = w') := by
  have h1 : 1 ≤ W ∧ W ≤ 64 := by rcases hW with rfl | rfl | rfl <;> omega
  have HS := Lib.hid (show sgnW W = 2 ^ (W - 1) from rfl)
  clear hW
  go_enter Tryd.func69, Tryd.ntmps69
  go_wp2
  go_loop [3, 4] (fun x i => ∃ k : Nat, k + 1 ≤ W ∧ i = .int .i64 (k + 1) ∧ x = .int .u64 (2 ^ k)) (fun _ i => W - (intOf i).toNat)
  case atStart => exact ⟨0, by omega, rfl, rfl⟩
  case round =>
    obtain ⟨k, hk, rfl, rfl⟩ := hrel
    by_cases hkn : k + 1 < W
    · have hg := two_grows k (W - 1) (by omega) (by omega)
      have W1 : IntKind.u64.wrap (2 * 2 ^ k) = 2 ^ (k + 1) := by rw [IntKind.wrap_u64]; exact hg.1
      have W2 := hg.1
      have W3 : (k : Int) + 1 < W := by omega
      clear hg
      go_wp2
      go_round
      case rel => exact ⟨k + 1, by omega, by go_num, rfl⟩
      case measure => simp [intOf]; omega
    · have W3 : ¬ (k : Int) + 1 < W := by omega
      have HE := Lib.hid (show (2 : Int) ^ k = sgnW W by rw [HS.out, show W - 1 = k by omega])
      go_wp2
      go_ret
      rw [HE.out]
      exact ⟨rfl, rfl⟩

theorem rneg_calls (W : Nat) (hW : Wide W) (x : Int) (w : World) : Calls Tryd.prog 53 #[.int .i64 W, .int .u64 x] w (fun e w' => e = .returned (.bool (negW W x)) ∧ w = w') := by
  have h := Lib.hid (rsign_calls W hW w)
  go_enter Tryd.func53, Tryd.ntmps53
  go_wp2_with fail
  refine (h.out).mono ?_
  rintro e w' ⟨rfl, rfl⟩
  go_wp2
  go_ret
  exact ⟨rfl, rfl⟩

theorem rsize_calls (W : Nat) (hW : Wide W) (x : Int) (hx : 0 ≤ x ∧ x < 18446744073709551616) (w : World) : Calls Tryd.prog 54 #[.int .i64 W, .int .u64 x] w (fun e w' => e = .returned (.int .u64 (sizeW W x)) ∧ w = w') := by
  have h1 := Lib.hid (rneg_calls W hW x w)
  have h := Lib.hid (rsign_calls W hW w)
  have hs0 : 0 < sgnW W := Int.pow_pos (by omega)
  by_cases hx1 : sgnW W ≤ x
  · have HN := Lib.hid (show negW W x = true from decide_eq_true hx1)
    have HZ := Lib.hid (show x - sgnW W = sizeW W x by unfold sizeW; rw [if_pos hx1])
    generalize sgnW W = S at *
    have W1 : IntKind.u64.wrap (x - S) = x - S := by rw [IntKind.wrap_u64]; omega
    go_enter Tryd.func54, Tryd.ntmps54
    go_wp2_with fail
    refine (h1.out).mono ?_
    rintro e w' ⟨rfl, rfl⟩
    rw [HN.out]
    go_wp2_with fail
    refine (h.out).mono ?_
    rintro e w' ⟨rfl, rfl⟩
    go_wp2
    go_ret
    rw [← HZ.out]
    exact ⟨rfl, rfl⟩
  · have HN := Lib.hid (show negW W x = false from decide_eq_false hx1)
    have HZ := Lib.hid (show x = sizeW W x by unfold sizeW; rw [if_neg hx1])
    clear hx1
    go_enter Tryd.func54, Tryd.ntmps54
    go_wp2_with fail
    refine (h1.out).mono ?_
    rintro e w' ⟨rfl, rfl⟩
    rw [HN.out]
    go_wp2
    go_ret
    rw [← HZ.out]
    exact ⟨rfl, rfl⟩
end Go.Proofs.YtmnabilgpndjmaaDoor
