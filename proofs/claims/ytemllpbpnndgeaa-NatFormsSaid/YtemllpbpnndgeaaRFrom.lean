/- crucibleref01.From: a small number as a list. -/
import Derived.Test.YtemllpbpnndgeaaBytes
set_option linter.unusedVariables false
set_option linter.unusedSimpArgs false
namespace Go.Proofs.Ytemllpbpnndgeaa
open Go.RowKit
def RFromR (w : World) (X : Int) (k : Nat) (x : Int) (v : Value) (wr : World) : Prop :=
  ∃ ad c ds, v = .slice ad k c ∧ App w.heap.size wr 3 .i64 ad k c ds ∧ Dig 256 ds ∧ Below w.heap.size w wr ∧ w.heap.size ≤ wr.heap.size ∧ 0 ≤ x ∧ x < 256 ^ (8 - k) ∧ val 256 ds + 256 ^ k * x = X
theorem rfrom_calls (X : Int) (w : World) (h0 : 0 ≤ X) (h1 : X < 18446744073709551616) :
    Calls Try.prog 25 #[.int .u64 X] w (RetL 28 .u32 (dg 4294967296 X) w) := by
  have hr0 : RFromR w X 0 X (.slice none 0 0) w := ⟨none, 0, [], rfl, App.nil _ _ _ _, Dig.nil _, Below.refl _ _, Nat.le_refl _, h0, h1, by simp [val]⟩
  have HX0 := Lib.hid h0
  have HX1 := Lib.hid h1
  clear h0 h1
  go_enter Try.func25, Try.ntmps25
  go_wp2
  go_loopw [0, 3] (fun x v wr => ∃ k : Nat, ∃ y : Int, k ≤ 8 ∧ x = .int .u64 y ∧ RFromR w X k y v wr) (fun x _ _ => (intOf x).toNat)
  case atStart => exact ⟨0, X, by omega, rfl, hr0⟩
  case round =>
    clear hr0
    obtain ⟨k, y, hk, rfl, ad, c, ds, rfl, g1, g2, g3, g4, g5, g6, g7⟩ := hrel
    have hlen := g1.len
    have HE := Lib.hid (bytes_step ds _ hlen y _ g5 g7)
    have gx : y < 18446744073709551616 := Int.lt_of_lt_of_le g6 (pow_le (b := 256) (by omega) (show 8 - k ≤ 8 by omega))
    have H6 := Lib.hid g6
    have H7 := Lib.hid g7
    clear hlen g7 g6
    by_cases hy : 0 < y
    · have hk8 : k < 8 := by
        rcases Nat.lt_or_ge k 8 with h | h
        · exact h
        · have := H6.out
          rw [show 8 - k = 0 by omega] at this
          simp at this
          omega
      go_wp2_with (at_builtin; refine app_one w.heap.size rfl (.tmp 6) (.tmp 10) 53 3 .i64 8 rfl Try.underlying53 info_int (by omega) ad k c ds (y % 256) rfl rfl g1 g3 g4 (by omega) ?_; intro ad3 c3 w3 k1 k2 k3)
      go_roundw
      case rel =>
        refine ⟨k + 1, _, by omega, rfl, ad3, c3, ds ++ [y % 256], rfl, k1, g2.append (Dig.cons (by omega) (by omega) (Dig.nil _)), k2, k3, by omega, ?_, HE.out⟩
        have := H6.out
        rw [show 8 - k = (8 - (k + 1)) + 1 by omega, Int.pow_succ] at this
        exact Int.ediv_lt_of_lt_mul (by omega) this
      case measure => simp [intOf]; omega
    · obtain rfl : y = 0 := by omega
      have HV := Lib.hid (show val 256 ds = X by have := H7.out; simpa using this)
      have hl := limbs_calls ad k c ds wr (by omega) g1.own.le g1.rds g2
      rw [HV.out] at hl
      go_wp2_with fail
      refine hl.mono ?_
      rintro e w' hr
      obtain ⟨rd, nr, cr, rfl, or, br⟩ := hr.after g3
      go_wp2_with fail
      go_ret
      exact ⟨_, _, _, rfl, or, br⟩
end Go.Proofs.Ytemllpbpnndgeaa
