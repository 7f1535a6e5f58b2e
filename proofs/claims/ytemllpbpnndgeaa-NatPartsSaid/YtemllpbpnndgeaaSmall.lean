/- nat.Small: divided by a small number. -/
import Derived.Test.YtemllpbpnndgeaaCut
import Derived.Test.YtemllpbpnndgeaaBitsDiv
import Derived.Test.YtemllpbpnndgeaaAddMath
import Derived.Test.YtemllpbpnndgeaaRetLB
set_option linter.unusedVariables false
set_option linter.unusedSimpArgs false
namespace Go.Proofs.Ytemllpbpnndgeaa
open Go.RowKit

def SmallR (w : World) (xs : List Int) (d : Int) (n i : Nat) (r : Int) (wr : World) : Prop :=
  ∃ ys, Blk wr w.heap.size 28 .u32 ys ∧ ys.length = n ∧ Dig 4294967296 ys ∧ Below w.heap.size w wr ∧ 0 ≤ r ∧ r < d ∧
    val 4294967296 (xs.drop (n - i)) = val 4294967296 (ys.drop (n - i)) * d + r

set_option maxHeartbeats 1000000 in
theorem small_calls (ad : Option Addr) (n c : Nat) (xs : List Int) (d : Int) (w : World) (hn : n ≤ 70368744177664) (hr : Rds w .u32 ad n xs) (dx : Dig 4294967296 xs) (hd : 0 < d ∧ d < 4294967296) :
    Calls Try.prog 18 #[.slice ad n c, .int .u32 d] w (RetLNB 28 .u32 .u32 (dg 4294967296 (val 4294967296 xs / d)) (val 4294967296 xs % d) true w) := by
  obtain ⟨hd0, hd1⟩ := hd
  have HX := Lib.hid hr.len
  have hdd : (d == 0) = false := by simp; omega
  have hmk := make_rule (P := Try.prog) 23 28 .u32 4 Try.underlying23 info_limb (by omega) n (by omega) (n : Int) rfl
  have hr0 : SmallR w xs d n 0 0 (w.alloc (.cells (nums .u32 (List.replicate n 0)).toArray 28)) :=
    ⟨_, Blk.made _ _ _ _ _ rfl, by simp, Dig.replicate _ (by omega) _, (Below.refl _ _).alloc (Nat.le_refl _) _, by omega, by omega, by rw [Nat.sub_zero, List.drop_of_length_le (by rw [HX.out]; exact Nat.le_refl _), List.drop_of_length_le (by simp)]; simp [val]⟩
  go_enter Try.func18, Try.ntmps18
  go_wp2
  clear hmk
  go_loopw [17, 5] (fun i rr wr => ∃ k : Nat, ∃ r : Int, k ≤ n ∧ i = .int .i64 k ∧ rr = .int .u32 r ∧ SmallR w xs d n k r wr) (fun i _ _ => n - (intOf i).toNat)
  case atStart => exact ⟨0, 0, Nat.zero_le _, rfl, rfl, hr0⟩
  case round =>
    clear hr0
    obtain ⟨k, r, hk, rfl, rfl, ys, h1, h2, h3, h4, hr0, hr1, h5⟩ := hrel
    have H2 := Lib.hid h2
    have H5 := Lib.hid h5
    clear h2 h5
    by_cases hkn : k < n
    · obtain ⟨j, hj⟩ : ∃ j, j = n - 1 - k := ⟨_, rfl⟩
      have HJ := Lib.hid hj
      obtain ⟨a, rfl, hxl⟩ := (hr.below h4 (Nat.le_refl _)).cell j (by omega)
      have hf := h1.free j
      have hy := h1.cell j (by rw [H2.out]; omega)
      have bx := dx.get (by omega) j
      have hdv := Lib.hid (div32_calls r (xs[j]?.getD 0) d wr ⟨hr0, hr1⟩ bx ⟨hd0, hd1⟩)
      have Q1 : 0 ≤ (r * 4294967296 + xs[j]?.getD 0) / d := Int.ediv_nonneg (by omega) (by omega)
      have Q2 : (r * 4294967296 + xs[j]?.getD 0) / d < 4294967296 := by
        refine Int.ediv_lt_of_lt_mul hd0 ?_
        have h2 : (r + 1) * 4294967296 ≤ d * 4294967296 := Int.mul_le_mul_of_nonneg_right (by omega) (by omega)
        rw [Int.mul_comm d] at h2
        omega
      have Q3 : 0 ≤ (r * 4294967296 + xs[j]?.getD 0) % d := Int.emod_nonneg _ (by omega)
      have Q4 : (r * 4294967296 + xs[j]?.getD 0) % d < d := Int.emod_lt_of_pos _ hd0
      have S := small_step 4294967296 xs ys j (by rw [HX.out]; omega) (by rw [H2.out]; omega) d r _ ((r * 4294967296 + xs[j]?.getD 0) / d) ((r * 4294967296 + xs[j]?.getD 0) % d) rfl (by rw [Int.mul_ediv_add_emod]) (by rw [show j + 1 = n - k by omega]; exact H5.out)
      have HS := Lib.hid S
      clear S H5 hj
      have hj1 : (n : Int) - 1 - k = j := by have := HJ.out; omega
      generalize xs[j]?.getD 0 = x at *
      generalize (r * 4294967296 + x) / d = qq at *
      generalize (r * 4294967296 + x) % d = rr at *
      have hjn : j < n := by have := HJ.out; omega
      go_wp2_with fail
      refine (hdv.out).mono ?_
      rintro e w' ⟨rfl, q, rfl⟩
      have h1' := h1.drewN q
      have hf' := h1'.free j
      have hy' := h1'.cell j (by rw [H2.out]; omega)
      have h4' := below_drewN h4 q
      clear hdv h1 h4 hf hy hxl
      generalize wr.drewN q = w2 at *
      go_wp2
      go_roundw
      case rel =>
        refine ⟨k + 1, _, by omega, by go_num, rfl, _, h1'.set j _, by simp [H2.out], h3.set Q1 Q2 _, below_set h4' _ _ _ (Nat.le_refl _), Q3, Q4, ?_⟩
        rw [show n - (k + 1) = j by have := HJ.out; omega]
        exact HS.out
      case measure => simp [intOf]; omega
    · obtain rfl : k = n := by omega
      have hv : val 4294967296 xs = d * val 4294967296 ys + r := by have := H5.out; simp at this; rw [Int.mul_comm] at this; exact this
      have e1 : val 4294967296 ys = val 4294967296 xs / d := by rw [hv, Int.mul_add_ediv_left _ _ (by omega), Int.ediv_eq_zero_of_lt hr0 hr1, Int.add_zero]
      have e2 : r = val 4294967296 xs % d := by rw [hv, Int.mul_add_emod_self_left, Int.emod_eq_of_lt hr0 hr1]
      have E2 := Lib.hid e2
      have hcut := Lib.hid (cut_calls (some ⟨w.heap.size, 0, none⟩) k k _ wr (by omega) (Nat.le_refl _) (by have := h1.rds; rwa [H2.out] at this))
      have R := h1.ret (Nat.le_refl _) (by rw [H2.out]; omega) h3 _ e1 h4
      obtain ⟨rd, rn, rc, re, ro, rb⟩ := R
      have RE := Lib.hid re
      clear re e1 e2 hv
      go_wp2_with fail
      refine (hcut.out).mono ?_
      rintro e w' ⟨rfl, rfl⟩
      go_wp2_with fail
      go_ret3
      have re := RE.out
      injection re with re
      injection re with e1 e2 e3
      refine ⟨rd, rn, rc, ?_, ro, rb⟩
      rw [← e1, ← e2, ← e3, ← E2.out]
      rfl

theorem small_none (ad : Option Addr) (n c : Nat) (w : World) :
    Calls Try.prog 18 #[.slice ad n c, .int .u32 0] w fun e w' => e = .returned (.tuple #[.slice none 0 0, .int .u32 0, .bool false]) ∧ w = w' := by
  go_enter Try.func18, Try.ntmps18
  go_wp2
  go_ret3
  exact ⟨rfl, rfl⟩
end Go.Proofs.Ytemllpbpnndgeaa
