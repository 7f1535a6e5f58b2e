/- crucibleref01.Small: divided by a small number. -/
import Derived.Test.YtemllpbpnndgeaaBytes
import Derived.Test.YtemllpbpnndgeaaSmall
set_option linter.unusedVariables false
set_option linter.unusedSimpArgs false
namespace Go.Proofs.Ytemllpbpnndgeaa
open Go.RowKit

def RSmallR (w : World) (xs : List Int) (d : Int) (n j : Nat) (r : Int) (wr : World) : Prop :=
  ∃ ys, Blk wr w.heap.size 3 .i64 ys ∧ ys.length = n ∧ Dig 256 ys ∧ Below w.heap.size w wr ∧ 0 ≤ r ∧ r < d ∧
    val 256 (xs.drop j) = val 256 (ys.drop j) * d + r

set_option maxHeartbeats 1000000 in
theorem rsmall_calls (ad : Option Addr) (n c : Nat) (la : List Int) (d : Int) (w : World) (hn : n ≤ 1099511627776) (hr : Rds w .u32 ad n la) (da : Dig 4294967296 la) (hd : 0 < d ∧ d < 4294967296) :
    Calls Try.prog 19 #[.slice ad n c, .int .u32 d] w (RetLNB 28 .u32 .u32 (dg 4294967296 (val 4294967296 la / d)) (val 4294967296 la % d) true w) := by
  obtain ⟨hd0, hd1⟩ := hd
  have hdd : (d == 0) = false := by simp; omega
  have l1 := bytes_len hr.len da
  have C1 := Lib.hid (bytes_calls ad n c la w (by omega) hr da)
  have vx := Lib.hid (val_dg 256 (by omega) (val 4294967296 la) (val_nonneg (by omega) da))
  have dx : Dig 256 (dg 256 (val 4294967296 la)) := dg_dig 256 (by omega) _
  clear hr
  generalize dg 256 (val 4294967296 la) = xs at *
  go_enter Try.func19, Try.ntmps19
  go_wp2_with fail
  refine (C1.out).mono ?_
  rintro e w1 ⟨xd, m, cx, rfl, ox, b1⟩
  have rx := ox.rds
  have HM := Lib.hid rx.len
  rw [HM.out] at l1
  clear C1 ox
  have hmk := make_rule (P := Try.prog) 53 3 .i64 8 Try.underlying53 info_int (by omega) m (by omega) (m : Int) rfl
  have hr0 : RSmallR w1 xs d m m 0 (w1.alloc (.cells (nums .i64 (List.replicate m 0)).toArray 3)) :=
    ⟨_, Blk.made _ _ _ _ _ rfl, by simp, Dig.replicate _ (by omega) _, (Below.refl _ _).alloc (Nat.le_refl _) _, by omega, by omega, by rw [List.drop_of_length_le (by rw [HM.out]; exact Nat.le_refl _), List.drop_of_length_le (by simp)]; simp [val]⟩
  go_wp2_with fail
  clear hmk
  go_loopw [10, 9] (fun i rr wr => ∃ j : Nat, ∃ r : Int, j ≤ m ∧ i = .int .i64 ((j : Int) - 1) ∧ rr = .int .i64 r ∧ RSmallR w1 xs d m j r wr) (fun i _ _ => (intOf i + 1).toNat)
  case atStart => exact ⟨m, 0, Nat.le_refl _, rfl, rfl, hr0⟩
  case round =>
    clear hr0
    obtain ⟨j, r, hj, rfl, rfl, ys, h1, h2, h3, h4, hr0, hr1, h5⟩ := hrel
    have H2 := Lib.hid h2
    have H5 := Lib.hid h5
    clear h2 h5
    by_cases hj0 : 0 < j
    · obtain ⟨j, rfl⟩ : ∃ i, j = i + 1 := ⟨j - 1, by omega⟩
      obtain ⟨a, rfl, hxl⟩ := (rx.below h4 (Nat.le_refl _)).cell j (by omega)
      have hf := h1.free j
      have hy := h1.cell j (by rw [H2.out]; omega)
      have bx := dx.get (by omega) j
      have Q1 : 0 ≤ (r * 256 + xs[j]?.getD 0) / d := Int.ediv_nonneg (by omega) (by omega)
      have Q2 : (r * 256 + xs[j]?.getD 0) / d < 256 := by
        refine Int.ediv_lt_of_lt_mul hd0 ?_
        have h2 : (r + 1) * 256 ≤ d * 256 := Int.mul_le_mul_of_nonneg_right (by omega) (by omega)
        rw [Int.mul_comm d] at h2
        omega
      have Q3 : 0 ≤ (r * 256 + xs[j]?.getD 0) % d := Int.emod_nonneg _ (by omega)
      have Q4 : (r * 256 + xs[j]?.getD 0) % d < d := Int.emod_lt_of_pos _ hd0
      have S := small_step 256 xs ys j (by rw [HM.out]; omega) (by rw [H2.out]; omega) d r _ ((r * 256 + xs[j]?.getD 0) / d) ((r * 256 + xs[j]?.getD 0) % d) rfl (by rw [Int.mul_ediv_add_emod]) H5.out
      have HS := Lib.hid S
      clear S H5
      have ej : (((j + 1 : Nat) : Int) - 1) = (j : Int) := by omega
      rw [ej]
      clear ej
      have T0 : 0 ≤ r * 256 + xs[j]?.getD 0 := by omega
      have T1 : r * 256 + xs[j]?.getD 0 ≤ 1099511627776 := by omega
      have T2 : 1 ≤ d := by omega
      have W2 := IntWalk.rem_in (r * 256 + xs[j]?.getD 0) d T0
      have W1 := IntWalk.i64_quo (r * 256 + xs[j]?.getD 0) d ⟨T0, by omega, T2⟩
      generalize xs[j]?.getD 0 = x at *
      go_wp2
      go_roundw
      case rel => exact ⟨j, _, by omega, rfl, rfl, _, h1.set j _, by simp [H2.out], h3.set Q1 Q2 _, below_set h4 _ _ _ (Nat.le_refl _), Q3, Q4, HS.out⟩
      case measure => simp [intOf]
    · obtain rfl : j = 0 := by omega
      have hv : val 256 xs = d * val 256 ys + r := by have := H5.out; simp at this; rw [Int.mul_comm] at this; exact this
      have e0 : val 256 xs = val 4294967296 la := vx.out
      rw [e0] at hv
      have E1 := Lib.hid (show val 256 ys = val 4294967296 la / d by rw [hv, Int.mul_add_ediv_left _ _ (by omega), Int.ediv_eq_zero_of_lt hr0 hr1, Int.add_zero])
      have E2 := Lib.hid (show r = val 4294967296 la % d by rw [hv, Int.mul_add_emod_self_left, Int.emod_eq_of_lt hr0 hr1])
      clear hv e0
      have hk := limbs_calls (some ⟨w1.heap.size, 0, none⟩) m m ys wr (by omega) (Nat.le_refl _) (by have := h1.rds; rwa [H2.out] at this) h3
      rw [E1.out] at hk
      go_wp2_with fail
      refine hk.mono ?_
      rintro e w' hr
      obtain ⟨rd, nr, cr, rfl, or, br⟩ := hr.after (below_trans b1 h4)
      go_wp2_with fail
      go_ret3
      refine ⟨rd, nr, cr, ?_, or, br⟩
      rw [← E2.out]
      rfl

theorem rsmall_none (ad : Option Addr) (n c : Nat) (w : World) :
    Calls Try.prog 19 #[.slice ad n c, .int .u32 0] w fun e w' => e = .returned (.tuple #[.slice none 0 0, .int .u32 0, .bool false]) ∧ w = w' := by
  go_enter Try.func19, Try.ntmps19
  go_wp2
  go_ret3
  exact ⟨rfl, rfl⟩
end Go.Proofs.Ytemllpbpnndgeaa
