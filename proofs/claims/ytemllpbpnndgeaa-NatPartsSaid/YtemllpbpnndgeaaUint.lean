/- nat.Uint: the number, if it is below 2 to the 64. -/
import Derived.Test.YtemllpbpnndgeaaCut
import Derived.Test.YtemllpbpnndgeaaDigLen
set_option linter.unusedVariables false
set_option linter.unusedSimpArgs false
namespace Go.Proofs.Ytemllpbpnndgeaa
open Go.RowKit

theorem fits_len (xs : List Int) (dx : Dig 4294967296 xs) : (norm xs).length ≤ 2 ↔ val 4294967296 xs < 18446744073709551616 := by
  have h0 := val_nonneg (b := 4294967296) (by omega) dx
  have e := norm_eq 4294967296 (by omega) dx
  rw [e]
  have := dg_len_iff 4294967296 (by omega) 2 (val 4294967296 xs) h0
  simpa using this

theorem or_up (l h : Int) (hl : 0 ≤ l ∧ l < 4294967296) (hh : 0 ≤ h ∧ h < 4294967296) : bits .or .u64 l (h * 4294967296) = l + h * 4294967296 := by
  obtain ⟨h, rfl⟩ := Int.eq_ofNat_of_zero_le hh.1
  obtain ⟨l, rfl⟩ := Int.eq_ofNat_of_zero_le hl.1
  have e : ((h : Int) * 4294967296) = ((h * 4294967296 : Nat) : Int) := by simp
  rw [e, bits_or_u64_nat _ _ (by omega) (by omega), Nat.or_comm, nat_join 32 _ _ (by omega) (by omega)]
  omega
theorem or_zero64 (l : Int) (hl : 0 ≤ l ∧ l < 4294967296) : bits .or .u64 0 l = l := by
  obtain ⟨l, rfl⟩ := Int.eq_ofNat_of_zero_le hl.1
  have := bits_or_u64_nat 0 l (by omega) (by omega)
  simpa using this

set_option maxHeartbeats 400000 in
theorem uint_calls (ad : Option Addr) (n c : Nat) (la : List Int) (w : World) (hn : n ≤ 9223372036854775807) (hnc : n ≤ c) (hr : Rds w .u32 ad n la) (da : Dig 4294967296 la) :
    Calls Try.prog 20 #[.slice ad n c] w fun e w' => e = .returned (.tuple #[.int .u64 (low64 (val 4294967296 la)), .bool (fits64 (val 4294967296 la))]) ∧ w = w' := by
  have hc := Lib.hid (cut_calls ad n c la w (by omega) hnc hr)
  have rx := hr.norm
  have dx := norm_dig da
  have hF := fits_len la da
  have hma := norm_length_le la
  rw [hr.len] at hma
  rw [← val_norm 4294967296 la] at hF ⊢
  clear hr da
  generalize norm la = xs at *
  obtain ⟨m, hm⟩ : ∃ m, xs.length = m := ⟨_, rfl⟩
  rw [hm] at hc rx hF hma
  have HM := Lib.hid hm
  clear hm
  by_cases h2 : m ≤ 2
  · have HV := Lib.hid (hF.1 h2)
    have HL := Lib.hid (show low64 (val 4294967296 xs) = val 4294967296 xs by unfold low64; rw [if_pos HV.out])
    have HB := Lib.hid (show fits64 (val 4294967296 xs) = true from decide_eq_true HV.out)
    clear hF
    go_enter Try.func20, Try.ntmps20
    go_wp2_with fail
    refine (hc.out).mono ?_
    rintro e w' ⟨rfl, rfl⟩
    go_wp2_with fail
    go_loop [13, 4] (fun i acc => ∃ k : Nat, k ≤ m ∧ i = .int .i64 k ∧ acc = .int .u64 (val 4294967296 (xs.take k))) (fun i _ => m - (intOf i).toNat)
    case atStart => exact ⟨0, Nat.zero_le _, rfl, by simp [val]⟩
    case round =>
      obtain ⟨k, hk, rfl, rfl⟩ := hrel
      by_cases hkm : k < m
      · obtain ⟨a, rfl, hxl⟩ := rx.cell k hkm
        have bx := dx.get (by omega) k
        have hs := Lib.hid (val_take_succ' 4294967296 xs k)
        have b0 := val_nonneg (b := 4294967296) (by omega) (dx.take k)
        have b1 := val_lt (b := 4294967296) (by omega) (dx.take k)
        rw [List.length_take, HM.out, Nat.min_eq_left (by omega)] at b1
        generalize xs[k]?.getD 0 = x at *
        rcases (show k = 0 ∨ k = 1 by omega) with rfl | rfl
        · have B := or_zero64 x bx
          have hxl' : w.cell? a = some (.int .u32 x) := by simpa [Addr.add] using hxl
          have HS := Lib.hid (show val 4294967296 (xs.take (0 + 1)) = x by rw [hs.out]; simp [val])
          rw [show val 4294967296 (xs.take 0) = 0 by simp [val]]
          clear b0 b1 hs
          go_wp2
          go_round
          case rel => exact ⟨0 + 1, by omega, rfl, by rw [HS.out]⟩
          case measure => simp [intOf]; omega
        · simp only [Int.pow_one] at b1 hs
          have B := or_up (val 4294967296 (xs.take 1)) x ⟨b0, b1⟩ bx
          have hxl' : w.cell? ⟨a.block, a.off + 1, none⟩ = some (.int .u32 x) := by simpa [Addr.add] using hxl
          have HS := Lib.hid (show val 4294967296 (xs.take (1 + 1)) = val 4294967296 (xs.take 1) + x * 4294967296 by rw [hs.out, Int.mul_comm x])
          clear hs
          generalize val 4294967296 (xs.take 1) = v at *
          go_wp2
          go_round
          case rel => exact ⟨1 + 1, by omega, rfl, by rw [HS.out]⟩
          case measure => simp [intOf]; omega
      · obtain rfl : k = m := by omega
        have HT := Lib.hid (show val 4294967296 (xs.take k) = val 4294967296 xs by rw [← HM.out, List.take_length])
        go_wp2
        go_ret2
        rw [HL.out, HB.out, ← HT.out]
        exact ⟨rfl, rfl⟩
  · have HV := Lib.hid (fun h => h2 (hF.2 h))
    have HL := Lib.hid (show low64 (val 4294967296 xs) = 0 by unfold low64; rw [if_neg HV.out])
    have HB := Lib.hid (show fits64 (val 4294967296 xs) = false from decide_eq_false HV.out)
    clear hF
    have h3 : (2 : Int) < (m : Int) := by omega
    go_enter Try.func20, Try.ntmps20
    go_wp2_with fail
    refine (hc.out).mono ?_
    rintro e w' ⟨rfl, rfl⟩
    go_wp2
    go_ret2
    rw [HL.out, HB.out]
    exact ⟨rfl, rfl⟩
end Go.Proofs.Ytemllpbpnndgeaa
