/- crucibleref01.Len: how many bits it has. -/
import Derived.Test.YtemllpbpnndgeaaBytes
import Derived.Test.YtemllpbpnndgeaaNLen
set_option linter.unusedVariables false
set_option linter.unusedSimpArgs false
namespace Go.Proofs.Ytemllpbpnndgeaa
open Go.RowKit
theorem rlen_calls (ad : Option Addr) (n c : Nat) (la : List Int) (w : World) (hn : n ≤ 1099511627776) (hr : Rds w .u32 ad n la) (da : Dig 4294967296 la) :
    Calls Try.prog 27 #[.slice ad n c] w fun e w' => e = .returned (.int .i64 (bitsOf (val 4294967296 la))) ∧ Below w.heap.size w w' := by
  have l1 := bytes_len hr.len da
  have C1 := Lib.hid (bytes_calls ad n c la w (by omega) hr da)
  have V0 := val_nonneg (b := 4294967296) (by omega) da
  have vx := Lib.hid (val_dg 256 (by omega) (val 4294967296 la) V0)
  have nx := Lib.hid (norm_dg 256 (by omega) (val 4294967296 la))
  have dx : Dig 256 (dg 256 (val 4294967296 la)) := dg_dig 256 (by omega) _
  clear hr da
  generalize dg 256 (val 4294967296 la) = xs at *
  generalize val 4294967296 la = V at *
  go_enter Try.func27, Try.ntmps27
  go_wp2_with fail
  refine (C1.out).mono ?_
  rintro e w1 ⟨xd, m, cx, rfl, ox, b1⟩
  have rx := ox.rds
  have HM := Lib.hid ox.len
  rw [HM.out] at l1
  clear C1 ox
  by_cases h0 : m = 0
  · subst h0
    have HB := Lib.hid (show bitsOf V = 0 by
      have e : xs = [] := List.eq_nil_of_length_eq_zero HM.out
      have e0 : val 256 xs = V := vx.out
      rw [← e0, e]
      rfl)
    go_wp2
    go_ret
    rw [HB.out]
    exact ⟨rfl, b1⟩
  · obtain ⟨t, rfl⟩ : ∃ t, m = t + 1 := ⟨m - 1, by omega⟩
    have bx := dx.get (by omega) t
    have HB := Lib.hid (show bitsOf V = 8 * (t : Int) + (blen (xs[t]?.getD 0).toNat : Nat) by
      have e0 : val 256 xs = V := vx.out
      unfold bitsOf
      rw [← e0, blen_list 8 256 (by decide) xs dx nx.out t HM.out]
      simp)
    clear h0
    obtain ⟨a, rfl, hxl⟩ := rx.cell t (by omega)
    generalize xs[t]?.getD 0 = x at *
    have hmm : ((((t + 1 : Nat) : Int)) == 0) = false := by simp; omega
    go_wp2
    go_loop [4, 5] (fun s p => ∃ q : Int, ∃ y : Int, 0 ≤ y ∧ y ≤ x ∧ 0 ≤ q ∧ q ≤ 8 * (t : Int) + x ∧ s = .int .i64 q ∧ p = .int .i64 y ∧ Hid (q + (blen y.toNat : Nat) = bitsOf V) ∧ Hid (q + y ≤ 8 * (t : Int) + x)) (fun _ p => (intOf p).toNat)
    case atStart => exact ⟨8 * (t : Int), x, by omega, by omega, by omega, by omega, rfl, rfl, HB.out.symm, Int.le_refl _⟩
    case round =>
      obtain ⟨q, y, hy0, hy1, hq0, hq1, rfl, rfl, hs, hs2⟩ := hrel
      by_cases hy : 0 < y
      · have HS := Lib.hid (show (q + 1) + (blen (y / 2).toNat : Nat) = bitsOf V by
          have := hs.out
          rw [blen_half y.toNat (by omega)] at this
          rw [show (y / 2).toNat = y.toNat / 2 by omega]
          omega)
        have h3 := hs2.out
        go_wp2
        go_round
        case rel => exact ⟨q + 1, y / 2, by omega, by omega, by omega, by omega, rfl, rfl, HS.out, by show q + 1 + y / 2 ≤ _; omega⟩
        case measure => simp [intOf]; omega
      · obtain rfl : y = 0 := by omega
        have HS := Lib.hid (show q = bitsOf V by have := hs.out; simpa [blen] using this)
        clear HB hs
        go_wp2
        go_ret
        rw [← HS.out]
        exact ⟨rfl, b1⟩
end Go.Proofs.Ytemllpbpnndgeaa
