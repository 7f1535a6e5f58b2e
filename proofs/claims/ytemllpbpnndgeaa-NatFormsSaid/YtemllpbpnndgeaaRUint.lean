/- crucibleref01.Uint: the number, if it is below 2 to the 64. -/
import Derived.Test.YtemllpbpnndgeaaBytes
import Derived.Test.YtemllpbpnndgeaaDigLen
set_option linter.unusedVariables false
set_option linter.unusedSimpArgs false
namespace Go.Proofs.Ytemllpbpnndgeaa
open Go.RowKit
theorem ruint_calls (ad : Option Addr) (n c : Nat) (la : List Int) (w : World) (hn : n ≤ 1099511627776) (hr : Rds w .u32 ad n la) (da : Dig 4294967296 la) :
    Calls Try.prog 21 #[.slice ad n c] w fun e w' => e = .returned (.tuple #[.int .u64 (low64 (val 4294967296 la)), .bool (fits64 (val 4294967296 la))]) ∧ Below w.heap.size w w' := by
  have l1 := bytes_len hr.len da
  have C1 := Lib.hid (bytes_calls ad n c la w (by omega) hr da)
  have V0 := val_nonneg (b := 4294967296) (by omega) da
  have vx := Lib.hid (val_dg 256 (by omega) (val 4294967296 la) V0)
  have hF : (dg 256 (val 4294967296 la)).length ≤ 8 ↔ val 4294967296 la < 18446744073709551616 := by have := dg_len_iff 256 (by omega) 8 (val 4294967296 la) V0; simpa using this
  have dx : Dig 256 (dg 256 (val 4294967296 la)) := dg_dig 256 (by omega) _
  clear hr da
  generalize dg 256 (val 4294967296 la) = xs at *
  generalize val 4294967296 la = V at *
  go_enter Try.func21, Try.ntmps21
  go_wp2_with fail
  refine (C1.out).mono ?_
  rintro e w1 ⟨xd, m, cx, rfl, ox, b1⟩
  have rx := ox.rds
  have HM := Lib.hid ox.len
  rw [HM.out] at l1 hF
  clear C1 ox
  by_cases h8 : m ≤ 8
  · have HV := hF.1 h8
    have HL := Lib.hid (show low64 V = V by unfold low64; rw [if_pos HV])
    have HB := Lib.hid (show fits64 V = true from decide_eq_true HV)
    clear hF HV
    go_wp2
    go_loop [6, 5] (fun i acc => ∃ j : Nat, j ≤ m ∧ i = .int .i64 ((j : Int) - 1) ∧ acc = .int .u64 (val 256 (xs.drop j))) (fun i _ => (intOf i + 1).toNat)
    case atStart => exact ⟨m, Nat.le_refl _, rfl, by rw [List.drop_of_length_le (by rw [HM.out]; exact Nat.le_refl _)]; rfl⟩
    case round =>
      obtain ⟨j, hj, rfl, rfl⟩ := hrel
      by_cases hj0 : 0 < j
      · obtain ⟨j, rfl⟩ : ∃ i, j = i + 1 := ⟨j - 1, by omega⟩
        obtain ⟨a, rfl, hxl⟩ := rx.cell j (by omega)
        have bx := dx.get (by omega) j
        have hs := Lib.hid (val_drop 256 xs j (by rw [HM.out]; omega))
        have b0 := val_nonneg (b := 256) (by omega) (dx.drop (j + 1))
        have b1' := val_lt (b := 256) (by omega) (dx.drop (j + 1))
        have b2 : val 256 (xs.drop (j + 1)) < 72057594037927936 := Int.lt_of_lt_of_le b1' (pow_le (b := 256) (by omega) (show (xs.drop (j + 1)).length ≤ 7 by rw [List.length_drop, HM.out]; omega))
        clear b1'
        have ej : (((j + 1 : Nat) : Int) - 1) = (j : Int) := by omega
        rw [ej]
        clear ej
        generalize xs[j]?.getD 0 = x at *
        generalize val 256 (xs.drop (j + 1)) = v at *
        go_wp2
        go_round
        case rel => exact ⟨j, by omega, rfl, by rw [hs.out]; congr 1; omega⟩
        case measure => simp [intOf]
      · obtain rfl : j = 0 := by omega
        have e0 : val 256 xs = V := vx.out
        have E0 := Lib.hid e0
        clear e0
        go_wp2
        go_ret2
        rw [HL.out, HB.out, ← E0.out]
        exact ⟨rfl, b1⟩
  · have HL := Lib.hid (show low64 V = 0 by unfold low64; rw [if_neg (fun h => h8 (hF.2 h))])
    have HB := Lib.hid (show fits64 V = false from decide_eq_false (fun h => h8 (hF.2 h)))
    clear hF
    have h3 : (8 : Int) < (m : Int) := by omega
    go_wp2
    go_ret2
    rw [HL.out, HB.out]
    exact ⟨rfl, b1⟩
end Go.Proofs.Ytemllpbpnndgeaa
