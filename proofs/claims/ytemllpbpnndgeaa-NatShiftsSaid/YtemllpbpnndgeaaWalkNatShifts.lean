/- The law NatShifts: its walk out of the contracts of what it calls. (Printed by law.py.) -/
import Derived.Test.YtemllpbpnndgeaaNum
import Derived.Test.YtemllpbpnndgeaaRow
import Derived.Test.YtemllpbpnndgeaaNShl
import Derived.Test.YtemllpbpnndgeaaNShr
import Derived.Test.YtemllpbpnndgeaaNRShl
import Derived.Test.YtemllpbpnndgeaaNRShr
set_option linter.unusedVariables false
set_option linter.unusedSimpArgs false
namespace Go.Proofs.Ytemllpbpnndgeaa
open Go.RowKit

theorem shl_short {w : World} {ad : Option Addr} {m c : Nat} (V n : Int) (hV : 0 ≤ V) (h : Can w ad m c (shlNum V n)) : m ≤ 262146 := by
  by_cases hok : shlOk V n = true
  · have h1 := of_decide_eq_true hok
    rw [show shlNum V n = V * 2 ^ n.toNat by unfold shlNum; rw [if_pos hok]] at h
    rcases h1.2 with h2 | h2
    · rw [h2, Int.zero_mul] at h
      have := h.zero
      omega
    · obtain ⟨v, rfl⟩ := Int.eq_ofNat_of_zero_le hV
      rw [Int.toNat_natCast] at h2
      have h3 := blen_lt v
      have h4 : ((v : Int)) * 2 ^ n.toNat < 4294967296 ^ ((blen v + n.toNat) / 32 + 1) := by
        have h5 : (v : Int) < 2 ^ blen v := by
          have : ((2 ^ blen v : Nat) : Int) = 2 ^ blen v := by simp
          omega
        have h6 : (v : Int) * 2 ^ n.toNat < 2 ^ (blen v + n.toNat) := by
          rw [Int.pow_add]
          exact Int.mul_lt_mul_of_pos_right h5 (Int.pow_pos (by omega))
        have h7 : (4294967296 : Int) ^ ((blen v + n.toNat) / 32 + 1) = 2 ^ (32 * ((blen v + n.toNat) / 32 + 1)) := by rw [Int.pow_mul]; rfl
        rw [h7]
        exact Int.lt_of_lt_of_le h6 (pow_le (by omega) (by omega))
      have := h.len_le _ h4
      omega
  · rw [show shlNum V n = 0 by unfold shlNum; rw [if_neg hok]] at h
    have := h.zero
    omega
theorem shr_small (V n : Int) (hV : 0 ≤ V) : shrNum V n ≤ V := by
  unfold shrNum
  split
  · exact Int.ediv_le_self _ hV
  · exact hV

set_option maxHeartbeats 2000000 in
theorem walk_NatShifts (w : World) (ada : Option Addr) (na ca : Nat) (xa : List Int) (hnca : na ≤ ca) (hna : na * 4 ≤ 140737488351232) (hra : Rds w .u32 ada na xa) (dxa : Dig 4294967296 xa) (n : Int) (hn : -9223372036854775808 ≤ n ∧ n < 9223372036854775808) :
    Calls Try.prog 6 #[.slice ada na ca, .int .i64 n] w (LawTrue w) := by
  have hB := Lib.hid (beyond_calls w.heap.size 1 1 [na] (fun j => (ada, ca)) (w.alloc (.cells #[.slice ada na ca] 23)) rfl (by omega)
    (fun j => by rcases j with _ | j <;> simp <;> omega)
    (fun j hj => by rw [World.cell?_alloc_at _ _ _ _ rfl]; rcases j with _ | j <;> simp; omega))
  go_enter Try.func6, Try.ntmps6
  go_wp2_with fail
  refine (hB.out).mono ?_
  rintro e w' ⟨r, rfl, rfl, hp⟩
  have HP := Lib.hid hp
  clear hp hB
  have b0 : Below w.heap.size w (w.alloc (.cells #[.slice ada na ca] 23)) := (Below.refl _ _).alloc (Nat.le_refl _) _
  generalize w.alloc (.cells #[.slice ada na ca] 23) = w0 at *
  cases r
  · have hp : parts [na] ≤ 1048576 := HP.out rfl
    have hnm : na ≤ 1048575 := by simp [parts] at hp; omega
    clear hp HP
    have fa : Arg w0 ada na ca xa := Arg.below ⟨hnca, hra, dxa⟩ b0 (Nat.le_refl _)
    clear hra dxa
    have Za := Lib.hid fa.nonneg
    have Ta := Lib.hid fa.lt
    have la : na ≤ na := Nat.le_refl _
    have h := Lib.hid (num_twin ada na ca xa w0 fa (by omega))
    go_wp2_with fail
    refine (h.out).mono ?_
    rintro e w1 ⟨ta, rfl, ga, b⟩
    clear h
    replace fa := fa.below b (Nat.le_refl _)
    replace b0 := below_trans b0 b
    clear b
    have h := Lib.hid (num_shl _ _ _ _ n w1 ga.num (by omega) hn)
    go_wp2_with fail
    refine (h.out).mono ?_
    rintro e w2 ⟨adp, np, cp, rfl, fp, b⟩
    clear h
    replace fa := fa.below b (Nat.le_refl _)
    replace ga := ga.below b (Nat.le_refl _)
    replace b0 := below_trans b0 b
    clear b
    have lp := shl_short _ _ Za.out fp
    have h := Lib.hid (num_rshl _ _ _ _ n w2 fa.num (by omega) hn)
    go_wp2_with fail
    refine (h.out).mono ?_
    rintro e w3 ⟨adq, nq, cq, rfl, fq, b⟩
    clear h
    replace fa := fa.below b (Nat.le_refl _)
    replace ga := ga.below b (Nat.le_refl _)
    replace fp := fp.below b (Nat.le_refl _)
    replace b0 := below_trans b0 b
    clear b
    have lq := shl_short _ _ Za.out fq
    have h := Lib.hid (num_shr _ _ _ _ n w3 ga.num (by omega) hn)
    go_wp2_with fail
    refine (h.out).mono ?_
    rintro e w4 ⟨adx, nx, cx, rfl, fx, b⟩
    clear h
    replace fa := fa.below b (Nat.le_refl _)
    replace ga := ga.below b (Nat.le_refl _)
    replace fp := fp.below b (Nat.le_refl _)
    replace fq := fq.below b (Nat.le_refl _)
    replace b0 := below_trans b0 b
    clear b
    have lx := fx.len_le na (Int.lt_of_le_of_lt (shr_small _ n Za.out) Ta.out)
    have h := Lib.hid (num_rshr _ _ _ _ n w4 fa.num (by omega) hn)
    go_wp2_with fail
    refine (h.out).mono ?_
    rintro e w5 ⟨ady, ny, cy, rfl, fy, b⟩
    clear h
    replace fa := fa.below b (Nat.le_refl _)
    replace ga := ga.below b (Nat.le_refl _)
    replace fp := fp.below b (Nat.le_refl _)
    replace fq := fq.below b (Nat.le_refl _)
    replace fx := fx.below b (Nat.le_refl _)
    replace b0 := below_trans b0 b
    clear b
    have ly := fy.len_le na (Int.lt_of_le_of_lt (shr_small _ n Za.out) Ta.out)
    have h := Lib.hid (num_same_true _ _ _ _ _ _ _ _ w5 fp fq (rfl) (by omega) (by omega))
    go_wp2_with fail
    refine (h.out).mono ?_
    rintro e w' ⟨rfl, q, rfl⟩
    have b := below_drewN (Below.refl w5.heap.size w5) q
    generalize w5.drewN q = w6 at *
    clear h
    replace fa := fa.below b (Nat.le_refl _)
    replace ga := ga.below b (Nat.le_refl _)
    replace fp := fp.below b (Nat.le_refl _)
    replace fq := fq.below b (Nat.le_refl _)
    replace fx := fx.below b (Nat.le_refl _)
    replace fy := fy.below b (Nat.le_refl _)
    replace b0 := below_trans b0 b
    clear b
    have h := Lib.hid (num_same_true _ _ _ _ _ _ _ _ w6 fx fy (rfl) (by omega) (by omega))
    go_wp2_with fail
    refine (h.out).mono ?_
    rintro e w' ⟨rfl, q, rfl⟩
    have b := below_drewN (Below.refl w6.heap.size w6) q
    generalize w6.drewN q = w7 at *
    clear h
    replace fa := fa.below b (Nat.le_refl _)
    replace ga := ga.below b (Nat.le_refl _)
    replace fp := fp.below b (Nat.le_refl _)
    replace fq := fq.below b (Nat.le_refl _)
    replace fx := fx.below b (Nat.le_refl _)
    replace fy := fy.below b (Nat.le_refl _)
    replace b0 := below_trans b0 b
    clear b
    have h := Lib.hid (num_left ta ada na ca xa w7 ga fa (by omega))
    go_wp2_with fail
    refine (h.out).mono ?_
    rintro e w' ⟨rfl, q, rfl⟩
    have b := below_drewN (Below.refl w7.heap.size w7) q
    generalize w7.drewN q = w8 at *
    clear h
    replace fa := fa.below b (Nat.le_refl _)
    replace ga := ga.below b (Nat.le_refl _)
    replace fp := fp.below b (Nat.le_refl _)
    replace fq := fq.below b (Nat.le_refl _)
    replace fx := fx.below b (Nat.le_refl _)
    replace fy := fy.below b (Nat.le_refl _)
    replace b0 := below_trans b0 b
    clear b
    go_wp2_with fail
    go_ret
    exact ⟨rfl, b0⟩
  · go_wp2
    go_ret
    exact ⟨rfl, b0⟩
end Go.Proofs.Ytemllpbpnndgeaa
