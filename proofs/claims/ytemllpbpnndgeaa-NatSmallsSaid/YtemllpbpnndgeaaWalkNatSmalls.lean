/- The law NatSmalls: its walk out of the contracts of what it calls. (Printed by law.py.) -/
import Derived.Test.YtemllpbpnndgeaaNum
import Derived.Test.YtemllpbpnndgeaaRow
import Derived.Test.YtemllpbpnndgeaaNSmall
import Derived.Test.YtemllpbpnndgeaaNRSmall
set_option linter.unusedVariables false
set_option linter.unusedSimpArgs false
namespace Go.Proofs.Ytemllpbpnndgeaa
open Go.RowKit


set_option maxHeartbeats 2000000 in
theorem walk_NatSmalls (w : World) (ada : Option Addr) (na ca : Nat) (xa : List Int) (hnca : na ≤ ca) (hna : na * 4 ≤ 140737488351232) (hra : Rds w .u32 ada na xa) (dxa : Dig 4294967296 xa) (d : Int) (hd : 0 ≤ d ∧ d < 4294967296) :
    Calls Try.prog 4 #[.slice ada na ca, .int .u32 d] w (LawTrue w) := by
  have hB := Lib.hid (beyond_calls w.heap.size 1 1 [na] (fun j => (ada, ca)) (w.alloc (.cells #[.slice ada na ca] 23)) rfl (by omega)
    (fun j => by rcases j with _ | j <;> simp <;> omega)
    (fun j hj => by rw [World.cell?_alloc_at _ _ _ _ rfl]; rcases j with _ | j <;> simp; omega))
  go_enter Try.func4, Try.ntmps4
  go_wp2_with fail
  refine (hB.out).mono ?_
  rintro e w' ⟨r, rfl, rfl, hp⟩
  have HP := Lib.hid hp
  clear hp hB
  have b0 : Below w.heap.size w (w.alloc (.cells #[.slice ada na ca] 23)) := (Below.refl _ _).alloc (Nat.le_refl _) _
  generalize w.alloc (.cells #[.slice ada na ca] 23) = w0 at *
  cases r
  · have hp : parts [na] ≤ 1048576 := HP.out rfl
    have hnm : na ≤ 1048575 := by simp [parts] at hp; omega
    clear hp HP
    have fa : Arg w0 ada na ca xa := Arg.below ⟨hnca, hra, dxa⟩ b0 (Nat.le_refl _)
    clear hra dxa
    have h := Lib.hid (num_twin ada na ca xa w0 fa (by omega))
    go_wp2_with fail
    refine (h.out).mono ?_
    rintro e w1 ⟨ta, rfl, ga, b⟩
    clear h
    replace fa := fa.below b (Nat.le_refl _)
    replace b0 := below_trans b0 b
    clear b
    by_cases hd0 : d = 0
    · subst hd0
      have h := Lib.hid (small_none (some ⟨ta, 0, none⟩) na (na + 1) w1)
      go_wp2_with fail
      refine (h.out).mono ?_
      rintro e w' ⟨rfl, rfl⟩
      clear h
      have h := Lib.hid (rsmall_none ada na ca w1)
      go_wp2_with fail
      refine (h.out).mono ?_
      rintro e w' ⟨rfl, rfl⟩
      clear h
      have fz : Can w1 none 0 0 0 := ⟨Nat.le_refl _, by rw [dg_zero]; exact Rds.nil _ _ _⟩
      have h := Lib.hid (num_same_true _ _ _ _ _ _ _ _ w1 fz fz rfl (by omega) (by omega))
      go_wp2_with fail
      refine (h.out).mono ?_
      rintro e w' ⟨rfl, q, rfl⟩
      have b := below_drewN (Below.refl w1.heap.size w1) q
      generalize w1.drewN q = w4 at *
      clear h
      replace fa := fa.below b (Nat.le_refl _)
      replace ga := ga.below b (Nat.le_refl _)
      replace b0 := below_trans b0 b
      clear b
      have h := Lib.hid (num_left ta ada na ca xa w4 ga fa (by omega))
      go_wp2_with fail
      refine (h.out).mono ?_
      rintro e w' ⟨rfl, q, rfl⟩
      have b := below_drewN (Below.refl w4.heap.size w4) q
      generalize w4.drewN q = w5 at *
      clear h
      replace fa := fa.below b (Nat.le_refl _)
      replace ga := ga.below b (Nat.le_refl _)
      replace b0 := below_trans b0 b
      clear b
      go_wp2_with fail
      go_ret
      exact ⟨rfl, b0⟩
    · have hd1 : 0 < d ∧ d < 4294967296 := by omega
      clear hd0
      have HQ := Lib.hid (Int.ediv_le_self d fa.nonneg)
      have h := Lib.hid (num_small _ _ _ _ _ w1 ga.num (by omega) hd1)
      go_wp2_with fail
      refine (h.out).mono ?_
      rintro e w2 ⟨adp, np, cp, rfl, fp, b⟩
      clear h
      replace fa := fa.below b (Nat.le_refl _)
      replace ga := ga.below b (Nat.le_refl _)
      replace b0 := below_trans b0 b
      clear b
      have h := Lib.hid (num_rsmall _ _ _ _ _ w2 fa.num (by omega) hd1)
      go_wp2_with fail
      refine (h.out).mono ?_
      rintro e w3 ⟨adq, nq, cq, rfl, fq, b⟩
      clear h
      replace fa := fa.below b (Nat.le_refl _)
      replace ga := ga.below b (Nat.le_refl _)
      replace fp := fp.below b (Nat.le_refl _)
      replace b0 := below_trans b0 b
      clear b
      have h := Lib.hid (num_same_true _ _ _ _ _ _ _ _ w3 fp fq rfl (by have := fp.len_le na (Int.lt_of_le_of_lt HQ.out fa.lt); omega) (by have := fq.len_le na (Int.lt_of_le_of_lt HQ.out fa.lt); omega))
      go_wp2_with fail
      refine (h.out).mono ?_
      rintro e w' ⟨rfl, q, rfl⟩
      have b := below_drewN (Below.refl w3.heap.size w3) q
      generalize w3.drewN q = w4 at *
      clear h
      replace fa := fa.below b (Nat.le_refl _)
      replace ga := ga.below b (Nat.le_refl _)
      replace fp := fp.below b (Nat.le_refl _)
      replace fq := fq.below b (Nat.le_refl _)
      replace b0 := below_trans b0 b
      clear b
      clear fp fq
      have h := Lib.hid (num_left ta ada na ca xa w4 ga fa (by omega))
      go_wp2_with fail
      refine (h.out).mono ?_
      rintro e w' ⟨rfl, q, rfl⟩
      have b := below_drewN (Below.refl w4.heap.size w4) q
      generalize w4.drewN q = w5 at *
      clear h
      replace fa := fa.below b (Nat.le_refl _)
      replace ga := ga.below b (Nat.le_refl _)
      replace b0 := below_trans b0 b
      clear b
      go_wp2_with fail
      go_ret
      exact ⟨rfl, b0⟩
  · go_wp2
    go_ret
    exact ⟨rfl, b0⟩
end Go.Proofs.Ytemllpbpnndgeaa
