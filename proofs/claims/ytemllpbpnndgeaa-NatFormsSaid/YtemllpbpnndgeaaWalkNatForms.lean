/- The law NatForms: its walk out of the contracts of what it calls. (Printed by law.py.) -/
import Derived.Test.YtemllpbpnndgeaaNum
import Derived.Test.YtemllpbpnndgeaaRow
import Derived.Test.YtemllpbpnndgeaaNUint
import Derived.Test.YtemllpbpnndgeaaNRUint
import Derived.Test.YtemllpbpnndgeaaNNorm
import Derived.Test.YtemllpbpnndgeaaNRNorm
import Derived.Test.YtemllpbpnndgeaaFrom
import Derived.Test.YtemllpbpnndgeaaRFrom
import Derived.Test.YtemllpbpnndgeaaNNLen
import Derived.Test.YtemllpbpnndgeaaNRLen
set_option linter.unusedVariables false
set_option linter.unusedSimpArgs false
namespace Go.Proofs.Ytemllpbpnndgeaa
open Go.RowKit


set_option maxHeartbeats 2000000 in
theorem walk_NatForms (w : World) (ada : Option Addr) (na ca : Nat) (xa : List Int) (hnca : na ≤ ca) (hna : na * 4 ≤ 140737488351232) (hra : Rds w .u32 ada na xa) (dxa : Dig 4294967296 xa) (x : Int) (hx : 0 ≤ x ∧ x < 18446744073709551616) :
    Calls Try.prog 5 #[.slice ada na ca, .int .u64 x] w (LawTrue w) := by
  have hB := Lib.hid (beyond_calls w.heap.size 1 1 [na] (fun j => (ada, ca)) (w.alloc (.cells #[.slice ada na ca] 23)) rfl (by omega)
    (fun j => by rcases j with _ | j <;> simp <;> omega)
    (fun j hj => by rw [World.cell?_alloc_at _ _ _ _ rfl]; rcases j with _ | j <;> simp; omega))
  go_enter Try.func5, Try.ntmps5
  go_wp2_with fail
  refine (hB.out).mono ?_
  rintro e w' ⟨r, rfl, rfl, hp⟩
  have HP := Lib.hid hp
  clear hp hB
  have b0 : Below w.heap.size w (w.alloc (.cells #[.slice ada na ca] 23)) := (Below.refl _ _).alloc (Nat.le_refl _) _
  generalize w.alloc (.cells #[.slice ada na ca] 23) = w0 at *
  cases r
  · have hp : parts [na] ≤ 1048576 := HP.out rfl
    have hnm : na ≤ 1048575 := by simp [parts] at hp; omega
    clear hp HP
    have fa : Arg w0 ada na ca xa := Arg.below ⟨hnca, hra, dxa⟩ b0 (Nat.le_refl _)
    clear hra dxa
    have h := Lib.hid (num_twin ada na ca xa w0 fa (by omega))
    go_wp2_with fail
    refine (h.out).mono ?_
    rintro e w1 ⟨ta, rfl, ga, b⟩
    clear h
    replace fa := fa.below b (Nat.le_refl _)
    replace b0 := below_trans b0 b
    clear b
    have h := Lib.hid (num_uint _ _ _ _ w1 ga.num (by omega))
    go_wp2_with fail
    refine (h.out).mono ?_
    rintro e w' ⟨rfl, rfl⟩
    clear h
    have h := Lib.hid (num_ruint _ _ _ _ w1 fa.num (by omega))
    go_wp2_with fail
    refine (h.out).mono ?_
    rintro e w3 ⟨rfl, b⟩
    clear h
    replace fa := fa.below b (Nat.le_refl _)
    replace ga := ga.below b (Nat.le_refl _)
    replace b0 := below_trans b0 b
    clear b
    have h := Lib.hid (num_norm _ _ _ _ w3 ga.num (by omega))
    go_wp2_with fail
    refine (h.out).mono ?_
    rintro e w4 ⟨adp, np, cp, rfl, fp, b⟩
    clear h
    replace fa := fa.below b (Nat.le_refl _)
    replace ga := ga.below b (Nat.le_refl _)
    replace b0 := below_trans b0 b
    clear b
    have h := Lib.hid (num_rnorm _ _ _ _ w4 fa.num (by omega))
    go_wp2_with fail
    refine (h.out).mono ?_
    rintro e w5 ⟨adq, nq, cq, rfl, fq, b⟩
    clear h
    replace fa := fa.below b (Nat.le_refl _)
    replace ga := ga.below b (Nat.le_refl _)
    replace fp := fp.below b (Nat.le_refl _)
    replace b0 := below_trans b0 b
    clear b
    have h := Lib.hid (num_same_true _ _ _ _ _ _ _ _ w5 fp fq rfl (by have := fp.len_le na fa.lt; omega) (by have := fq.len_le na fa.lt; omega))
    go_wp2_with fail
    refine (h.out).mono ?_
    rintro e w' ⟨rfl, q, rfl⟩
    have b := below_drewN (Below.refl w5.heap.size w5) q
    generalize w5.drewN q = w6 at *
    clear h
    replace fa := fa.below b (Nat.le_refl _)
    replace ga := ga.below b (Nat.le_refl _)
    replace fp := fp.below b (Nat.le_refl _)
    replace fq := fq.below b (Nat.le_refl _)
    replace b0 := below_trans b0 b
    clear b
    clear fp fq
    have h := Lib.hid ((from_calls x w6 hx.1 hx.2).mono fun e w' q => q.can)
    go_wp2_with fail
    refine (h.out).mono ?_
    rintro e w7 ⟨adp, np, cp, rfl, fp, b⟩
    clear h
    replace fa := fa.below b (Nat.le_refl _)
    replace ga := ga.below b (Nat.le_refl _)
    replace b0 := below_trans b0 b
    clear b
    have h := Lib.hid ((rfrom_calls x w7 hx.1 hx.2).mono fun e w' q => q.can)
    go_wp2_with fail
    refine (h.out).mono ?_
    rintro e w8 ⟨adq, nq, cq, rfl, fq, b⟩
    clear h
    replace fa := fa.below b (Nat.le_refl _)
    replace ga := ga.below b (Nat.le_refl _)
    replace fp := fp.below b (Nat.le_refl _)
    replace b0 := below_trans b0 b
    clear b
    have h := Lib.hid (num_same_true _ _ _ _ _ _ _ _ w8 fp fq rfl (by have := fp.len_le 2 (Int.lt_of_lt_of_le hx.2 (by decide)); omega) (by have := fq.len_le 2 (Int.lt_of_lt_of_le hx.2 (by decide)); omega))
    go_wp2_with fail
    refine (h.out).mono ?_
    rintro e w' ⟨rfl, q, rfl⟩
    have b := below_drewN (Below.refl w8.heap.size w8) q
    generalize w8.drewN q = w9 at *
    clear h
    replace fa := fa.below b (Nat.le_refl _)
    replace ga := ga.below b (Nat.le_refl _)
    replace fp := fp.below b (Nat.le_refl _)
    replace fq := fq.below b (Nat.le_refl _)
    replace b0 := below_trans b0 b
    clear b
    clear fp fq
    have h := Lib.hid (num_len _ _ _ _ w9 ga.num (by omega))
    go_wp2_with fail
    refine (h.out).mono ?_
    rintro e w' ⟨rfl, rfl⟩
    clear h
    have h := Lib.hid (num_rlen _ _ _ _ w9 fa.num (by omega))
    go_wp2_with fail
    refine (h.out).mono ?_
    rintro e w11 ⟨rfl, b⟩
    clear h
    replace fa := fa.below b (Nat.le_refl _)
    replace ga := ga.below b (Nat.le_refl _)
    replace b0 := below_trans b0 b
    clear b
    have h := Lib.hid (num_left ta ada na ca xa w11 ga fa (by omega))
    go_wp2_with fail
    refine (h.out).mono ?_
    rintro e w' ⟨rfl, q, rfl⟩
    have b := below_drewN (Below.refl w11.heap.size w11) q
    generalize w11.drewN q = w12 at *
    clear h
    replace fa := fa.below b (Nat.le_refl _)
    replace ga := ga.below b (Nat.le_refl _)
    replace b0 := below_trans b0 b
    clear b
    go_wp2_with fail
    go_ret
    exact ⟨rfl, b0⟩
  · go_wp2
    go_ret
    exact ⟨rfl, b0⟩
end Go.Proofs.Ytemllpbpnndgeaa
