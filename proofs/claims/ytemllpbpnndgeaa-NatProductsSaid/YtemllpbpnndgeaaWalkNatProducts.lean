/- The law NatProducts: its walk out of the contracts of what it calls. (Printed by law.py.) -/
import Derived.Test.YtemllpbpnndgeaaNum
import Derived.Test.YtemllpbpnndgeaaRow
import Derived.Test.YtemllpbpnndgeaaNMul
import Derived.Test.YtemllpbpnndgeaaNRMul
set_option linter.unusedVariables false
set_option linter.unusedSimpArgs false
namespace Go.Proofs.Ytemllpbpnndgeaa
open Go.RowKit


set_option maxHeartbeats 2000000 in
theorem walk_NatProducts (w : World) (ada : Option Addr) (na ca : Nat) (xa : List Int) (hnca : na ≤ ca) (hna : na * 4 ≤ 140737488351232) (hra : Rds w .u32 ada na xa) (dxa : Dig 4294967296 xa) (adb : Option Addr) (nb cb : Nat) (xb : List Int) (hncb : nb ≤ cb) (hnb : nb * 4 ≤ 140737488351232) (hrb : Rds w .u32 adb nb xb) (dxb : Dig 4294967296 xb) :
    Calls Try.prog 3 #[.slice ada na ca, .slice adb nb cb] w (LawTrue w) := by
  have hB := Lib.hid (beyond_calls w.heap.size 2 2 [na, nb] (fun j => if j = 0 then (ada, ca) else (adb, cb)) (w.alloc (.cells #[.slice ada na ca, .slice adb nb cb] 23)) rfl (by omega)
    (fun j => by rcases j with _ | _ | j <;> simp <;> omega)
    (fun j hj => by rw [World.cell?_alloc_at _ _ _ _ rfl]; rcases j with _ | _ | j <;> simp; omega))
  go_enter Try.func3, Try.ntmps3
  go_wp2_with fail
  refine (hB.out).mono ?_
  rintro e w' ⟨r, rfl, rfl, hp⟩
  have HP := Lib.hid hp
  clear hp hB
  have b0 : Below w.heap.size w (w.alloc (.cells #[.slice ada na ca, .slice adb nb cb] 23)) := (Below.refl _ _).alloc (Nat.le_refl _) _
  generalize w.alloc (.cells #[.slice ada na ca, .slice adb nb cb] 23) = w0 at *
  cases r
  · have hp : parts [na, nb] ≤ 1048576 := HP.out rfl
    have hnm : na + nb ≤ 1048574 := by simp [parts] at hp; omega
    clear hp HP
    have fa : Arg w0 ada na ca xa := Arg.below ⟨hnca, hra, dxa⟩ b0 (Nat.le_refl _)
    clear hra dxa
    have fb : Arg w0 adb nb cb xb := Arg.below ⟨hncb, hrb, dxb⟩ b0 (Nat.le_refl _)
    clear hrb dxb
    have h := Lib.hid (num_twin ada na ca xa w0 fa (by omega))
    go_wp2_with fail
    refine (h.out).mono ?_
    rintro e w1 ⟨ta, rfl, ga, b⟩
    clear h
    replace fa := fa.below b (Nat.le_refl _)
    replace fb := fb.below b (Nat.le_refl _)
    replace b0 := below_trans b0 b
    clear b
    have h := Lib.hid (num_twin adb nb cb xb w1 fb (by omega))
    go_wp2_with fail
    refine (h.out).mono ?_
    rintro e w2 ⟨tb, rfl, gb, b⟩
    clear h
    replace fa := fa.below b (Nat.le_refl _)
    replace fb := fb.below b (Nat.le_refl _)
    replace ga := ga.below b (Nat.le_refl _)
    replace b0 := below_trans b0 b
    clear b
    have h := Lib.hid (num_mul _ _ _ _ _ _ _ _ w2 ga.num gb.num (by omega) (by omega))
    go_wp2_with fail
    refine (h.out).mono ?_
    rintro e w3 ⟨adp, np, cp, rfl, fp, b⟩
    clear h
    replace fa := fa.below b (Nat.le_refl _)
    replace fb := fb.below b (Nat.le_refl _)
    replace ga := ga.below b (Nat.le_refl _)
    replace gb := gb.below b (Nat.le_refl _)
    replace b0 := below_trans b0 b
    clear b
    have h := Lib.hid (num_rmul _ _ _ _ _ _ _ _ w3 fa.num fb.num (by omega) (by omega))
    go_wp2_with fail
    refine (h.out).mono ?_
    rintro e w4 ⟨adq, nq, cq, rfl, fq, b⟩
    clear h
    replace fa := fa.below b (Nat.le_refl _)
    replace fb := fb.below b (Nat.le_refl _)
    replace ga := ga.below b (Nat.le_refl _)
    replace gb := gb.below b (Nat.le_refl _)
    replace fp := fp.below b (Nat.le_refl _)
    replace b0 := below_trans b0 b
    clear b
    have h := Lib.hid (num_same_true _ _ _ _ _ _ _ _ w4 fp fq rfl (by have := fp.len_le (na + nb) (pow_mul_lt _ _ _ _ fa.nonneg fb.nonneg fa.lt fb.lt); omega) (by have := fq.len_le (na + nb) (pow_mul_lt _ _ _ _ fa.nonneg fb.nonneg fa.lt fb.lt); omega))
    go_wp2_with fail
    refine (h.out).mono ?_
    rintro e w' ⟨rfl, q, rfl⟩
    have b := below_drewN (Below.refl w4.heap.size w4) q
    generalize w4.drewN q = w5 at *
    clear h
    replace fa := fa.below b (Nat.le_refl _)
    replace fb := fb.below b (Nat.le_refl _)
    replace ga := ga.below b (Nat.le_refl _)
    replace gb := gb.below b (Nat.le_refl _)
    replace fp := fp.below b (Nat.le_refl _)
    replace fq := fq.below b (Nat.le_refl _)
    replace b0 := below_trans b0 b
    clear b
    clear fp fq
    have h := Lib.hid (num_mul _ _ _ _ _ _ _ _ w5 ga.num ga.num (by omega) (by omega))
    go_wp2_with fail
    refine (h.out).mono ?_
    rintro e w6 ⟨adp, np, cp, rfl, fp, b⟩
    clear h
    replace fa := fa.below b (Nat.le_refl _)
    replace fb := fb.below b (Nat.le_refl _)
    replace ga := ga.below b (Nat.le_refl _)
    replace gb := gb.below b (Nat.le_refl _)
    replace b0 := below_trans b0 b
    clear b
    have h := Lib.hid (num_rmul _ _ _ _ _ _ _ _ w6 fa.num fa.num (by omega) (by omega))
    go_wp2_with fail
    refine (h.out).mono ?_
    rintro e w7 ⟨adq, nq, cq, rfl, fq, b⟩
    clear h
    replace fa := fa.below b (Nat.le_refl _)
    replace fb := fb.below b (Nat.le_refl _)
    replace ga := ga.below b (Nat.le_refl _)
    replace gb := gb.below b (Nat.le_refl _)
    replace fp := fp.below b (Nat.le_refl _)
    replace b0 := below_trans b0 b
    clear b
    have h := Lib.hid (num_same_true _ _ _ _ _ _ _ _ w7 fp fq rfl (by have := fp.len_le (na + na) (pow_mul_lt _ _ _ _ fa.nonneg fa.nonneg fa.lt fa.lt); omega) (by have := fq.len_le (na + na) (pow_mul_lt _ _ _ _ fa.nonneg fa.nonneg fa.lt fa.lt); omega))
    go_wp2_with fail
    refine (h.out).mono ?_
    rintro e w' ⟨rfl, q, rfl⟩
    have b := below_drewN (Below.refl w7.heap.size w7) q
    generalize w7.drewN q = w8 at *
    clear h
    replace fa := fa.below b (Nat.le_refl _)
    replace fb := fb.below b (Nat.le_refl _)
    replace ga := ga.below b (Nat.le_refl _)
    replace gb := gb.below b (Nat.le_refl _)
    replace fp := fp.below b (Nat.le_refl _)
    replace fq := fq.below b (Nat.le_refl _)
    replace b0 := below_trans b0 b
    clear b
    clear fp fq
    have h := Lib.hid (num_left ta ada na ca xa w8 ga fa (by omega))
    go_wp2_with fail
    refine (h.out).mono ?_
    rintro e w' ⟨rfl, q, rfl⟩
    have b := below_drewN (Below.refl w8.heap.size w8) q
    generalize w8.drewN q = w9 at *
    clear h
    replace fa := fa.below b (Nat.le_refl _)
    replace fb := fb.below b (Nat.le_refl _)
    replace ga := ga.below b (Nat.le_refl _)
    replace gb := gb.below b (Nat.le_refl _)
    replace b0 := below_trans b0 b
    clear b
    have h := Lib.hid (num_left tb adb nb cb xb w9 gb fb (by omega))
    go_wp2_with fail
    refine (h.out).mono ?_
    rintro e w' ⟨rfl, q, rfl⟩
    have b := below_drewN (Below.refl w9.heap.size w9) q
    generalize w9.drewN q = w10 at *
    clear h
    replace fa := fa.below b (Nat.le_refl _)
    replace fb := fb.below b (Nat.le_refl _)
    replace ga := ga.below b (Nat.le_refl _)
    replace gb := gb.below b (Nat.le_refl _)
    replace b0 := below_trans b0 b
    clear b
    go_wp2_with fail
    go_ret
    exact ⟨rfl, b0⟩
  · go_wp2
    go_ret
    exact ⟨rfl, b0⟩
end Go.Proofs.Ytemllpbpnndgeaa
