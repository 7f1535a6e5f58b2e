/- The law IeeeParts: its walk. -/
import Derived.Test.YtmnabilgpndjmaaDoorPk2
import Derived.Test.YtmnabilgpndjmaaDoorPk3
import Derived.Test.YtmnabilgpndjmaaDoorPk8
import Derived.Test.YtmnabilgpndjmaaDoorPk11
import Derived.Test.YtmnabilgpndjmaaDoorPk12
import Derived.Test.YtmnabilgpndjmaaDoorPk13
set_option linter.unusedVariables false
set_option linter.unusedSimpArgs false
/- The law IeeeParts: its walk out of the contracts of what it calls. (Printed by law4.py.) -/
namespace Go.Proofs.YtmnabilgpndjmaaDoor
open Go.RowKit


set_option maxRecDepth 20000 in
set_option maxHeartbeats 2000000 in
theorem walk_IeeeParts (w : World) (hS : Shapes w) (hT : Tab w) (k0 : Int) (hk0 : 0 ≤ k0 ∧ k0 < 256) (x : Int) (hx : 0 ≤ x ∧ x < 18446744073709551616) :
    Calls Tryd.prog 5 #[.int .u8 k0, .int .u64 x] w (LawTrue w) := by
  have b0 : Below w.heap.size w w := Below.refl _ _
  go_enter Tryd.func5, Tryd.ntmps5
  have h := Lib.hid (lfit_calls k0 hk0 x hx w)
  go_wp2_with fail
  refine (h.out).mono ?_
  rintro e w' ⟨rfl, rfl⟩
  clear h
  have hx1 := fit_bd (wide_wd k0) x
  generalize x % 2 ^ wd k0 = x1 at *
  have hx2 : 0 ≤ x1 ∧ x1 < 18446744073709551616 := ⟨hx1.1, by have := pow_wide (wide_wd k0); omega⟩
  have h := Lib.hid (lparts_calls k0 hk0 w hS hT x1 hx1)
  go_wp2_with fail
  refine (h.out).mono ?_
  rintro e w2 ⟨rfl, b⟩
  clear h
  replace hS := hS.below b (Nat.le_refl _)
  replace hT := hT.below b (Nat.le_refl _)
  replace b0 := below_trans b0 b
  clear b
  have h := Lib.hid (lwidth_calls k0 hk0 w2)
  go_wp2_with fail
  refine (h.out).mono ?_
  rintro e w' ⟨rfl, rfl⟩
  clear h
  have h := Lib.hid (rparts_calls (wd k0) (wide_wd k0) x1 hx2 w2)
  go_wp2_with fail
  refine (h.out).mono ?_
  rintro e w4 ⟨rfl, b⟩
  clear h
  replace hS := hS.below b (Nat.le_refl _)
  replace hT := hT.below b (Nat.le_refl _)
  replace b0 := below_trans b0 b
  clear b
  have h := Lib.hid (lclass_calls k0 hk0 w4 hS x1 hx1)
  go_wp2_with fail
  refine (h.out).mono ?_
  rintro e w5 ⟨rfl, b⟩
  clear h
  replace hS := hS.below b (Nat.le_refl _)
  replace hT := hT.below b (Nat.le_refl _)
  replace b0 := below_trans b0 b
  clear b
  have h := Lib.hid (lwidth_calls k0 hk0 w5)
  go_wp2_with fail
  refine (h.out).mono ?_
  rintro e w' ⟨rfl, rfl⟩
  clear h
  have h := Lib.hid (rclass_calls (wd k0) (wide_wd k0) x1 hx2 w5)
  go_wp2_with fail
  refine (h.out).mono ?_
  rintro e w7 ⟨rfl, b⟩
  clear h
  replace hS := hS.below b (Nat.le_refl _)
  replace hT := hT.below b (Nat.le_refl _)
  replace b0 := below_trans b0 b
  clear b
  have hz := Lib.hid (intN_bd (wide_wd k0) x1)
  have h := Lib.hid (lwhole_calls k0 hk0 w7 hS hT x1 hx1)
  go_wp2_with fail
  refine (h.out).mono ?_
  rintro e w8 ⟨adp, np, cp, rfl, fp, b⟩
  clear h
  replace hS := hS.below b (Nat.le_refl _)
  replace hT := hT.below b (Nat.le_refl _)
  replace b0 := below_trans b0 b
  clear b
  have b : Below w8.heap.size w8 (w8.alloc (.cells #[.bool (decide (intN (wd k0) x1 < 0)), .slice adp np cp] 48)) := (Below.refl _ _).alloc (Nat.le_refl _) _
  have Kp : Cel (w8.alloc (.cells #[.bool (decide (intN (wd k0) x1 < 0)), .slice adp np cp] 48)) w8.heap.size 48 [.bool (decide (intN (wd k0) x1 < 0)), .slice adp np cp] := Cel.made _ _ _ _ rfl
  replace hS := hS.below b (Nat.le_refl _)
  replace hT := hT.below b (Nat.le_refl _)
  replace fp := fp.below b (Nat.le_refl _)
  replace b0 := below_trans b0 b
  clear b
  have h := Lib.hid (lwidth_calls k0 hk0 (w8.alloc (.cells #[.bool (decide (intN (wd k0) x1 < 0)), .slice adp np cp] 48)))
  go_wp2_with fail
  refine (h.out).mono ?_
  rintro e w' ⟨rfl, rfl⟩
  clear h
  have h := Lib.hid (rint_calls (wd k0) (wide_wd k0) x1 hx2 (w8.alloc (.cells #[.bool (decide (intN (wd k0) x1 < 0)), .slice adp np cp] 48)))
  go_wp2_with fail
  refine (h.out).mono ?_
  rintro e w10 ⟨adq, nq, cq, rfl, fq, b⟩
  clear h
  replace hS := hS.below b (Nat.le_refl _)
  replace hT := hT.below b (Nat.le_refl _)
  replace fp := fp.below b (Nat.le_refl _)
  replace Kp := Kp.next b
  replace b0 := below_trans b0 b
  clear b
  have b : Below w10.heap.size w10 (w10.alloc (.cells #[.bool (decide (intN (wd k0) x1 < 0)), .slice adq nq cq] 48)) := (Below.refl _ _).alloc (Nat.le_refl _) _
  have Kq : Cel (w10.alloc (.cells #[.bool (decide (intN (wd k0) x1 < 0)), .slice adq nq cq] 48)) w10.heap.size 48 [.bool (decide (intN (wd k0) x1 < 0)), .slice adq nq cq] := Cel.made _ _ _ _ rfl
  replace hS := hS.below b (Nat.le_refl _)
  replace hT := hT.below b (Nat.le_refl _)
  replace fp := fp.below b (Nat.le_refl _)
  replace Kp := Kp.next b
  replace fq := fq.below b (Nat.le_refl _)
  replace b0 := below_trans b0 b
  clear b
  have Kpx := Kp.cell 0 _ rfl
  have Kpy := Kp.cell 1 _ rfl
  have Kqx := Kq.cell 0 _ rfl
  have Kqy := Kq.cell 1 _ rfl
  have hs := sameInt_calls (decide (intN (wd k0) x1 < 0)) (decide (intN (wd k0) x1 < 0)) _ _ _ _ _ _ _ _ (w10.alloc (.cells #[.bool (decide (intN (wd k0) x1 < 0)), .slice adq nq cq] 48)) fp fq (by omega) (by omega) (by have := fp.len_le _ hz.out; omega) (by have := fq.len_le _ hz.out; omega)
  rw [beq_self_eq_true, Bool.true_and, decide_eq_true rfl] at hs
  have h := Lib.hid (hs)
  go_wp2_with fail
  refine (h.out).mono ?_
  rintro e w11 ⟨rfl, b⟩
  clear h
  replace hS := hS.below b (Nat.le_refl _)
  replace hT := hT.below b (Nat.le_refl _)
  replace fp := fp.below b (Nat.le_refl _)
  replace Kp := Kp.next b
  replace fq := fq.below b (Nat.le_refl _)
  replace Kq := Kq.next b
  replace b0 := below_trans b0 b
  clear b
  go_wp2_with fail
  go_ret
  exact ⟨rfl, b0⟩
end Go.Proofs.YtmnabilgpndjmaaDoor
