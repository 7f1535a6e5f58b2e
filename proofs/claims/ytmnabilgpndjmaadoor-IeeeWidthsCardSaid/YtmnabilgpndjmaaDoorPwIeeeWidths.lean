/- The law IeeeWidths: its walk. -/
import Derived.Test.YtmnabilgpndjmaaDoorPk2
import Derived.Test.YtmnabilgpndjmaaDoorPk3
import Derived.Test.YtmnabilgpndjmaaDoorPk13
import Derived.Test.YtmnabilgpndjmaaDoorPk24
set_option linter.unusedVariables false
set_option linter.unusedSimpArgs false
/- The law IeeeWidths: its walk out of the contracts of what it calls. (Printed by law4.py.) -/
namespace Go.Proofs.YtmnabilgpndjmaaDoor
open Go.RowKit


set_option maxRecDepth 20000 in
set_option maxHeartbeats 2000000 in
theorem walk_IeeeWidths (w : World) (hS : Shapes w) (hT : Tab w) (v0 : Int) (hv0 : 0 ≤ v0 ∧ v0 < 256) (k0 : Int) (hk0 : 0 ≤ k0 ∧ k0 < 256) (x : Int) (hx : 0 ≤ x ∧ x < 18446744073709551616) :
    Calls Tryd.prog 7 #[.int .u8 v0, .int .u8 k0, .int .u64 x] w (LawTrue w) := by
  have b0 : Below w.heap.size w w := Below.refl _ _
  go_enter Tryd.func7, Tryd.ntmps7
  have h := Lib.hid (lfit_calls k0 hk0 x hx w)
  go_wp2_with fail
  refine (h.out).mono ?_
  rintro e w' ⟨rfl, rfl⟩
  clear h
  have hx1 := fit_bd (wide_wd k0) x
  generalize x % 2 ^ wd k0 = x1 at *
  have hx2 : 0 ≤ x1 ∧ x1 < 18446744073709551616 := ⟨hx1.1, by have := pow_wide (wide_wd k0); omega⟩
  have h := Lib.hid (lto_calls v0 hv0 k0 hk0 w hS hT x1 hx1)
  go_wp2_with fail
  refine (h.out).mono ?_
  rintro e w2 ⟨rfl, b⟩
  clear h
  replace hS := hS.below b (Nat.le_refl _)
  replace hT := hT.below b (Nat.le_refl _)
  replace b0 := below_trans b0 b
  clear b
  have h := Lib.hid (lwidth_calls v0 hv0 w2)
  go_wp2_with fail
  refine (h.out).mono ?_
  rintro e w' ⟨rfl, rfl⟩
  clear h
  have h := Lib.hid (lwidth_calls k0 hk0 w2)
  go_wp2_with fail
  refine (h.out).mono ?_
  rintro e w' ⟨rfl, rfl⟩
  clear h
  have h := Lib.hid (rto_calls (wd v0) (wd k0) (wide_wd v0) (wide_wd k0) x1 hx2 w2)
  go_wp2_with fail
  refine (h.out).mono ?_
  rintro e w5 ⟨rfl, b⟩
  clear h
  replace hS := hS.below b (Nat.le_refl _)
  replace hT := hT.below b (Nat.le_refl _)
  replace b0 := below_trans b0 b
  clear b
  go_wp2_with fail
  go_ret
  exact ⟨rfl, b0⟩
end Go.Proofs.YtmnabilgpndjmaaDoor
