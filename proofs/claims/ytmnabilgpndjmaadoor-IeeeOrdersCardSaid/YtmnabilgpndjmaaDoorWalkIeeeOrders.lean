/- Printed by ieee2.py. -/
import Derived.Test.YtmnabilgpndjmaaDoorLawOrd
import Derived.Test.YtmnabilgpndjmaaDoorRow
set_option linter.unusedVariables false
set_option linter.unusedSimpArgs false
namespace Go.Proofs.YtmnabilgpndjmaaDoor
open Go.RowKit

/-- The law IeeeOrders: its walk. -/
theorem walk_IeeeOrders (w : World) (hS : Shapes w) (w0 : Int) (hw : 0 ≤ w0 ∧ w0 < 256) (x : Int) (hx : 0 ≤ x ∧ x < 18446744073709551616) (y : Int) (hy : 0 ≤ y ∧ y < 18446744073709551616) :
    Calls Tryd.prog 3 #[.int .u8 w0, .int .u64 x, .int .u64 y] w (LawTrue w) := by
  rcases (show w0 % 4 = 0 ∨ w0 % 4 = 1 ∨ w0 % 4 = 2 ∨ w0 % 4 = 3 by omega) with hc | hc | hc | hc
  · skip
    have F1 := Lib.hid (lfit_0 w0 hw hc x hx)
    have F2 := Lib.hid (lfit_0 w0 hw hc y hy)
    have W1 := Lib.hid (lwidth_0 w0 hw hc)
    have hx1 : 0 ≤ x % 65536 ∧ x % 65536 < 65536 := by omega
    have hy1 : 0 ≤ y % 65536 ∧ y % 65536 < 65536 := by omega
    generalize x % 65536 = x1 at *
    generalize y % 65536 = y1 at *
    have hx2 : 0 ≤ x1 ∧ x1 < 18446744073709551616 := by omega
    have hy2 : 0 ≤ y1 ∧ y1 < 18446744073709551616 := by omega
    have hWd : Wide 16 := by unfold Wide; omega
    have C1 := Lib.hid (fun (w : World) (hS : Shapes w) => lcmp_0 w0 hw hc w hS x1 y1 hx1 hy1)
    have C2 := Lib.hid (rcmp_w_calls 16 hWd x1 y1 hx2 hy2)
    have T1 := Lib.hid (fun (w : World) (hS : Shapes w) => ltotal_0 w0 hw hc w hS x1 y1 hx1 hy1)
    have T2 := Lib.hid (rtotal_calls 16 hWd x1 y1)
    have N1 := Lib.hid (fun (w : World) (hS : Shapes w) => lnext_0 w0 hw hc w hS x1 hx1)
    have N2 := Lib.hid (rnext_calls 16 hWd x1 hx1)
    have S0 := Lib.hid (C1.out w hS)
    clear C1 hc hWd
    generalize cmpW 16 x1 y1 = C at *
    generalize totalW 16 x1 y1 = T at *
    generalize nextW 16 x1 = N at *
    go_enter Tryd.func3, Tryd.ntmps3
    go_wp2_with fail
    refine (F1.out w).mono ?_
    rintro e w' ⟨rfl, rfl⟩
    go_wp2_with fail
    refine (F2.out w).mono ?_
    rintro e w' ⟨rfl, rfl⟩
    go_wp2_with fail
    refine (S0.out).mono ?_
    rintro e w1 ⟨rfl, b1⟩
    have hS1 := hS.below b1 (Nat.le_refl _)
    go_wp2_with fail
    refine (W1.out w1).mono ?_
    rintro e w' ⟨rfl, rfl⟩
    go_wp2_with fail
    refine (C2.out w1).mono ?_
    rintro e w2 ⟨rfl, b2⟩
    have hS2 := hS1.below b2 (Nat.le_refl _)
    have S2 := Lib.hid (T1.out w2 hS2)
    go_wp2_with fail
    refine (S2.out).mono ?_
    rintro e w3 ⟨rfl, b3⟩
    have hS3 := hS2.below b3 (Nat.le_refl _)
    go_wp2_with fail
    refine (W1.out w3).mono ?_
    rintro e w' ⟨rfl, rfl⟩
    go_wp2_with fail
    refine (T2.out w3).mono ?_
    rintro e w' ⟨rfl, rfl⟩
    have S3 := Lib.hid (N1.out w3 hS3)
    go_wp2_with fail
    refine (S3.out).mono ?_
    rintro e w4 ⟨rfl, b4⟩
    go_wp2_with fail
    refine (W1.out w4).mono ?_
    rintro e w' ⟨rfl, rfl⟩
    go_wp2_with fail
    refine (N2.out w4).mono ?_
    rintro e w5 ⟨rfl, b5⟩
    go_wp2
    go_ret
    exact ⟨rfl, below_trans b1 (below_trans b2 (below_trans b3 (below_trans b4 (b5))))⟩
  · skip
    have F1 := Lib.hid (lfit_1 w0 hw hc x hx)
    have F2 := Lib.hid (lfit_1 w0 hw hc y hy)
    have W1 := Lib.hid (lwidth_1 w0 hw hc)
    have hx1 : 0 ≤ x % 4294967296 ∧ x % 4294967296 < 4294967296 := by omega
    have hy1 : 0 ≤ y % 4294967296 ∧ y % 4294967296 < 4294967296 := by omega
    generalize x % 4294967296 = x1 at *
    generalize y % 4294967296 = y1 at *
    have hx2 : 0 ≤ x1 ∧ x1 < 18446744073709551616 := by omega
    have hy2 : 0 ≤ y1 ∧ y1 < 18446744073709551616 := by omega
    have hWd : Wide 32 := by unfold Wide; omega
    have C1 := Lib.hid (fun (w : World) (hS : Shapes w) => lcmp_1 w0 hw hc w hS x1 y1 hx1 hy1)
    have C2 := Lib.hid (rcmp_w_calls 32 hWd x1 y1 hx2 hy2)
    have T1 := Lib.hid (fun (w : World) (hS : Shapes w) => ltotal_1 w0 hw hc w hS x1 y1 hx1 hy1)
    have T2 := Lib.hid (rtotal_calls 32 hWd x1 y1)
    have N1 := Lib.hid (fun (w : World) (hS : Shapes w) => lnext_1 w0 hw hc w hS x1 hx1)
    have N2 := Lib.hid (rnext_calls 32 hWd x1 hx1)
    have S0 := Lib.hid (C1.out w hS)
    clear C1 hc hWd
    generalize cmpW 32 x1 y1 = C at *
    generalize totalW 32 x1 y1 = T at *
    generalize nextW 32 x1 = N at *
    go_enter Tryd.func3, Tryd.ntmps3
    go_wp2_with fail
    refine (F1.out w).mono ?_
    rintro e w' ⟨rfl, rfl⟩
    go_wp2_with fail
    refine (F2.out w).mono ?_
    rintro e w' ⟨rfl, rfl⟩
    go_wp2_with fail
    refine (S0.out).mono ?_
    rintro e w1 ⟨rfl, b1⟩
    have hS1 := hS.below b1 (Nat.le_refl _)
    go_wp2_with fail
    refine (W1.out w1).mono ?_
    rintro e w' ⟨rfl, rfl⟩
    go_wp2_with fail
    refine (C2.out w1).mono ?_
    rintro e w2 ⟨rfl, b2⟩
    have hS2 := hS1.below b2 (Nat.le_refl _)
    have S2 := Lib.hid (T1.out w2 hS2)
    go_wp2_with fail
    refine (S2.out).mono ?_
    rintro e w3 ⟨rfl, b3⟩
    have hS3 := hS2.below b3 (Nat.le_refl _)
    go_wp2_with fail
    refine (W1.out w3).mono ?_
    rintro e w' ⟨rfl, rfl⟩
    go_wp2_with fail
    refine (T2.out w3).mono ?_
    rintro e w' ⟨rfl, rfl⟩
    have S3 := Lib.hid (N1.out w3 hS3)
    go_wp2_with fail
    refine (S3.out).mono ?_
    rintro e w4 ⟨rfl, b4⟩
    go_wp2_with fail
    refine (W1.out w4).mono ?_
    rintro e w' ⟨rfl, rfl⟩
    go_wp2_with fail
    refine (N2.out w4).mono ?_
    rintro e w5 ⟨rfl, b5⟩
    go_wp2
    go_ret
    exact ⟨rfl, below_trans b1 (below_trans b2 (below_trans b3 (below_trans b4 (b5))))⟩
  · skip
    have F1 := Lib.hid (lfit_2 w0 hw hc x hx)
    have F2 := Lib.hid (lfit_2 w0 hw hc y hy)
    have W1 := Lib.hid (lwidth_2 w0 hw hc)
    have hx1 : 0 ≤ x % 18446744073709551616 ∧ x % 18446744073709551616 < 18446744073709551616 := by omega
    have hy1 : 0 ≤ y % 18446744073709551616 ∧ y % 18446744073709551616 < 18446744073709551616 := by omega
    generalize x % 18446744073709551616 = x1 at *
    generalize y % 18446744073709551616 = y1 at *
    have hx2 : 0 ≤ x1 ∧ x1 < 18446744073709551616 := by omega
    have hy2 : 0 ≤ y1 ∧ y1 < 18446744073709551616 := by omega
    have hWd : Wide 64 := by unfold Wide; omega
    have C1 := Lib.hid (fun (w : World) (hS : Shapes w) => lcmp_2 w0 hw hc w hS x1 y1 hx1 hy1)
    have C2 := Lib.hid (rcmp_w_calls 64 hWd x1 y1 hx2 hy2)
    have T1 := Lib.hid (fun (w : World) (hS : Shapes w) => ltotal_2 w0 hw hc w hS x1 y1 hx1 hy1)
    have T2 := Lib.hid (rtotal_calls 64 hWd x1 y1)
    have N1 := Lib.hid (fun (w : World) (hS : Shapes w) => lnext_2 w0 hw hc w hS x1 hx1)
    have N2 := Lib.hid (rnext_calls 64 hWd x1 hx1)
    have S0 := Lib.hid (C1.out w hS)
    clear C1 hc hWd
    generalize cmpW 64 x1 y1 = C at *
    generalize totalW 64 x1 y1 = T at *
    generalize nextW 64 x1 = N at *
    go_enter Tryd.func3, Tryd.ntmps3
    go_wp2_with fail
    refine (F1.out w).mono ?_
    rintro e w' ⟨rfl, rfl⟩
    go_wp2_with fail
    refine (F2.out w).mono ?_
    rintro e w' ⟨rfl, rfl⟩
    go_wp2_with fail
    refine (S0.out).mono ?_
    rintro e w1 ⟨rfl, b1⟩
    have hS1 := hS.below b1 (Nat.le_refl _)
    go_wp2_with fail
    refine (W1.out w1).mono ?_
    rintro e w' ⟨rfl, rfl⟩
    go_wp2_with fail
    refine (C2.out w1).mono ?_
    rintro e w2 ⟨rfl, b2⟩
    have hS2 := hS1.below b2 (Nat.le_refl _)
    have S2 := Lib.hid (T1.out w2 hS2)
    go_wp2_with fail
    refine (S2.out).mono ?_
    rintro e w3 ⟨rfl, b3⟩
    have hS3 := hS2.below b3 (Nat.le_refl _)
    go_wp2_with fail
    refine (W1.out w3).mono ?_
    rintro e w' ⟨rfl, rfl⟩
    go_wp2_with fail
    refine (T2.out w3).mono ?_
    rintro e w' ⟨rfl, rfl⟩
    have S3 := Lib.hid (N1.out w3 hS3)
    go_wp2_with fail
    refine (S3.out).mono ?_
    rintro e w4 ⟨rfl, b4⟩
    go_wp2_with fail
    refine (W1.out w4).mono ?_
    rintro e w' ⟨rfl, rfl⟩
    go_wp2_with fail
    refine (N2.out w4).mono ?_
    rintro e w5 ⟨rfl, b5⟩
    go_wp2
    go_ret
    exact ⟨rfl, below_trans b1 (below_trans b2 (below_trans b3 (below_trans b4 (b5))))⟩
  · skip
    have F1 := Lib.hid (lfit_3 w0 hw hc x hx)
    have F2 := Lib.hid (lfit_3 w0 hw hc y hy)
    have W1 := Lib.hid (lwidth_3 w0 hw hc)
    have hx1 : 0 ≤ x % 4294967296 ∧ x % 4294967296 < 4294967296 := by omega
    have hy1 : 0 ≤ y % 4294967296 ∧ y % 4294967296 < 4294967296 := by omega
    generalize x % 4294967296 = x1 at *
    generalize y % 4294967296 = y1 at *
    have hx2 : 0 ≤ x1 ∧ x1 < 18446744073709551616 := by omega
    have hy2 : 0 ≤ y1 ∧ y1 < 18446744073709551616 := by omega
    have hWd : Wide 32 := by unfold Wide; omega
    have C1 := Lib.hid (fun (w : World) (hS : Shapes w) => lcmp_3 w0 hw hc w hS x1 y1 hx1 hy1)
    have C2 := Lib.hid (rcmp_w_calls 32 hWd x1 y1 hx2 hy2)
    have T1 := Lib.hid (fun (w : World) (hS : Shapes w) => ltotal_3 w0 hw hc w hS x1 y1 hx1 hy1)
    have T2 := Lib.hid (rtotal_calls 32 hWd x1 y1)
    have N1 := Lib.hid (fun (w : World) (hS : Shapes w) => lnext_3 w0 hw hc w hS x1 hx1)
    have N2 := Lib.hid (rnext_calls 32 hWd x1 hx1)
    have S0 := Lib.hid (C1.out w hS)
    clear C1 hc hWd
    generalize cmpW 32 x1 y1 = C at *
    generalize totalW 32 x1 y1 = T at *
    generalize nextW 32 x1 = N at *
    go_enter Tryd.func3, Tryd.ntmps3
    go_wp2_with fail
    refine (F1.out w).mono ?_
    rintro e w' ⟨rfl, rfl⟩
    go_wp2_with fail
    refine (F2.out w).mono ?_
    rintro e w' ⟨rfl, rfl⟩
    go_wp2_with fail
    refine (S0.out).mono ?_
    rintro e w1 ⟨rfl, b1⟩
    have hS1 := hS.below b1 (Nat.le_refl _)
    go_wp2_with fail
    refine (W1.out w1).mono ?_
    rintro e w' ⟨rfl, rfl⟩
    go_wp2_with fail
    refine (C2.out w1).mono ?_
    rintro e w2 ⟨rfl, b2⟩
    have hS2 := hS1.below b2 (Nat.le_refl _)
    have S2 := Lib.hid (T1.out w2 hS2)
    go_wp2_with fail
    refine (S2.out).mono ?_
    rintro e w3 ⟨rfl, b3⟩
    have hS3 := hS2.below b3 (Nat.le_refl _)
    go_wp2_with fail
    refine (W1.out w3).mono ?_
    rintro e w' ⟨rfl, rfl⟩
    go_wp2_with fail
    refine (T2.out w3).mono ?_
    rintro e w' ⟨rfl, rfl⟩
    have S3 := Lib.hid (N1.out w3 hS3)
    go_wp2_with fail
    refine (S3.out).mono ?_
    rintro e w4 ⟨rfl, b4⟩
    go_wp2_with fail
    refine (W1.out w4).mono ?_
    rintro e w' ⟨rfl, rfl⟩
    go_wp2_with fail
    refine (N2.out w4).mono ?_
    rintro e w5 ⟨rfl, b5⟩
    go_wp2
    go_ret
    exact ⟨rfl, below_trans b1 (below_trans b2 (below_trans b3 (below_trans b4 (b5))))⟩
end Go.Proofs.YtmnabilgpndjmaaDoor
