/- Contracts of functions, and plain facts, part 30. -/
import Derived.Deep.DeepCutAuto
import Derived.Test.YtmnabilgpndjmaaDoorPk8
import Derived.Test.YtmnabilgpndjmaaDoorPk11
import Derived.Test.YtmnabilgpndjmaaDoorPk12
import Derived.Test.YtmnabilgpndjmaaDoorPk18
import Derived.Test.YtmnabilgpndjmaaDoorPk29
set_option linter.unusedVariables false
set_option linter.unusedSimpArgs false
/- Printed by ieee3.py. -/
namespace Go.Proofs.YtmnabilgpndjmaaDoor
open Go.RowKit

set_option maxRecDepth 20000 in
set_option maxHeartbeats 2000000 in
theorem from_Own (w : World) (hS : Shapes w) (hT : Tab w) (ng : Bool) (ad : Option Addr) (n c : Nat) (V : Int) (h : Num w ad n c V) (hn : n ≤ 1099511627776) : Calls Tryd.prog 106 #[.agg #[.bool ng, .slice ad n c]] w (fun e w' => e = .returned (.tuple #[.int .u32 (fromW 32 (sI ng V)).1, .bool (fromW 32 (sI ng V)).2]) ∧ Below w.heap.size w w') := by
  have hV := h.nonneg
  have hlt := Lib.hid h.lt
  have b0 : Below w.heap.size w (w.alloc (.cells #[.bool ng, .slice ad n c] 48)) := (Below.refl _ _).alloc (Nat.le_refl _) _
  have k0 : Cel (w.alloc (.cells #[.bool ng, .slice ad n c] 48)) w.heap.size 48 [.bool ng, .slice ad n c] := Cel.made _ _ _ _ rfl
  have hw0 : w.heap.size < (w.alloc (.cells #[.bool ng, .slice ad n c] 48)).heap.size := by simp
  have HNm := Lib.hid (wnorm_calls ng ad n c V _ (h.below b0 (Nat.le_refl _)) (by omega))
  have HA := Lib.hid (sI_abs ng V hV)
  generalize sI ng V = N at *
  have HF := Lib.hid (show fromW 32 N = (roundW 32 (decide (N < 0)) N.natAbs 0 false, intOk 32 (roundW 32 (decide (N < 0)) N.natAbs 0 false) && decide ((intN 32 (roundW 32 (decide (N < 0)) N.natAbs 0 false)).natAbs = N.natAbs)) from rfl)
  have hy := roundW_bd (W := 32) (by unfold Wide; omega) (decide (N < 0)) N.natAbs 0 false
  rw [show (2 : Int) ^ 32 = 4294967296 from by decide] at hy
  have HI := Lib.hid (fun (w : World) (hS : Shapes w) (hT : Tab w) => iint_Own w hS hT (roundW 32 (decide (N < 0)) N.natAbs 0 false) hy)
  have HRd := Lib.hid (fun (w : World) (hS : Shapes w) (ad : Option Addr) (n c : Nat) (h : Num w ad n c N.natAbs) (hn : n ≤ 1099511627776) => round_Own w hS (decide (N < 0)) ad n c N.natAbs 0 false h hn (by omega))
  have HA2 := Lib.hid (show 0 ≤ (N.natAbs : Int) by omega)
  generalize fromW 32 N = R at *
  generalize roundW 32 (decide (N < 0)) N.natAbs 0 false = y at *
  have HZ := Lib.hid (intN_bd (W := 32) (by unfold Wide; omega) y)
  generalize intOk 32 y = iok at *
  generalize intN 32 y = Z at *
  have hz0 : w.heap.size ≤ w.heap.size := Nat.le_refl _
  go_enter Tryd.func106, Tryd.ntmps106
  go_wp2_with fail
  refine (HNm.out).mono ?_
  rintro e w1 ⟨ad1, n1, d1, rfl, f1, b1⟩
  have k1 := k0.next b1
  have l1 := f1.len_le n (by rw [HA.out]; exact hlt.out)
  have a1 := below_trans b0 b1
  have c0 := k1.cell 0 _ rfl
  have c1 := k1.cell 1 _ rfl
  have g0 := k1.free 0
  have g1 := k1.free 1
  have f2 := f1.poke2 k1 (.bool (decide (N < 0))) (.slice ad1 n1 d1)
  have k2 := (k1.set 0 (.bool (decide (N < 0)))).set 1 (.slice ad1 n1 d1)
  have a2 := below_set (below_set a1 w.heap.size 0 (.bool (decide (N < 0))) (Nat.le_refl _)) w.heap.size 1 (.slice ad1 n1 d1) (Nat.le_refl _)
  have hb : w.heap.size < w1.heap.size := k1.lt
  generalize hdn : decide (N < 0) = dn at *
  clear hdn
  go_upto_region 2 with (fail)
  clear c0 c1 g0 g1
  generalize (w1.setCell ⟨w.heap.size, 0, none⟩ (.bool dn)).setCell ⟨w.heap.size, 1, none⟩ (.slice ad1 n1 d1) = w2 at *
  have c0 := k2.cell 0 _ rfl
  have c1 := k2.cell 1 _ rfl
  have HR1 := Lib.hid (HRd.out w2 (hS.below a2 (Nat.le_refl _)) ad1 n1 d1 (f2.num HA2.out) (by omega))
  go_wp2_with fail
  refine (HR1.out).mono ?_
  rintro e w3 ⟨rfl, b3⟩
  have a3 := below_trans a2 b3
  have k3 := k2.next b3
  have f3 := f2.below b3 (Nat.le_refl _)
  clear c0 c1
  have HI1 := Lib.hid (HI.out w3 (hS.below a3 (Nat.le_refl _)) (hT.below a3 (Nat.le_refl _)))
  go_wp2_with fail
  refine (HI1.out).mono ?_
  rintro e w4 ⟨ad4, n4, d4, rfl, f4, b4⟩
  have a4 := below_trans a3 b4
  have k4 := k3.next b4
  have f5 := f3.below b4 (Nat.le_refl _)
  have l4 := f4.len_le (2 + 4097) HZ.out
  have bA : Below w4.heap.size w4 (w4.alloc (.cells #[.bool (decide (Z < 0)), .slice ad4 n4 d4] 48)) := (Below.refl _ _).alloc (Nat.le_refl _) _
  have a5 := below_trans a4 bA
  have k5 := k4.next bA
  have kz : Cel (w4.alloc (.cells #[.bool (decide (Z < 0)), .slice ad4 n4 d4] 48)) w4.heap.size 48 [.bool (decide (Z < 0)), .slice ad4 n4 d4] := Cel.made _ _ _ _ rfl
  have z1 := kz.cell 1 _ rfl
  have c1 := k5.cell 1 _ rfl
  have HCm := Lib.hid (num_cmp ad4 ad1 n4 n1 d4 d1 Z.natAbs N.natAbs _ ((f4.num (by omega)).below bA (Nat.le_refl _)) ((f5.num HA2.out).below bA (Nat.le_refl _)) (by omega) (by omega))
  cases iok
  · have HR := Lib.hid (show R = (y, false) by rw [HF.out]; rfl)
    clear HF HCm
    go_wp2
    go_ret2
    rw [HR.out]
    exact ⟨rfl, a5⟩
  · by_cases hzn : Z.natAbs = N.natAbs
    · have HR := Lib.hid (show R = (y, true) by rw [HF.out, decide_eq_true hzn]; rfl)
      rw [cmpI_eq (by rw [hzn])] at HCm
      clear HF hzn
      go_wp2_with fail
      refine (HCm.out).mono ?_
      rintro e w' ⟨rfl, q, rfl⟩
      go_wp2
      go_ret2
      rw [HR.out]
      exact ⟨rfl, below_drewN a5 _⟩
    · have HR := Lib.hid (show R = (y, false) by rw [HF.out, decide_eq_false hzn]; rfl)
      have hc : cmpI (Z.natAbs : Int) N.natAbs ≠ 0 := by
        unfold cmpI
        split
        · omega
        · split <;> omega
      generalize cmpI (Z.natAbs : Int) N.natAbs = C at *
      have hc2 : (C == 0) = false := by simpa using hc
      clear HF hzn hc
      go_wp2_with fail
      refine (HCm.out).mono ?_
      rintro e w' ⟨rfl, q, rfl⟩
      go_wp2
      go_ret2
      rw [HR.out]
      exact ⟨rfl, below_drewN a5 _⟩
end Go.Proofs.YtmnabilgpndjmaaDoor

/- Printed by law4.py. -/
namespace Go.Proofs.YtmnabilgpndjmaaDoor
open Go.RowKit

theorem lfrom_0 (w0 : Int) (hw : 0 ≤ w0 ∧ w0 < 256) (hc : w0 % 4 = 0) (w : World) (hS : Shapes w) (hT : Tab w) (ng : Bool) (ad : Option Addr) (n c : Nat) (V : Int) (h : Num w ad n c V) (hn : n ≤ 1099511627776) :
    Calls Tryd.prog 45 #[.int .u8 w0, .agg #[.bool ng, .slice ad n c]] w (fun e w' => e = .returned (.tuple #[.int .u64 (fromW 16 (sI ng V)).1, .bool (fromW 16 (sI ng V)).2]) ∧ Below w.heap.size w w') := by
  have b0 : Below w.heap.size w (w.alloc (.cells #[.bool ng, .slice ad n c] 48)) := (Below.refl _ _).alloc (Nat.le_refl _) _
  have k0 : Cel (w.alloc (.cells #[.bool ng, .slice ad n c] 48)) w.heap.size 48 [.bool ng, .slice ad n c] := Cel.made _ _ _ _ rfl
  have c0 := k0.cell 0 _ rfl
  have c1 := k0.cell 1 _ rfl
  have hc2 := tmod4 hw hc
  have H := Lib.hid (from_16 (w.alloc (.cells #[.bool ng, .slice ad n c] 48)) (hS.below b0 (Nat.le_refl _)) (hT.below b0 (Nat.le_refl _)) ng ad n c V (h.below b0 (Nat.le_refl _)) hn)
  have hR : 0 ≤ (fromW 16 (sI ng V)).1 ∧ (fromW 16 (sI ng V)).1 < 2 ^ 16 := roundW_bd (W := 16) (by unfold Wide; omega) _ _ _ _
  rw [show (2 : Int) ^ 16 = 65536 from by decide] at hR
  generalize (fromW 16 (sI ng V)).1 = R at *
  generalize (fromW 16 (sI ng V)).2 = ok at *
  have W1 : IntKind.u64.wrap R = R := by rw [IntKind.wrap_u64]; omega
  have V1 : R % 18446744073709551616 = R := by omega
  go_enter Tryd.func45, Tryd.ntmps45
  go_wp2_with fail
  refine (H.out).mono ?_
  rintro e w1 ⟨rfl, b1⟩
  go_wp2
  go_ret2
  exact ⟨rfl, below_trans b0 b1⟩

theorem lfrom_1 (w0 : Int) (hw : 0 ≤ w0 ∧ w0 < 256) (hc : w0 % 4 = 1) (w : World) (hS : Shapes w) (hT : Tab w) (ng : Bool) (ad : Option Addr) (n c : Nat) (V : Int) (h : Num w ad n c V) (hn : n ≤ 1099511627776) :
    Calls Tryd.prog 45 #[.int .u8 w0, .agg #[.bool ng, .slice ad n c]] w (fun e w' => e = .returned (.tuple #[.int .u64 (fromW 32 (sI ng V)).1, .bool (fromW 32 (sI ng V)).2]) ∧ Below w.heap.size w w') := by
  have b0 : Below w.heap.size w (w.alloc (.cells #[.bool ng, .slice ad n c] 48)) := (Below.refl _ _).alloc (Nat.le_refl _) _
  have k0 : Cel (w.alloc (.cells #[.bool ng, .slice ad n c] 48)) w.heap.size 48 [.bool ng, .slice ad n c] := Cel.made _ _ _ _ rfl
  have c0 := k0.cell 0 _ rfl
  have c1 := k0.cell 1 _ rfl
  have hc2 := tmod4 hw hc
  have H := Lib.hid (from_32 (w.alloc (.cells #[.bool ng, .slice ad n c] 48)) (hS.below b0 (Nat.le_refl _)) (hT.below b0 (Nat.le_refl _)) ng ad n c V (h.below b0 (Nat.le_refl _)) hn)
  have hR : 0 ≤ (fromW 32 (sI ng V)).1 ∧ (fromW 32 (sI ng V)).1 < 2 ^ 32 := roundW_bd (W := 32) (by unfold Wide; omega) _ _ _ _
  rw [show (2 : Int) ^ 32 = 4294967296 from by decide] at hR
  generalize (fromW 32 (sI ng V)).1 = R at *
  generalize (fromW 32 (sI ng V)).2 = ok at *
  have W1 : IntKind.u64.wrap R = R := by rw [IntKind.wrap_u64]; omega
  have V1 : R % 18446744073709551616 = R := by omega
  go_enter Tryd.func45, Tryd.ntmps45
  go_wp2_with fail
  refine (H.out).mono ?_
  rintro e w1 ⟨rfl, b1⟩
  go_wp2
  go_ret2
  exact ⟨rfl, below_trans b0 b1⟩

theorem lfrom_2 (w0 : Int) (hw : 0 ≤ w0 ∧ w0 < 256) (hc : w0 % 4 = 2) (w : World) (hS : Shapes w) (hT : Tab w) (ng : Bool) (ad : Option Addr) (n c : Nat) (V : Int) (h : Num w ad n c V) (hn : n ≤ 1099511627776) :
    Calls Tryd.prog 45 #[.int .u8 w0, .agg #[.bool ng, .slice ad n c]] w (fun e w' => e = .returned (.tuple #[.int .u64 (fromW 64 (sI ng V)).1, .bool (fromW 64 (sI ng V)).2]) ∧ Below w.heap.size w w') := by
  have b0 : Below w.heap.size w (w.alloc (.cells #[.bool ng, .slice ad n c] 48)) := (Below.refl _ _).alloc (Nat.le_refl _) _
  have k0 : Cel (w.alloc (.cells #[.bool ng, .slice ad n c] 48)) w.heap.size 48 [.bool ng, .slice ad n c] := Cel.made _ _ _ _ rfl
  have c0 := k0.cell 0 _ rfl
  have c1 := k0.cell 1 _ rfl
  have hc2 := tmod4 hw hc
  have H := Lib.hid (from_64 (w.alloc (.cells #[.bool ng, .slice ad n c] 48)) (hS.below b0 (Nat.le_refl _)) (hT.below b0 (Nat.le_refl _)) ng ad n c V (h.below b0 (Nat.le_refl _)) hn)
  have hR : 0 ≤ (fromW 64 (sI ng V)).1 ∧ (fromW 64 (sI ng V)).1 < 2 ^ 64 := roundW_bd (W := 64) (by unfold Wide; omega) _ _ _ _
  rw [show (2 : Int) ^ 64 = 18446744073709551616 from by decide] at hR
  generalize (fromW 64 (sI ng V)).1 = R at *
  generalize (fromW 64 (sI ng V)).2 = ok at *
  go_enter Tryd.func45, Tryd.ntmps45
  go_wp2_with fail
  refine (H.out).mono ?_
  rintro e w1 ⟨rfl, b1⟩
  go_wp2
  go_ret2
  exact ⟨rfl, below_trans b0 b1⟩

theorem lfrom_3 (w0 : Int) (hw : 0 ≤ w0 ∧ w0 < 256) (hc : w0 % 4 = 3) (w : World) (hS : Shapes w) (hT : Tab w) (ng : Bool) (ad : Option Addr) (n c : Nat) (V : Int) (h : Num w ad n c V) (hn : n ≤ 1099511627776) :
    Calls Tryd.prog 45 #[.int .u8 w0, .agg #[.bool ng, .slice ad n c]] w (fun e w' => e = .returned (.tuple #[.int .u64 (fromW 32 (sI ng V)).1, .bool (fromW 32 (sI ng V)).2]) ∧ Below w.heap.size w w') := by
  have b0 : Below w.heap.size w (w.alloc (.cells #[.bool ng, .slice ad n c] 48)) := (Below.refl _ _).alloc (Nat.le_refl _) _
  have k0 : Cel (w.alloc (.cells #[.bool ng, .slice ad n c] 48)) w.heap.size 48 [.bool ng, .slice ad n c] := Cel.made _ _ _ _ rfl
  have c0 := k0.cell 0 _ rfl
  have c1 := k0.cell 1 _ rfl
  have hc2 := tmod4 hw hc
  have H := Lib.hid (from_Own (w.alloc (.cells #[.bool ng, .slice ad n c] 48)) (hS.below b0 (Nat.le_refl _)) (hT.below b0 (Nat.le_refl _)) ng ad n c V (h.below b0 (Nat.le_refl _)) hn)
  have hR : 0 ≤ (fromW 32 (sI ng V)).1 ∧ (fromW 32 (sI ng V)).1 < 2 ^ 32 := roundW_bd (W := 32) (by unfold Wide; omega) _ _ _ _
  rw [show (2 : Int) ^ 32 = 4294967296 from by decide] at hR
  generalize (fromW 32 (sI ng V)).1 = R at *
  generalize (fromW 32 (sI ng V)).2 = ok at *
  have W1 : IntKind.u64.wrap R = R := by rw [IntKind.wrap_u64]; omega
  have V1 : R % 18446744073709551616 = R := by omega
  go_enter Tryd.func45, Tryd.ntmps45
  go_wp2_with fail
  refine (H.out).mono ?_
  rintro e w1 ⟨rfl, b1⟩
  go_wp2
  go_ret2
  exact ⟨rfl, below_trans b0 b1⟩

theorem lfrom_calls (w0 : Int) (hw : 0 ≤ w0 ∧ w0 < 256) (w : World) (hS : Shapes w) (hT : Tab w) (ng : Bool) (ad : Option Addr) (n c : Nat) (V : Int) (h : Num w ad n c V) (hn : n ≤ 1099511627776) :
    Calls Tryd.prog 45 #[.int .u8 w0, .agg #[.bool ng, .slice ad n c]] w (fun e w' => e = .returned (.tuple #[.int .u64 (fromW (wd w0) (sI ng V)).1, .bool (fromW (wd w0) (sI ng V)).2]) ∧ Below w.heap.size w w') := by
  rcases (show w0 % 4 = 0 ∨ w0 % 4 = 1 ∨ w0 % 4 = 2 ∨ w0 % 4 = 3 by omega) with hc | hc | hc | hc
  · simp only [wd_0 hc] at *
    exact lfrom_0 w0 hw hc w hS hT ng ad n c V h hn
  · simp only [wd_1 hc] at *
    exact lfrom_1 w0 hw hc w hS hT ng ad n c V h hn
  · simp only [wd_2 hc] at *
    exact lfrom_2 w0 hw hc w hS hT ng ad n c V h hn
  · simp only [wd_3 hc] at *
    exact lfrom_3 w0 hw hc w hS hT ng ad n c V h hn
end Go.Proofs.YtmnabilgpndjmaaDoor
