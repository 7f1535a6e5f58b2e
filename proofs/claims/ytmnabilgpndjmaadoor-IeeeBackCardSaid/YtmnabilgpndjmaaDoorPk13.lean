/- Contracts of functions, and plain facts, part 13. -/
import Derived.Test.YtmnabilgpndjmaaDoorPk11
import Derived.Test.YtmnabilgpndjmaaDoorPk12
set_option linter.unusedVariables false
set_option linter.unusedSimpArgs false
/- Printed by law4.py. -/
namespace Go.Proofs.YtmnabilgpndjmaaDoor
open Go.RowKit

theorem lfit_0 (w0 : Int) (hw : 0 ≤ w0 ∧ w0 < 256) (hc : w0 % 4 = 0) (x : Int) (hx : 0 ≤ x ∧ x < 18446744073709551616) (w : World) : Calls Tryd.prog 14 #[.int .u8 w0, .int .u64 x] w (fun e w' => e = .returned (.int .u64 (x % 2 ^ 16)) ∧ w = w') := by
  rw [show (2 : Int) ^ 16 = 65536 from by decide]
  have hc2 := tmod4 hw hc
  have W1 : IntKind.u16.wrap x = x % 65536 := by rw [IntKind.wrap_u16]
  have W2 : IntKind.u64.wrap (x % 65536) = x % 65536 := by rw [IntKind.wrap_u64]; omega
  have W3 : x % 65536 % 18446744073709551616 = x % 65536 := by omega
  go_enter Tryd.func14, Tryd.ntmps14
  go_wp2
  go_ret
  exact ⟨rfl, rfl⟩

theorem lfit_1 (w0 : Int) (hw : 0 ≤ w0 ∧ w0 < 256) (hc : w0 % 4 = 1) (x : Int) (hx : 0 ≤ x ∧ x < 18446744073709551616) (w : World) : Calls Tryd.prog 14 #[.int .u8 w0, .int .u64 x] w (fun e w' => e = .returned (.int .u64 (x % 2 ^ 32)) ∧ w = w') := by
  rw [show (2 : Int) ^ 32 = 4294967296 from by decide]
  have hc2 := tmod4 hw hc
  have W1 : IntKind.u32.wrap x = x % 4294967296 := by rw [IntKind.wrap_u32]
  have W2 : IntKind.u64.wrap (x % 4294967296) = x % 4294967296 := by rw [IntKind.wrap_u64]; omega
  have W3 : x % 4294967296 % 18446744073709551616 = x % 4294967296 := by omega
  go_enter Tryd.func14, Tryd.ntmps14
  go_wp2
  go_ret
  exact ⟨rfl, rfl⟩

theorem lfit_2 (w0 : Int) (hw : 0 ≤ w0 ∧ w0 < 256) (hc : w0 % 4 = 2) (x : Int) (hx : 0 ≤ x ∧ x < 18446744073709551616) (w : World) : Calls Tryd.prog 14 #[.int .u8 w0, .int .u64 x] w (fun e w' => e = .returned (.int .u64 (x % 2 ^ 64)) ∧ w = w') := by
  rw [show (2 : Int) ^ 64 = 18446744073709551616 from by decide]
  have hc2 := tmod4 hw hc
  have HX := Lib.hid (show x % 18446744073709551616 = x by omega)
  go_enter Tryd.func14, Tryd.ntmps14
  go_wp2
  go_ret
  rw [HX.out]
  exact ⟨rfl, rfl⟩

theorem lfit_3 (w0 : Int) (hw : 0 ≤ w0 ∧ w0 < 256) (hc : w0 % 4 = 3) (x : Int) (hx : 0 ≤ x ∧ x < 18446744073709551616) (w : World) : Calls Tryd.prog 14 #[.int .u8 w0, .int .u64 x] w (fun e w' => e = .returned (.int .u64 (x % 2 ^ 32)) ∧ w = w') := by
  rw [show (2 : Int) ^ 32 = 4294967296 from by decide]
  have hc2 := tmod4 hw hc
  have W1 : IntKind.u32.wrap x = x % 4294967296 := by rw [IntKind.wrap_u32]
  have W2 : IntKind.u64.wrap (x % 4294967296) = x % 4294967296 := by rw [IntKind.wrap_u64]; omega
  have W3 : x % 4294967296 % 18446744073709551616 = x % 4294967296 := by omega
  go_enter Tryd.func14, Tryd.ntmps14
  go_wp2
  go_ret
  exact ⟨rfl, rfl⟩

theorem lfit_calls (w0 : Int) (hw : 0 ≤ w0 ∧ w0 < 256) (x : Int) (hx : 0 ≤ x ∧ x < 18446744073709551616) (w : World) :
    Calls Tryd.prog 14 #[.int .u8 w0, .int .u64 x] w (fun e w' => e = .returned (.int .u64 (x % 2 ^ (wd w0))) ∧ w = w') := by
  rcases (show w0 % 4 = 0 ∨ w0 % 4 = 1 ∨ w0 % 4 = 2 ∨ w0 % 4 = 3 by omega) with hc | hc | hc | hc
  · simp only [wd_0 hc] at *
    exact lfit_0 w0 hw hc x hx w
  · simp only [wd_1 hc] at *
    exact lfit_1 w0 hw hc x hx w
  · simp only [wd_2 hc] at *
    exact lfit_2 w0 hw hc x hx w
  · simp only [wd_3 hc] at *
    exact lfit_3 w0 hw hc x hx w

theorem fit_bd {W : Nat} (hW : Wide W) (x : Int) : 0 ≤ x % 2 ^ W ∧ x % 2 ^ W < 2 ^ W := by
  have := pow_wide hW
  exact ⟨Int.emod_nonneg _ (by omega), Int.emod_lt_of_pos _ (by omega)⟩
end Go.Proofs.YtmnabilgpndjmaaDoor

/- Printed by law4.py. -/
namespace Go.Proofs.YtmnabilgpndjmaaDoor
open Go.RowKit

theorem lwhole_0 (w0 : Int) (hw : 0 ≤ w0 ∧ w0 < 256) (hc : w0 % 4 = 0) (w : World) (hS : Shapes w) (hT : Tab w) (x : Int) (hx : 0 ≤ x ∧ x < 2 ^ 16) :
    Calls Tryd.prog 31 #[.int .u8 w0, .int .u64 x] w (RetIntB (intN 16 x) (intOk 16 x) w) := by
  have b0 : Below w.heap.size w (w.alloc (.cells #[.bool false, .slice none 0 0] 48)) := (Below.refl _ _).alloc (Nat.le_refl _) _
  have k0 : Cel (w.alloc (.cells #[.bool false, .slice none 0 0] 48)) w.heap.size 48 [.bool false, .slice none 0 0] := Cel.made _ _ _ _ rfl
  have hc2 := tmod4 hw hc
  rw [show (2 : Int) ^ 16 = 65536 from by decide] at hx
  have H := Lib.hid (iint_16 (w.alloc (.cells #[.bool false, .slice none 0 0] 48)) (hS.below b0 (Nat.le_refl _)) (hT.below b0 (Nat.le_refl _)) x hx)
  have W1 : IntKind.u16.wrap x = x := by rw [IntKind.wrap_u16]; omega
  have V1 : x % 65536 = x := by omega
  generalize intN 16 x = N at *
  generalize intOk 16 x = ok at *
  go_enter Tryd.func31, Tryd.ntmps31
  go_wp2_with fail
  refine (H.out).mono ?_
  rintro e w1 ⟨ad1, n1, d1, rfl, f1, b1⟩
  have k1 := k0.next b1
  have c0 := k1.cell 0 _ rfl
  have c1 := k1.cell 1 _ rfl
  have g0 := k1.free 0
  have g1 := k1.free 1
  go_wp2
  refine bodyPost_ret (results_row_tmp rfl _ _ w.heap.size 48 #[.bool (decide (N < 0)), .slice ad1 n1 d1] (0, 0) _ rfl ((k1.set 0 _).set 1 _).row Tryd.underlying48 rfl size_int) rfl ?_
  exact ⟨_, _, _, rfl, f1.poke2 k1 _ _, below_set (below_set (below_trans b0 b1) _ _ _ (Nat.le_refl _)) _ _ _ (Nat.le_refl _)⟩

theorem lwhole_1 (w0 : Int) (hw : 0 ≤ w0 ∧ w0 < 256) (hc : w0 % 4 = 1) (w : World) (hS : Shapes w) (hT : Tab w) (x : Int) (hx : 0 ≤ x ∧ x < 2 ^ 32) :
    Calls Tryd.prog 31 #[.int .u8 w0, .int .u64 x] w (RetIntB (intN 32 x) (intOk 32 x) w) := by
  have b0 : Below w.heap.size w (w.alloc (.cells #[.bool false, .slice none 0 0] 48)) := (Below.refl _ _).alloc (Nat.le_refl _) _
  have k0 : Cel (w.alloc (.cells #[.bool false, .slice none 0 0] 48)) w.heap.size 48 [.bool false, .slice none 0 0] := Cel.made _ _ _ _ rfl
  have hc2 := tmod4 hw hc
  rw [show (2 : Int) ^ 32 = 4294967296 from by decide] at hx
  have H := Lib.hid (iint_32 (w.alloc (.cells #[.bool false, .slice none 0 0] 48)) (hS.below b0 (Nat.le_refl _)) (hT.below b0 (Nat.le_refl _)) x hx)
  have W1 : IntKind.u32.wrap x = x := by rw [IntKind.wrap_u32]; omega
  have V1 : x % 4294967296 = x := by omega
  generalize intN 32 x = N at *
  generalize intOk 32 x = ok at *
  go_enter Tryd.func31, Tryd.ntmps31
  go_wp2_with fail
  refine (H.out).mono ?_
  rintro e w1 ⟨ad1, n1, d1, rfl, f1, b1⟩
  have k1 := k0.next b1
  have c0 := k1.cell 0 _ rfl
  have c1 := k1.cell 1 _ rfl
  have g0 := k1.free 0
  have g1 := k1.free 1
  go_wp2
  refine bodyPost_ret (results_row_tmp rfl _ _ w.heap.size 48 #[.bool (decide (N < 0)), .slice ad1 n1 d1] (0, 0) _ rfl ((k1.set 0 _).set 1 _).row Tryd.underlying48 rfl size_int) rfl ?_
  exact ⟨_, _, _, rfl, f1.poke2 k1 _ _, below_set (below_set (below_trans b0 b1) _ _ _ (Nat.le_refl _)) _ _ _ (Nat.le_refl _)⟩

theorem lwhole_2 (w0 : Int) (hw : 0 ≤ w0 ∧ w0 < 256) (hc : w0 % 4 = 2) (w : World) (hS : Shapes w) (hT : Tab w) (x : Int) (hx : 0 ≤ x ∧ x < 2 ^ 64) :
    Calls Tryd.prog 31 #[.int .u8 w0, .int .u64 x] w (RetIntB (intN 64 x) (intOk 64 x) w) := by
  have b0 : Below w.heap.size w (w.alloc (.cells #[.bool false, .slice none 0 0] 48)) := (Below.refl _ _).alloc (Nat.le_refl _) _
  have k0 : Cel (w.alloc (.cells #[.bool false, .slice none 0 0] 48)) w.heap.size 48 [.bool false, .slice none 0 0] := Cel.made _ _ _ _ rfl
  have hc2 := tmod4 hw hc
  rw [show (2 : Int) ^ 64 = 18446744073709551616 from by decide] at hx
  have H := Lib.hid (iint_64 (w.alloc (.cells #[.bool false, .slice none 0 0] 48)) (hS.below b0 (Nat.le_refl _)) (hT.below b0 (Nat.le_refl _)) x hx)
  generalize intN 64 x = N at *
  generalize intOk 64 x = ok at *
  go_enter Tryd.func31, Tryd.ntmps31
  go_wp2_with fail
  refine (H.out).mono ?_
  rintro e w1 ⟨ad1, n1, d1, rfl, f1, b1⟩
  have k1 := k0.next b1
  have c0 := k1.cell 0 _ rfl
  have c1 := k1.cell 1 _ rfl
  have g0 := k1.free 0
  have g1 := k1.free 1
  go_wp2
  refine bodyPost_ret (results_row_tmp rfl _ _ w.heap.size 48 #[.bool (decide (N < 0)), .slice ad1 n1 d1] (0, 0) _ rfl ((k1.set 0 _).set 1 _).row Tryd.underlying48 rfl size_int) rfl ?_
  exact ⟨_, _, _, rfl, f1.poke2 k1 _ _, below_set (below_set (below_trans b0 b1) _ _ _ (Nat.le_refl _)) _ _ _ (Nat.le_refl _)⟩

theorem lwhole_3 (w0 : Int) (hw : 0 ≤ w0 ∧ w0 < 256) (hc : w0 % 4 = 3) (w : World) (hS : Shapes w) (hT : Tab w) (x : Int) (hx : 0 ≤ x ∧ x < 2 ^ 32) :
    Calls Tryd.prog 31 #[.int .u8 w0, .int .u64 x] w (RetIntB (intN 32 x) (intOk 32 x) w) := by
  have b0 : Below w.heap.size w (w.alloc (.cells #[.bool false, .slice none 0 0] 48)) := (Below.refl _ _).alloc (Nat.le_refl _) _
  have k0 : Cel (w.alloc (.cells #[.bool false, .slice none 0 0] 48)) w.heap.size 48 [.bool false, .slice none 0 0] := Cel.made _ _ _ _ rfl
  have hc2 := tmod4 hw hc
  rw [show (2 : Int) ^ 32 = 4294967296 from by decide] at hx
  have H := Lib.hid (iint_Own (w.alloc (.cells #[.bool false, .slice none 0 0] 48)) (hS.below b0 (Nat.le_refl _)) (hT.below b0 (Nat.le_refl _)) x hx)
  have W1 : IntKind.u32.wrap x = x := by rw [IntKind.wrap_u32]; omega
  have V1 : x % 4294967296 = x := by omega
  generalize intN 32 x = N at *
  generalize intOk 32 x = ok at *
  go_enter Tryd.func31, Tryd.ntmps31
  go_wp2_with fail
  refine (H.out).mono ?_
  rintro e w1 ⟨ad1, n1, d1, rfl, f1, b1⟩
  have k1 := k0.next b1
  have c0 := k1.cell 0 _ rfl
  have c1 := k1.cell 1 _ rfl
  have g0 := k1.free 0
  have g1 := k1.free 1
  go_wp2
  refine bodyPost_ret (results_row_tmp rfl _ _ w.heap.size 48 #[.bool (decide (N < 0)), .slice ad1 n1 d1] (0, 0) _ rfl ((k1.set 0 _).set 1 _).row Tryd.underlying48 rfl size_int) rfl ?_
  exact ⟨_, _, _, rfl, f1.poke2 k1 _ _, below_set (below_set (below_trans b0 b1) _ _ _ (Nat.le_refl _)) _ _ _ (Nat.le_refl _)⟩

theorem lwhole_calls (w0 : Int) (hw : 0 ≤ w0 ∧ w0 < 256) (w : World) (hS : Shapes w) (hT : Tab w) (x : Int) (hx : 0 ≤ x ∧ x < 2 ^ wd w0) :
    Calls Tryd.prog 31 #[.int .u8 w0, .int .u64 x] w (RetIntB (intN (wd w0) x) (intOk (wd w0) x) w) := by
  rcases (show w0 % 4 = 0 ∨ w0 % 4 = 1 ∨ w0 % 4 = 2 ∨ w0 % 4 = 3 by omega) with hc | hc | hc | hc
  · simp only [wd_0 hc] at *
    exact lwhole_0 w0 hw hc w hS hT x hx
  · simp only [wd_1 hc] at *
    exact lwhole_1 w0 hw hc w hS hT x hx
  · simp only [wd_2 hc] at *
    exact lwhole_2 w0 hw hc w hS hT x hx
  · simp only [wd_3 hc] at *
    exact lwhole_3 w0 hw hc w hS hT x hx
end Go.Proofs.YtmnabilgpndjmaaDoor
