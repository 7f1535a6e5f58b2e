/- Printed by ieee2.py. -/
import Derived.Test.YtmnabilgpndjmaaDoorSplitOwn
import Derived.Test.YtmnabilgpndjmaaDoorCompareOwn
set_option linter.unusedVariables false
set_option linter.unusedSimpArgs false
namespace Go.Proofs.YtmnabilgpndjmaaDoor
open Go.RowKit

theorem total_Own (w : World) (hS : Shapes w) (x y : Int) (hx : 0 ≤ x ∧ x < 4294967296) (hy : 0 ≤ y ∧ y < 4294967296) : Calls Tryd.prog 57 #[.int .u32 x, .int .u32 y] w (fun e w' => e = .returned (.int .i64 (totalW 32 x y)) ∧ Below w.heap.size w w') := by
  have HC := Lib.hid (show totalW 32 x y = if negW 32 x then (if negW 32 y then cmpI y x else -1) else (if negW 32 y then 1 else cmpI x y) from rfl)
  have H1 := Lib.hid (split_Own w hS x hx)
  have H2 := Lib.hid (fun (w : World) (hS : Shapes w) => split_Own w hS y hy)
  generalize totalW 32 x y = C at *
  generalize negW 32 x = n1 at *
  generalize negW 32 y = n2 at *
  generalize sizeW 32 x = s1 at *
  generalize sizeW 32 y = s2 at *
  cases n1 <;> cases n2
  · have HR := Lib.hid (show C = cmpI x y from HC.out)
    clear HC
    go_enter Tryd.func57, Tryd.ntmps57
    go_wp2_with fail
    refine (H1.out).mono ?_
    rintro e w1 ⟨rfl, b1⟩
    have HS2 := Lib.hid (H2.out w1 (hS.below b1 (Nat.le_refl _)))
    go_wp2_with fail
    refine (HS2.out).mono ?_
    rintro e w2 ⟨rfl, b2⟩
    go_wp2_with fail
    refine (compare_TOwn x y w2).mono ?_
    rintro e w' ⟨rfl, rfl⟩
    go_wp2
    go_ret
    rw [HR.out]
    exact ⟨rfl, below_trans b1 (b2)⟩
  · have HR := Lib.hid (show C = 1 from HC.out)
    clear HC
    go_enter Tryd.func57, Tryd.ntmps57
    go_wp2_with fail
    refine (H1.out).mono ?_
    rintro e w1 ⟨rfl, b1⟩
    have HS2 := Lib.hid (H2.out w1 (hS.below b1 (Nat.le_refl _)))
    go_wp2_with fail
    refine (HS2.out).mono ?_
    rintro e w2 ⟨rfl, b2⟩
    go_wp2
    go_ret
    rw [HR.out]
    exact ⟨rfl, below_trans b1 (b2)⟩
  · have HR := Lib.hid (show C = -1 from HC.out)
    clear HC
    go_enter Tryd.func57, Tryd.ntmps57
    go_wp2_with fail
    refine (H1.out).mono ?_
    rintro e w1 ⟨rfl, b1⟩
    have HS2 := Lib.hid (H2.out w1 (hS.below b1 (Nat.le_refl _)))
    go_wp2_with fail
    refine (HS2.out).mono ?_
    rintro e w2 ⟨rfl, b2⟩
    go_wp2
    go_ret
    rw [HR.out]
    exact ⟨rfl, below_trans b1 (b2)⟩
  · have HR := Lib.hid (show C = cmpI y x from HC.out)
    clear HC
    go_enter Tryd.func57, Tryd.ntmps57
    go_wp2_with fail
    refine (H1.out).mono ?_
    rintro e w1 ⟨rfl, b1⟩
    have HS2 := Lib.hid (H2.out w1 (hS.below b1 (Nat.le_refl _)))
    go_wp2_with fail
    refine (HS2.out).mono ?_
    rintro e w2 ⟨rfl, b2⟩
    go_wp2_with fail
    refine (compare_TOwn y x w2).mono ?_
    rintro e w' ⟨rfl, rfl⟩
    go_wp2
    go_ret
    rw [HR.out]
    exact ⟨rfl, below_trans b1 (b2)⟩
end Go.Proofs.YtmnabilgpndjmaaDoor
